import Derived.Test.YtnpbcnjoljebfaaGreatAbA
import Derived.Orders
import Derived.Tactics
import Derived.OrdersIn
import Derived.TacticsIn
import Derived.LoopNIn
import Derived.RangeFuncCalls
import Derived.RangeFuncIn
import Derived.RangeFuncRecord
import Derived.RangeFuncSeq
/- The abstract machine, and that the code of the model does what its slim code says. -/
set_option linter.unusedVariables false
set_option linter.defProp false
set_option linter.unusedSimpArgs false
set_option linter.unnecessarySimpa false
set_option maxRecDepth 100000
set_option maxHeartbeats 8000000
namespace Go.Ab
def za4:=@List.getElem?_eq_getElem
def zbk:=@List.map_nil
def zba:=@Bool.true_and
def zbY:=@List.getElem?_cons_zero
def zay:=@Array.getElem?_setIfInBounds_ne
def zbh:=@Bool.or_eq_true
def zcl:=@Bool.not_eq_true'
def zcx:=@Go.mem_ready
def zca:=@Go.Oper.semAt_eq
def zbf:=@Go.wpIn_region_list
def zbb:=@Nat.le_max_right
def zbd:=@Nat.le_max_left
def zci:=@Nat.zero_le
def zbQ:=@Go.wpIn_seq
def zc2:=@Go.wpIn_cond_false
def zcQ:=@Go.wpIn_ret
def zaF:=@Go.World.putObj_heap_other
def zb9:=@Go.World.size_alloc
def zc3:=@List.drop_eq_getElem_cons
def zb3:=@Go.World.putObj_heap_same
def zcT:=@Option.some.inj
def zar:=@List.drop_zero
def zcy:=@List.nodup_cons
def zaX:=@List.drop_eq_nil_of_le
end Go.Ab
namespace Go.Ab
section
variable {P:Program} {ns:Names} {G:Gh} {w:World}
def Gh.freeze(G:Gh)(b:Nat)(c:Array Value):Gh:=
 {G with K:=fun k o=>if k=b then c[o]? else G.K k o,role:=fun k=>if k=b then .d9 else G.role k}
theorem Inv.freeze{mem:List (Nat×List AV)}{sh:Sh}{aa:aG}(hi:Inv (num ns) G w mem sh aa){s b:Nat}{cells:List AV}{c:Array Value}{t:TypeId}
   (hr:G.role b=.shr s) (x:w.heap[b]?=some (.cells c t (0,0))):
   Inv (num ns) (G.freeze b c) w mem (sh.set s none) aa∧G.le (G.freeze b c)∧bL G w (G.freeze b c) w:=by
 have hK:G.K.le (G.freeze b c).K:=fun k o v a=>by
  simp only[Gh.freeze];rw[zad]
  ·exact a
  ·rintro rfl
   rcases hi.a_ _ _ _ a with h|⟨τ,h⟩<;>rw[hr]at h<;>simp at h
 have m:G.le (G.freeze b c):=⟨hK,fun _ _ h=>h,fun _ _ h=>h,fun _ t h=>⟨t,h,⟨zaj _,t.iV⟩,fun _=>rfl⟩⟩
 have f:∀k r,G.role k=r->r≠.shr s->(G.freeze b c).role k=r:=by
  intro k r a hn;simp only[Gh.freeze];rw[zad]
  ·exact a
  ·rintro rfl;exact hn (a.symm.trans hr)
 have l:bL G w (G.freeze b c) w:={
           size:=zaj _,os:=rfl,tape:=rfl,output:=rfl,K:=hK,sm:=fun _ _ h=>h,
           d9:=fun k _ a=>⟨f k _ a (by simp),rfl⟩
           jR:=fun k τ _ a=>.inr ⟨τ,f k _ a (by simp)⟩
           i_:=fun k o v _ a p=>by
            simp only[Gh.freeze]at p
            rwa [zad (by rintro rfl;rw[hr]at a;simp at a)]at p}
 refine⟨⟨?_,?_,?_,?_,hi.i7,?_,?_,?_,hi.gX,hi.jS l⟩,m,l⟩
 ·intro k o v a;simp only[Gh.freeze]at a;split at a
  ·rename_i e;subst e;simp[World.cell?,x,a]
  ·exact hi.known k o v a
 ·intro k o v a;simp only[Gh.freeze]at a;split at a
  ·rename_i e;subst e;left;simp[Gh.freeze]
  ·rename_i e;simp only[Gh.freeze,zad e];exact hi.a_ k o v a
 ·intro k a;simp only[Gh.freeze];split
  ·rfl
  ·exact hi.fresh k a
 ·intro d cs hd;obtain⟨i,e1,e2,e3⟩:=hi.cV d cs hd;exact⟨i,e1,e2.mono m ((f i _ e2.role (by simp)).trans e2.role.symm) rfl,e3⟩
 ·intro s' cs g;rw[zaA]at g;split at g
  ·split at g<;>simp at g
  ·rename_i q;obtain⟨i,e1,e2,e3⟩:=hi.dU s' cs g;exact⟨i,e1,e2.mono m ((f i.1 _ e2.role (by simp;exact fun h=>q h.symm)).trans e2.role.symm) rfl,e3⟩
 ·intro s' i h;simpa using hi.gO s' i h
 ·intro τ n hn;obtain⟨tk,e1,e2,e3⟩:=hi.dp τ n hn;refine⟨tk,e1,e2,e3.cap,e3.zero,fun u=>?_⟩;obtain⟨i,o,z,ty,f1,f2,f3,y,f5⟩:=e3.spare u;refine⟨i,o,z,ty,f1,f i _ f2 (by simp),f3,y,fun j v a=>f5 j v ?_⟩;simp only[Gh.freeze]at a
  rwa [zad (by rintro rfl;rw[hr]at f2;simp at f2)]at a
def kU(ns:Names)(G G':Gh)(sh:Sh)(ks:List Nat):Prop:=
 ∀s∈ks,∀cells,sh[s]?=some (some cells)->dE cells=false->∃b vs,G.sm s=some b∧At G'.K b.1 0 vs∧aB (num ns) G' cells vs
theorem Aw{sh:Sh}{s:Nat}(h:∀cells,sh[s]?≠some (some cells)):sh.set s none=sh:=by
 apply zb1
 intro j;rw[zaA];split
 ·rename_i e;subst e;split
  ·rename_i a;cases b:sh[s]with
   |none=>rw[za4 a,b]
   |some cells=>exact absurd (by rw[za4 a,b]) (h cells)
  ·rename_i c;rw[zaV (by omega)]
 ·rfl
theorem Inv.drop{mem:List (Nat×List AV)}{sh:Sh}{aa:aG}{G:Gh}(hi:Inv (num ns) G w mem sh aa)(s:Nat):Inv (num ns) G w mem (sh.set s none) aa:=
 { hi with
  dU:=fun s' cells hs=>by
   rw[zaA]at hs;split at hs
   ·split at hs<;>simp at hs
   ·exact hi.dU s' cells hs
  gO:=fun s' b h=>by simpa using hi.gO s' b h}
theorem Inv.kill{mem:List (Nat×List AV)}{aa:aG}:∀(ks:List Nat){sh:Sh}{G:Gh},Inv (num ns) G w mem sh aa->
   ∃G',Inv (num ns) G' w mem (kill sh ks) aa∧G.le G'∧bL G w G' w∧kU ns G G' sh ks∧G'.sm=G.sm
 |[],sh,G,hi=>⟨G,hi,G.le_refl,bL.refl G w,fun s h=>by simp at h,rfl⟩
 |s::ks,sh,G,hi=>by
  have n:Go.Ab.kill sh (s::ks)=Go.Ab.kill (sh.set s none) ks:=rfl;by_cases hs:∃cells,sh[s]?=some (some cells)
  ·obtain⟨cells,hs⟩:=hs;obtain⟨b,e1,e2,_⟩:=hi.dU s cells hs;cases l:dE cells with
   |true=>
    obtain⟨G',h1,h2,h3,h4,h5⟩:=Inv.kill ks (hi.drop s);refine⟨G',by rw[n];exact h1,h2,h3,?_,h5⟩;intro s' a cells' d f;by_cases g:s'=s
    ·subst g;rw[hs]at d;cases d;rw[l]at f;cases f
    ·simp only[zah]at a;exact h4 s' (a.resolve_left g) cells' (by rw[zaA,zad (fun e=>g e.symm)];exact d) f
   |false=>
   obtain⟨hr,c,t,vs,suf,o,_,m,k⟩:=e2.cells l;obtain⟨g1,g2,p⟩:=hi.freeze (cells:=cells) hr o;obtain⟨G',h1,h2,h3,h4,h5⟩:=Inv.kill ks g1;refine⟨G',by rw[n];exact h1,Gh.le_trans g2 h2,p.trans h3,?_,h5⟩;intro s' a cells' d f;by_cases g:s'=s
   ·subst g;rw[hs]at d;cases d;refine⟨b,vs,e1,?_,aB.mono (Gh.le_trans g2 h2) k⟩;intro j v hj;apply h2.K;simp only[Gh.freeze,za0,zbB];have:c.toList[j]?=some v:=by rw[m,zal (zaa.1 hj).1];exact hj
    simpa using this
   ·simp only[zah]at a;have:=h4 s' (a.resolve_left g) cells' (by rw[zaA,zad (fun e=>g e.symm)];exact d) f;exact this
  ·have i:=Aw (sh:=sh) (s:=s) (fun cells h=>hs ⟨cells,h⟩);obtain⟨G',h1,h2,h3,h4,h5⟩:=Inv.kill ks hi;refine⟨G',by rw[n,i];exact h1,h2,h3,?_,h5⟩;intro s' a cells' d f;simp only[zah]at a;rcases a with rfl|a
   ·exact absurd ⟨cells',d⟩ hs
   ·exact h4 s' a cells' d f
theorem Ia{cs:List AV}{ps:List PV}(h:eY cs=some ps):dE cs=false:=by
 cases cs with
 |nil=>rfl
 |cons c cs=>cases c<;>first|rfl|simp[eY,i5]at h
theorem Ax:∀{cs:List AV}{ps:List PV}{vs:List Value},eY cs=some ps->cs.all aZ=true->aB (num ns) G cs vs->dJ G.K ps vs
 |[],ps,vs,h,_,hr=>by simp[eY]at h;subst h;simp only[aB]at hr;simp[dJ,hr]
 |c::cs,ps,vs,h,hl,hr=>by
  simp only[eY]at h;simp only[zaS,zaf]at hl;split at h
  ·rename_i p a h1 h2;simp at h;subst h;simp only[aB]at hr;obtain⟨v,r,rfl,e1,e2⟩:=hr;simp only[dJ];exact⟨v,r,rfl,(po h1 e1).Lj (qv h1 hl.1),Ax h2 hl.2 e2⟩
  ·simp at h
theorem wG{K:bo}{b sz:Nat}:∀(n:Nat){ps:List PV}{vs:List Value}{o:Nat},dJ K ps vs->ps.length=n*sz->At K b o vs->Row K b o sz ((chunk sz n ps).map .agg)
 |0,_,_,_,_,_,_=>by simp only[chunk,zbk,Row]
 |n+1,ps,vs,o,hr,hl,a=>by
  have c:=hr.length;rw[zaD]at hl;simp only[chunk,zao,Row];refine⟨⟨vs.take sz,by simp;omega,?_,?_⟩,wG n (dJ.drop sz hr) (by simp;omega) ?_⟩
  ·intro j v hj;rw[zbE]at hj;split at hj
   ·exact a j v hj
   ·simp at hj
  ·simp only[R];exact⟨trivial,dJ.take sz hr⟩
  ·intro j v hj;rw[zbV]at hj;have:=a _ v hj
   rwa [<-zbp]at this
theorem py{sz:Nat}:∀(n:Nat)(ps:List PV),(chunk sz n ps).length=n
 |0,_=>rfl
 |n+1,ps=>by simp[chunk,py n]
theorem tU{K:bo}{b:Nat}:∀{ps:List PV}{vs:List Value}{o:Nat},dJ K ps vs->At K b o vs->Row K b o 1 ps
 |[],_,_,_,_=>by simp only[Row]
 |p::ps,vs,o,hr,a=>by
  simp only[dJ]at hr;obtain⟨v,r,rfl,e1,e2⟩:=hr;simp only[Row];refine⟨⟨[v],rfl,?_,R.top e1⟩,tU e2 ?_⟩
  ·intro j u hj;cases j with
   |zero=>simp at hj;subst hj;exact a 0 v rfl
   |succ j=>simp at hj
  ·intro j u hj;have:=a (j+1) u (by simpa using hj)
   rwa [show o+(j+1)=o+1+j from by omega]at this
theorem Lp{l:List AV}(n:Nat)(h:l.all aZ=true):(l.take n).all aZ=true:=by
 rw[zaq]at h⊢;exact fun x hx=>h x (za7 hx)
theorem pz{G':Gh}{sh:Sh}{ks:List Nat}{x:AV}{p:PV}{v:Value}(i:G.le G')(hf:kU ns G G' sh ks)(hl:∀(s:Nat)(cells:List AV),sh[s]?=some (some cells)->cells.all aZ=true)
   (m:∀s∈gN x,s∈ks) (hx:∀cs,x≠.agg cs) (h:dX sh x=some p) (hr:aD (num ns) G x v):Rel G'.K p v:=by
 cases x with
 |bh s sz n ag=>
  simp only[dX]at h;split at h
  ·rename_i cells k
   have key:∀ps els,eY (cells.take (n*sz))=some ps->dE cells=false->n*sz<=cells.length->gG sz ag n ps=some els->Rel G'.K (.aq els) v:=by
    intro ps els h1 d a h2;obtain⟨b,vs,e1,e2,e3⟩:=hf s (m s (by simp[gN])) cells k d;simp only[aD]at hr;obtain⟨o,cap,l,rfl,_⟩:=hr;rw[e1]at l;cases l;have e:aB (num ns) G' (cells.take (n*sz)) (vs.take (n*sz)):=e3.take _
    have f:At G'.K b.1 0 (vs.take (n*sz)):=by
     intro j u hj;rw[zbE]at hj;split at hj
     ·exact e2 j u hj
     ·simp at hj
    have c:=Ax h1 (Lp _ (hl s cells k)) e;have g:ps.length=n*sz:=(by rw[<-c.length,e.length,zbP];omega);unfold gG at h2;split at h2
    ·simp at h2;subst h2;refine cq.2 ⟨_,_,_,rfl,by omega,by simp[py],.inr ⟨b.1,0,sz,rfl,wG n c g f⟩⟩
    ·simp only[zab,zae]at h2;obtain⟨rfl,rfl⟩:=h2;exact cq.2 ⟨_,_,_,rfl,by omega,by omega,.inr ⟨b.1,0,1,rfl,tU c f⟩⟩
   split at h
   ·rename_i a;simp only[zac,zaz]at h;obtain⟨els,⟨ps,h1,h2⟩,rfl⟩:=h;exact key ps els (by rw[zaw (by omega)];exact h1) (Ia h1) (by omega) h2
   ·simp only[zab,zac,zaz]at h;obtain⟨⟨d,a⟩,els,⟨ps,h1,h2⟩,rfl⟩:=h;exact key ps els h1 d a h2
  ·simp at h
 |agg cs=>exact absurd rfl (hx cs)
 |_=>simp only[dX]at h;exact(po h hr).mono i.K
theorem v5{sh:Sh}{x:AV}{p:PV}(h:dX sh x=some p)(hl:aZ x=true):i6 p=true:=by
 cases x with
 |bh s sz n ag=>
  simp only[dX]at h;split at h
  ·split at h
   ·simp only[zac]at h;obtain⟨els,_,rfl⟩:=h;rfl
   ·simp only[zab,zac]at h;obtain⟨_,els,_,rfl⟩:=h;rfl
  ·simp at h
 |_=>simp only[dX]at h;exact qv h hl
theorem x7{x:AV}(h:aZ x=true):∀cs,x≠.agg cs:=by
 rintro cs rfl;simp[aZ]at h
theorem oK{G':Gh}{sh:Sh}{ks:List Nat}(b:G.le G')(hf:kU ns G G' sh ks)(hl:∀(s:Nat)(cells:List AV),sh[s]?=some (some cells)->cells.all aZ=true):
   ∀{cs:List AV}{ps:List PV}{vs:List Value},(∀s∈gN (.agg cs),s∈ks)->eA sh cs=some ps->aB (num ns) G cs vs->dJ G'.K ps vs
 |[],ps,vs,_,h,hr=>by simp[eA]at h;subst h;simp only[aB]at hr;simp[dJ,hr]
 |c::cs,ps,vs,d,h,hr=>by
  simp only[eA,zab]at h;obtain⟨a,h⟩:=h;split at h
  ·rename_i p e h1 h2;simp at h;subst h;simp only[aB]at hr;obtain⟨v,r,rfl,e1,e2⟩:=hr;simp only[dJ];refine⟨v,r,rfl,(pz b hf hl ?_ (x7 a) h1 e1).Lj (v5 h1 a),oK b hf hl ?_ h2 e2⟩
   ·intro s hs;refine d s ?_;simp only[gN,zas,zai];left;cases c<;>simp_all[gN,aZ]
   ·intro s hs;refine d s ?_;simp only[gN,zas,zai]at hs⊢;exact .inr hs
  ·simp at h
theorem tV{G':Gh}{sh:Sh}{ks:List Nat}(b:G.le G')(hf:kU ns G G' sh ks)(hl:∀(s:Nat)(cells:List AV),sh[s]?=some (some cells)->cells.all aZ=true)
   {x:AV} {p:PV} {v:Value} (c:∀s∈gN x,s∈ks) (h:ej sh x=some p) (hr:aD (num ns) G x v):Rel G'.K p v:=by
 by_cases hx:∃cs,x=.agg cs
 ·obtain⟨cs,rfl⟩:=hx;simp only[ej,zac]at h;obtain⟨ps,h1,rfl⟩:=h;simp only[aD]at hr;obtain⟨vs,rfl,hr⟩:=hr;simp only[Rel];exact⟨vs,rfl,oK b hf hl c h1 hr⟩
 ·have a:∀cs,x≠.agg cs:=fun cs e=>hx ⟨cs,e⟩;have:ej sh x=dX sh x:=by cases x<;>first|rfl|exact absurd rfl (a _)
  rw[this]at h;exact pz b hf hl c a h hr
theorem rK{G':Gh}{sh:Sh}{ks:List Nat}(a:G.le G')(hf:kU ns G G' sh ks)(hl:∀(s:Nat)(cells:List AV),sh[s]?=some (some cells)->cells.all aZ=true):
   ∀{xs:List AV}{ps:List PV}{vs:List Value},(∀s∈xs.flatMap gN,s∈ks)->dx sh xs=some ps->aB (num ns) G xs vs->lK G'.K ps vs
 |[],ps,vs,_,h,hr=>by simp[dx]at h;subst h;simp only[aB]at hr;exact hr
 |c::cs,ps,vs,b,h,hr=>by
  simp only[dx]at h;split at h
  ·rename_i p d h1 h2;simp at h;subst h;simp only[aB]at hr;obtain⟨v,r,rfl,e1,e2⟩:=hr;simp only[zas,zai]at b;exact⟨v,r,rfl,tV a hf hl (fun s hs=>b s (.inl hs)) h1 e1,rK a hf hl (fun s hs=>b s (.inr hs)) h2 e2⟩
  ·simp at h
theorem Inv.x8{mem:List (Nat×List AV)}{sh:Sh}{aa:aG}(hi:Inv (num ns) G w mem sh aa):∀(s:Nat)(cells:List AV),sh[s]?=some (some cells)->cells.all aZ=true:=by
 intro s cells hs;obtain⟨b,_,_,e3,_⟩:=hi.dU s cells hs;exact lP e3
end
end Go.Ab
namespace Go.Ab
section
variable {ns:Names} {G:Gh} {w:World}
mutual
theorem h_{ρ:bU}{G':Gh}(hK:G.K.le G'.K)(hs:∀s b,G.sm s=some b->G'.sm s=some b):∀{x:AV}{v:Value},bq x=true->aD ρ G x v->aD ρ G' x v
 | .pv p,_,_,h=>by simp only[aD]at h⊢;exact h.mono hK
 | .un,_,_,h=>by simpa only[aD]using h
 | .cQ _,_,_,h=>by simp only[aD]at h⊢;obtain⟨b,l,e,r⟩:=h;exact⟨b,l,e,r.mono hK⟩
 | .aI s o,_,_,h=>by simp only[aD]at h⊢;obtain⟨b,e,r⟩:=h;exact⟨b,hs _ _ e,r⟩
 | .bh s _ n _,_,_,h=>by simp only[aD]at h⊢;obtain⟨b,c,e,r⟩:=h;exact⟨b,c,hs _ _ e,r⟩
 | .dQ _,_,_,h=>by simp only[aD]at h⊢;obtain⟨b,o,vs,e,f,r⟩:=h;exact⟨b,o,vs,e,f.mono hK,dJ.mono hK _ _ r⟩
 | .ic,_,_,h=>by simpa only[aD]using h
 | .jN s,_,_,h=>by simp only[aD]at h⊢;obtain⟨b,e,r⟩:=h;exact⟨b,hs _ _ e,r⟩
 | .ql s _ _,_,_,h=>by simp only[aD]at h⊢;obtain⟨b,x,c,e,r⟩:=h;exact⟨b,x,c,hs _ _ e,r⟩
 | .fM _,_,_,h=>by simp only[aD]at h
 | .fn g cap,_,hp,h=>by
  simp only[bq]at hp;simp only[aD]at h⊢;obtain⟨f,vs,e1,e2,r⟩:=h;exact⟨f,vs,e1,e2,nC hK hs hp r⟩
 | .agg cs,_,hp,h=>by
  simp only[bq]at hp;simp only[aD]at h⊢;obtain⟨vs,e,r⟩:=h;exact⟨vs,e,nC hK hs hp r⟩
 | .qj cs,_,hp,h=>by
  simp only[bq]at hp;simp only[aD]at h⊢;obtain⟨vs,e,r⟩:=h;exact⟨vs,e,nC hK hs hp r⟩
 | .own _ _,_,hp,_=>by simp[bq]at hp
 | .au _ _,_,hp,_=>by simp[bq]at hp
 | .sD _ _,_,hp,_=>by simp[bq]at hp
theorem nC{ρ:bU}{G':Gh}(hK:G.K.le G'.K)(hs:∀s b,G.sm s=some b->G'.sm s=some b):∀{xs:List AV}{vs:List Value},bq.dP xs=true->aB ρ G xs vs->aB ρ G' xs vs
 |[],_,_,h=>by simpa only[aB]using h
 |x::xs,_,hp,h=>by
  simp only[bq.dP,zaf]at hp;simp only[aB]at h⊢;obtain⟨v,r,e,e1,e2⟩:=h;exact⟨v,r,e,h_ hK hs hp.1 e1,nC hK hs hp.2 e2⟩
end
mutual
theorem lX:∀{x:AV},bJ x=true->bq x=true
 | .pv _,_=>rfl
 | .aI ..,_=>rfl
 | .bh ..,_=>rfl
 | .ic,_=>rfl
 | .jN _,_=>rfl
 | .fM _,_=>rfl
 | .ql ..,h=>by simp[bJ]at h
 | .fn _ cap,h=>by simp only[bJ]at h;simp only[bq];exact oL h
 | .un,h=>by simp[bJ]at h
 | .cQ _,h=>by simp[bq]
 | .own _ _,h=>by simp[bJ]at h
 | .agg _,h=>by simp only[bJ]at h;simp only[bq];exact oL h
 | .qj _,h=>by simp[bJ]at h
 | .au _ _,h=>by simp[bJ]at h
 | .sD _ _,h=>by simp[bJ]at h
 | .dQ _,h=>by simp[bJ]at h
theorem oL:∀{xs:List AV},bJ.iG xs=true->bq.dP xs=true
 |[],_=>rfl
 |x::xs,h=>by
  simp only[bJ.iG,zaf]at h;simp only[bq.dP,zaf];exact⟨lX h.1,oL h.2⟩
end
theorem Ib{ρ:bU}{G':Gh}(hK:G.K.le G'.K)(hs:∀s b,G.sm s=some b->G'.sm s=some b)(a:∀τ t,G.tk τ=some t->G'.tk τ=some t){x:AV}{v:Value}(hf:oi x=true)(h:aD ρ G x v):aD ρ G' x v:=by
 cases x with
 |own l τ=>
  simp only[aD]at h⊢;obtain⟨t,e1,e2,e3,e4⟩:=h;exact⟨t,a _ _ e1,e2,e3.mono hK,fun hl=>⟨(e4 hl).1,Pl (e4 hl).2 fun⟨b,o,e,r⟩=>⟨b,o,e,Row.mono hK _ _ _ _ r⟩⟩⟩
 |_=>exact h_ hK hs (by simpa[oi]using hf) h
theorem oM{ρ:bU}{G':Gh}(hK:G.K.le G'.K)(hs:∀s b,G.sm s=some b->G'.sm s=some b)(a:∀τ t,G.tk τ=some t->G'.tk τ=some t):∀{xs:List AV}{vs:List Value},gW xs=true->aB ρ G xs vs->aB ρ G' xs vs
 |[],_,_,h=>by simpa only[aB]using h
 |x::xs,_,hp,h=>by
  simp only[gW,zaf]at hp;simp only[aB]at h⊢;obtain⟨v,r,e,e1,e2⟩:=h;exact⟨v,r,e,Ib hK hs a hp.1 e1,oM hK hs a hp.2 e2⟩
theorem tW{x:AV}(h:aZ x=true):bq x=true∨∃l τ,x=.own l τ:=by
 cases x with
 |own l τ=>exact .inr ⟨l,τ,rfl⟩
 |fn g cap=>exact .inl (lX (by simpa[aZ]using h))
 |pv p=>exact .inl rfl
 |cQ _=>exact .inl rfl
 |aI _ _=>exact .inl rfl
 |bh _ _ _ _=>exact .inl rfl
 |ic=>exact .inl rfl
 |jN _=>exact .inl rfl
 |fM _=>exact .inl rfl
 |_=>simp[aZ]at h
theorem dF{live:List Nat}{env:List (Nat×AV)}:∀{l:List Nat}{t:Nat}{v:AV},look (bz live env l) t=some v->look env t=some v∧gE live v=true∧t∈l
 |[],t,v,h=>by simp[bz,look]at h
 |s::l,t,v,h=>by
  simp only[bz]at h;split at h
  ·rename_i u hu;split at h
   ·rename_i a;simp only[look]at h;split at h
    ·rename_i e;subst e;cases h;exact⟨hu,a,by simp⟩
    ·obtain⟨h1,h2,h3⟩:=dF h;exact⟨h1,h2,by simp[h3]⟩
   ·obtain⟨h1,h2,h3⟩:=dF h;exact⟨h1,h2,by simp[h3]⟩
  ·obtain⟨h1,h2,h3⟩:=dF h;exact⟨h1,h2,by simp[h3]⟩
theorem dG{mem:List (Nat×List AV)}:∀{l:List Nat}{t:Nat},look (bG mem l) t=if t∈l then look mem t else none
 |[],t=>by simp[bG,look]
 |s::l,t=>by
  simp only[bG];by_cases b:s=t
  ·subst b;cases hm:look mem s with
   |none=>simp only[hm];rw[dG,hm];simp
   |some v=>simp[look]
  ·have a:t≠s:=fun e=>b e.symm;cases hm:look mem s with
   |none=>simp only[hm];rw[dG];simp[a]
   |some v=>simp only[look,b,zbg];rw[dG];simp[a]
def Gh.aW(G:Gh)(live:List Nat):Gh:={G with pm:=fun d=>if d∈live then G.pm d else none}
theorem Ay{ρ:bU}{live:List Nat}{x:AV}{v:Value}(a:gE live x=true)(h:aD ρ G x v):aD ρ (G.aW live) x v:=by
 have flat:bq x=true->aD ρ (G.aW live) x v:=fun hf=>h_ (G:=G) (G':=G.aW live) (bo.le_refl G.K) (fun _ _ h=>h) hf h;cases x with
 |au d o=>
  simp only[aD]at h⊢;obtain⟨b,e,r⟩:=h;simp[gE]at a;exact⟨b,by simp[Gh.aW,a,e],r⟩
 |sD d o=>
  simp only[aD]at h⊢;obtain⟨b,e,r⟩:=h;simp[gE]at a;exact⟨b,by simp[Gh.aW,a,e],r⟩
 |own l τ=>
  simp only[aD]at h⊢;exact h
 |agg cs=>
  simp only[aD]at h⊢;obtain⟨vs,e,r⟩:=h;exact⟨vs,e,oM (G:=G) (G':=G.aW live) (bo.le_refl G.K) (fun _ _ h=>h) (fun _ _ h=>h) (by simpa[gE]using a) r⟩
 |_=>exact flat (by simpa[gE]using a)
theorem Ic{ρ:bU}{live:List Nat}{x:AV}{v:Value}(hl:aZ x=true)(h:aD ρ G x v):aD ρ (G.aW live) x v:=by
 rcases tW hl with hf|⟨l,τ,rfl⟩
 ·exact h_ (G:=G) (G':=G.aW live) (bo.le_refl G.K) (fun _ _ h=>h) hf h
 ·simp only[aD]at h⊢;exact h
theorem mS{ρ:bU}{live:List Nat}:∀{xs:List AV}{vs:List Value},xs.all aZ=true->aB ρ G xs vs->aB ρ (G.aW live) xs vs
 |[],_,_,h=>by simpa only[aB]using h
 |x::xs,_,hl,h=>by
  simp only[zaS,zaf]at hl;simp only[aB]at h⊢;obtain⟨v,r,e,e1,e2⟩:=h;exact⟨v,r,e,Ic hl.1 e1,mS hl.2 e2⟩
theorem Inv.aW{mem:List (Nat×List AV)}{sh:Sh}{aa:aG}(hi:Inv (num ns) G w mem sh aa)(live:List Nat):Inv (num ns) (G.aW live) w (bG mem live) sh aa where
 known:=hi.known
 a_:=hi.a_
 fresh:=hi.fresh
 cV:=fun d cells hd=>by
  rw[dG]at hd;split at hd
  ·rename_i hl;obtain⟨b,e1,e2,e3⟩:=hi.cV d cells hd;obtain⟨hr,c,t,f,a⟩:=e2;exact⟨b,by simp[Gh.aW,hl,e1],⟨hr,c,t,f,mS e3 a⟩,e3⟩
  ·simp at hd
 i7:=fun d b hd=>by
  simp only[Gh.aW]at hd;split at hd
  ·rename_i hl;rw[dG,zak hl];exact hi.i7 d b hd
  ·simp at hd
 dU:=fun s cells hs=>by
  obtain⟨b,e1,e2,e3,e4⟩:=hi.dU s cells hs;obtain⟨hr,o,f,a⟩:=e2;exact⟨b,e1,⟨hr,o,f,a.to (fun _ _ _ h=>h) (fun _ e=>e) (fun _ r=>mS (lP e3) r)⟩,e3,e4⟩
 gO:=hi.gO
 dp:=fun τ n hn=>by
  obtain⟨t,e1,e2,e3⟩:=hi.dp τ n hn;exact⟨t,e1,e2,e3.cap,e3.zero,e3.spare⟩
 gX:=hi.gX
 nZ:=hi.nZ
theorem bL.aW(live:List Nat):bL G w (G.aW live) w:=
 {size:=zaj _,os:=rfl,tape:=rfl,output:=rfl,K:=bo.le_refl G.K,sm:=fun _ _ h=>h,d9:=fun _ _ h=>⟨h,rfl⟩,jR:=fun _ τ _ h=>.inr ⟨τ,h⟩,i_:=fun _ _ _ _ _ h=>h}
theorem ik.restrict{n0 N:Nat}{st:St}{a:Act}(h:ik (num ns) n0 N G st a w)(live:List Nat):ik (num ns) n0 N (G.aW live) (restrict live st) a w:=
 ⟨⟨h.env.size,fun t x hx=>by
  obtain⟨h1,h2,_⟩:=dF hx;obtain⟨v,h3,h4⟩:=h.env.env t x h1;exact⟨v,h3,Ay h2 h4⟩⟩,h.inv.aW live,h.marks.zL (bL.aW live) rfl⟩
end
end Go.Ab
namespace Go.Ab
section
variable {ns:Names} {G:Gh} {w:World}
structure NS(G:Gh)(aL ts:aG)(m:Nat->Option Nat)(tks:List Tk):Prop where
 ts:ts=tks.map (·.len)
 map:∀τ k,m τ=some k->∃t,G.tk τ=some t∧tks[k]?=some t
 inj:∀τ σ k,m τ=some k->m σ=some k->τ=σ
 free:∀τ t,G.tk τ=some t->m τ=none->aL[τ]?=some t.len
 used:∀τ t k,G.tk τ=some t->m τ=some k->aL[τ]?=some (t.len+1)
 cap:∀k t,tks[k]?=some t->(∃τ,m τ=some k)∨(t.cap=t.len∧t.own=false)
def Gh.nq(G:Gh)(m:Nat->Option Nat)(tks:List Tk):Gh:=
 {G with tk:=fun k=>tks[k]?,role:=fun b=>match G.role b with| .tok τ=>(match m τ with|some k=>.tok k|none=>.d9)|r=>r}
theorem Tn{m m':Nat->Option Nat}{tks ext:List Tk}:(G.nq m tks).le (G.nq m' (tks++ext)) where
 K:=bo.le_refl G.K
 pm:=fun _ _ h=>h
 sm:=fun _ _ h=>h
 tk:=fun k t h=>⟨t,by
  simp only[Gh.nq]at h⊢;rw[zal (zaa.1 h).1];exact h,⟨zaj _,Tk.iV _⟩,fun _=>rfl⟩
theorem Az{ρ:bU}{m:Nat->Option Nat}{tks:List Tk}{x:AV}{v:Value}(hf:bq x=true)(h:aD ρ G x v):aD ρ (G.nq m tks) x v:=
 h_ (G:=G) (G':=G.nq m tks) (bo.le_refl G.K) (fun _ _ h=>h) hf h
theorem lY{m:Nat->Option Nat}{tks:List Tk}{b τ:Nat}(h:G.role b=.tok τ):(G.nq m tks).role b=match m τ with|some k=>.tok k|none=>.d9:=by
 show (match G.role b with| .tok τ=>(match m τ with|some k=>oE.tok k|none=>.d9)|r=>r)=_;rw[h]
def mC:AV->Bool
 | .au ..| .sD ..| .own ..=>true
 | .agg cs=>gW cs
 |v=>bq v
structure Ie(ns:Names)(G:Gh)(m:Nat->Option Nat)(tks:List Tk)(old' ts':aG)(m':Nat->Option Nat)(tks':List Tk):Prop where
 AA:NS G old' ts' m' tks'
 ext:∃ext,tks'=tks++ext
theorem Ie.le{m m':Nat->Option Nat}{tks tks':List Tk}{old' ts':aG}(h:Ie ns G m tks old' ts' m' tks'):(G.nq m tks).le (G.nq m' tks'):=by
 obtain⟨ext,e⟩:=h.ext;subst e;exact Tn
theorem rL{aL ts:aG}{m:Nat->Option Nat}{tks:List Tk}(hN:NS G aL ts m tks){x:AV}{v:Value}(hx:oi x=true)(h:aD (num ns) G x v):
   ∃m' tks',Ie ns G m tks (eB aL ts x).2.1 (eB aL ts x).2.2 m' tks'∧aD (num ns) (G.nq m' tks') (eB aL ts x).1 v:=by
 have flat:bq x=true->eB aL ts x=(x,aL,ts)->∃m' tks',Ie ns G m tks (eB aL ts x).2.1 (eB aL ts x).2.2 m' tks'∧aD (num ns) (G.nq m' tks') (eB aL ts x).1 v:=by
  intro hf e;rw[e];exact⟨m,tks,⟨hN,[],by simp⟩,Az hf h⟩
 cases x with
 |own l τ=>
  simp only[aD]at h;obtain⟨t,e1,e2,e3,e4⟩:=h;simp only[eB];split
  ·rename_i g
   have hm:m τ=none:=by
    cases hm:m τ with
    |none=>rfl
    |some k=>
     have:=hN.used τ t k e1 hm;rw[g]at this;simp at this;omega
   have b:l.length=t.len:=by
    have:=hN.free τ t e1 hm;rw[g]at this;simpa using this
   have i:ts.length=tks.length:=(by rw[hN.ts];simp);refine⟨fun σ=>if σ=τ then some tks.length else m σ,tks++[t],⟨⟨?_,?_,?_,?_,?_,?_⟩,[t],rfl⟩,?_⟩
   ·rw[hN.ts,b];simp
   ·intro σ k a;split at a
    ·rename_i e;subst e;simp at a;subst a;exact⟨t,e1,by simp⟩
    ·obtain⟨t',g1,g2⟩:=hN.map σ k a;exact⟨t',g1,by rw[zal (zaa.1 g2).1];exact g2⟩
   ·intro σ f k h1 h2;split at h1
    ·rename_i e;subst e;split at h2
     ·rename_i d;exact d.symm
     ·simp at h1;subst h1;obtain⟨t',_,g2⟩:=hN.map f _ h2;have:=(zaa.1 g2).1;omega
    ·split at h2
     ·rename_i d;subst d;simp at h2;subst h2;obtain⟨t',_,g2⟩:=hN.map σ _ h1;have:=(zaa.1 g2).1;omega
     ·exact hN.inj σ f k h1 h2
   ·intro σ t' h1 h2;split at h2
    ·simp at h2
    ·rename_i e;rw[zaA,zad (fun d=>e d.symm)];exact hN.free σ t' h1 h2
   ·intro σ t' k h1 h2;split at h2
    ·rename_i e;subst e;rw[e1]at h1;cases h1;rw[zaA,zak rfl,zak (zaa.1 g).1,b]
    ·rename_i e;rw[zaA,zad (fun d=>e d.symm)];exact hN.used σ t' k h1 h2
   ·intro k t' a;rw[zbx]at a;split at a
    ·rcases hN.cap k t' a with⟨σ,c⟩|n
     ·left;refine⟨σ,?_⟩;rw[zad]
      ·exact c
      ·rintro rfl;rw[hm]at c;simp at c
     ·exact .inr n
    ·rename_i j;left;refine⟨τ,?_⟩
     have:k=tks.length:=by
      have:=(zaa.1 a).1;simp at this;omega
     simp[this]
   ·simp only[aD];refine⟨t,by simp[Gh.nq,i],⟨by omega,e2.2⟩,e3,fun _=>e4 b⟩
  ·exact⟨m,tks,⟨hN,[],by simp⟩,by simp only[aD];exact e3⟩
 |_=>exact flat (by simpa[oi]using hx) rfl
theorem pA:∀{xs:List AV}{vs:List Value}{aL ts:aG}{m:Nat->Option Nat}{tks:List Tk},NS G aL ts m tks->gW xs=true->aB (num ns) G xs vs->
   ∃m' tks',Ie ns G m tks (cI aL ts xs).2.1 (cI aL ts xs).2.2 m' tks'∧aB (num ns) (G.nq m' tks') (cI aL ts xs).1 vs
 |[],vs,aL,ts,m,tks,hN,_,h=>⟨m,tks,⟨hN,[],by simp⟩,by simpa only[cI,aB]using h⟩
 |x::xs,vs,aL,ts,m,tks,hN,hl,h=>by
  simp only[gW,zaf]at hl;simp only[aB]at h;obtain⟨v,r,e,e1,e2⟩:=h;subst e;obtain⟨j,t1,g1,g2⟩:=rL hN hl.1 e1;obtain⟨m2,d,c,f⟩:=pA g1.AA hl.2 e2;refine⟨m2,d,⟨c.AA,?_⟩,?_⟩
  ·obtain⟨a,i⟩:=g1.ext;obtain⟨b,g⟩:=c.ext;exact⟨a++b,by rw[g,i,zaQ]⟩
  ·simp only[cI,aB];exact⟨v,r,rfl,g2.mono c.le,f⟩
theorem mT{aL ts:aG}{m:Nat->Option Nat}{tks:List Tk}(hN:NS G aL ts m tks){x:AV}{v:Value}(hx:mC x=true)(h:aD (num ns) G x v):
   ∃m' tks',Ie ns G m tks (bn aL ts x).2.1 (bn aL ts x).2.2 m' tks'∧aD (num ns) (G.nq m' tks') (bn aL ts x).1 v:=by
 have flat:bq x=true->bn aL ts x=(x,aL,ts)->∃m' tks',Ie ns G m tks (bn aL ts x).2.1 (bn aL ts x).2.2 m' tks'∧aD (num ns) (G.nq m' tks') (bn aL ts x).1 v:=by
  intro hf e;rw[e];exact⟨m,tks,⟨hN,[],by simp⟩,Az hf h⟩
 cases x with
 |own l τ=>exact rL (x:=.own l τ) hN rfl h
 |cQ l=>
  simp only[aD]at h;obtain⟨base,len,rfl,f⟩:=h;have i:ts.length=tks.length:=by rw[hN.ts];simp
  have c:=f.1
  obtain⟨sz,g⟩:∃sz,l=[]∨∃b o,base=some ⟨b,o,none⟩∧Row G.K b o sz l:=by
   rcases f.2 with h1|⟨b,o,sz,e,hr⟩
   ·exact⟨0,.inl h1⟩
   ·exact⟨sz,.inr ⟨b,o,e,hr⟩⟩
  let t:Tk:=⟨base,len,len,sz,false⟩
  refine⟨m,tks++[t],⟨⟨?_,?_,hN.inj,hN.free,hN.used,?_⟩,[t],rfl⟩,?_⟩
  ·simp only[bn];rw[hN.ts];simp[t,c]
  ·intro σ k a;obtain⟨t',g1,g2⟩:=hN.map σ k a;exact⟨t',g1,by rw[zal (zaa.1 g2).1];exact g2⟩
  ·intro k t' a;rw[zbx]at a;split at a
   ·exact hN.cap k t' a
   ·right
    have:t'=t:=by
     have h1:=List.mem_of_getElem? a;simpa using h1
    rw[this];exact⟨rfl,rfl⟩
  ·simp only[bn,aD];refine⟨t,by simp[Gh.nq,i],⟨by simp[t,c],t.sV⟩,cq.2 ⟨_,_,_,rfl,zaj _,f⟩,fun _=>⟨rfl,g⟩⟩
 |au d o=>
  simp only[bn];exact⟨m,tks,⟨hN,[],by simp⟩,by simp only[aD]at h⊢;exact h⟩
 |sD d o=>
  simp only[bn];exact⟨m,tks,⟨hN,[],by simp⟩,by simp only[aD]at h⊢;exact h⟩
 |pv p=>exact flat rfl rfl
 |un=>exact flat rfl rfl
 |aI _ _=>exact flat rfl rfl
 |bh _ _ _ _=>exact flat rfl rfl
 |dQ _=>exact flat rfl rfl
 |ic=>exact flat rfl rfl
 |fn _ _=>exact flat (by simpa[mC]using hx) rfl
 |agg cs=>
  by_cases hf:bq.dP cs=true
  ·exact flat (by simpa[bq]using hf) (by simp only[bn];rw[zak hf])
  ·simp only[aD]at h;obtain⟨vs,rfl,r⟩:=h;obtain⟨m',tks',g1,g2⟩:=pA hN (by simpa[mC]using hx) r;have e:bn aL ts (.agg cs)=(.agg (cI aL ts cs).1,(cI aL ts cs).2.1,(cI aL ts cs).2.2):=by simp only[bn];rw[zad hf]
   rw[e];exact⟨m',tks',g1,by simp only[aD];exact⟨vs,rfl,g2⟩⟩
 |qj _=>exact flat (by simpa[mC]using hx) rfl
 |jN _=>exact flat rfl rfl
 |ql _ _ _=>exact flat rfl rfl
 |fM _=>simp only[aD]at h
theorem Dd{x:AV}(h:aZ x=true):mC x=true:=by
 rcases tW h with hf|⟨l,τ,rfl⟩
 ·cases x<;>simp_all[mC,bq,aZ]
 ·rfl
theorem De{aL ts:aG}{x:AV}(h:aZ x=true):aZ (bn aL ts x).1=true:=by
 cases x with
 |own l τ=>simp only[bn];split<;>rfl
 |cQ l=>rfl
 |agg _=>simp[aZ]at h
 |_=>exact h
theorem mU:∀{xs:List AV}{vs:List Value}{aL ts:aG}{m:Nat->Option Nat}{tks:List Tk},NS G aL ts m tks->xs.all aZ=true->aB (num ns) G xs vs->
   ∃m' tks',Ie ns G m tks (bf aL ts xs).2.1 (bf aL ts xs).2.2 m' tks'∧aB (num ns) (G.nq m' tks') (bf aL ts xs).1 vs∧(bf aL ts xs).1.all aZ=true
 |[],vs,aL,ts,m,tks,hN,_,h=>⟨m,tks,⟨hN,[],by simp⟩,by simpa only[bf,aB]using h,rfl⟩
 |x::xs,vs,aL,ts,m,tks,hN,hl,h=>by
  simp only[zaS,zaf]at hl;simp only[aB]at h;obtain⟨v,r,e,e1,e2⟩:=h;subst e;obtain⟨k,t1,g1,g2⟩:=mT hN (Dd hl.1) e1;obtain⟨m2,d,c,g,f⟩:=mU g1.AA hl.2 e2;refine⟨m2,d,⟨c.AA,?_⟩,?_,?_⟩
  ·obtain⟨a,j⟩:=g1.ext;obtain⟨b,i⟩:=c.ext;exact⟨a++b,by rw[i,j,zaQ]⟩
  ·simp only[bf,aB];exact⟨v,r,rfl,g2.mono c.le,g⟩
  ·simp only[bf,zaS,f,zcJ];exact De hl.1
theorem rM{a:Act}:∀{env:List (Nat×AV)}{aL ts:aG}{m:Nat->Option Nat}{tks:List Tk},NS G aL ts m tks->
   (∀p∈env,mC p.2=true∧∃v,a.tmps[p.1]?=some v∧aD (num ns) G p.2 v)->
   ∃m' tks',Ie ns G m tks (dj aL ts env).2.1 (dj aL ts env).2.2 m' tks'∧∀p∈(dj aL ts env).1,∃v,a.tmps[p.1]?=some v∧aD (num ns) (G.nq m' tks') p.2 v
 |[],aL,ts,m,tks,hN,_=>⟨m,tks,⟨hN,[],by simp⟩,by simp[dj]⟩
 |(t,x)::env,aL,ts,m,tks,hN,h=>by
  obtain⟨hx,v,f,hr⟩:=h (t,x) (by simp);obtain⟨j,t1,g1,g2⟩:=mT hN hx hr;obtain⟨m2,d,c,e⟩:=rM (env:=env) (a:=a) g1.AA (fun p hp=>h p (by simp[hp]));refine⟨m2,d,⟨c.AA,?_⟩,?_⟩
  ·obtain⟨a,i⟩:=g1.ext;obtain⟨b,g⟩:=c.ext;exact⟨a++b,by rw[g,i,zaQ]⟩
  ·intro p hp;simp only[dj,zah]at hp;rcases hp with rfl|hp
   ·exact⟨v,f,g2.mono c.le⟩
   ·exact e p hp
def To(ns:Names)(G:Gh)(w:World)(d:Nat)(cells:List AV)(G':Gh):Prop:=
 ∃b c t,G.pm d=some b∧G.role b=.mK d∧w.heap[b]?=some (.cells c t (0,0))∧aB (num ns) G' cells c.toList∧cells.all aZ=true
theorem rN:∀{mem:List (Nat×List AV)}{aL ts:aG}{m:Nat->Option Nat}{tks:List Tk},NS G aL ts m tks->
   (∀p∈mem,To ns G w p.1 p.2 G)->
   ∃m' tks',Ie ns G m tks (fZ aL ts mem).2.1 (fZ aL ts mem).2.2 m' tks'∧∀p∈(fZ aL ts mem).1,To ns G w p.1 p.2 (G.nq m' tks')
 |[],aL,ts,m,tks,hN,_=>⟨m,tks,⟨hN,[],by simp⟩,by simp[fZ]⟩
 |(d,cells)::mem,aL,ts,m,tks,hN,h=>by
  obtain⟨b,c,t,h1,h2,h3,h4,h5⟩:=h (d,cells) (by simp);obtain⟨l,t1,g1,g2,k⟩:=mU hN h5 h4;obtain⟨m2,f,e,g⟩:=rN (mem:=mem) g1.AA (fun p hp=>h p (by simp[hp]));refine⟨m2,f,⟨e.AA,?_⟩,?_⟩
  ·obtain⟨a,j⟩:=g1.ext;obtain⟨b,i⟩:=e.ext;exact⟨a++b,by rw[i,j,zaQ]⟩
  ·intro p hp;simp only[fZ,zah]at hp;rcases hp with rfl|hp
   ·exact⟨b,c,t,h1,h2,h3,aB.mono e.le g2,k⟩
   ·exact g p hp
theorem Df{aL ts:aG}{n:Nat}{x:AV}(h:aK n x=true):aK n (eB aL ts x).1=true:=by
 unfold eB;split
 ·split<;>simp[aK]
 ·exact h
theorem rO{n:Nat}:∀{xs:List AV}{aL ts:aG},aK.cz n xs=true->aK.cz n (cI aL ts xs).1=true
 |[],_,_,_=>rfl
 |x::xs,aL,ts,h=>by
  simp only[aK.cz,zaf]at h;simp only[cI,aK.cz,Df h.1,zba];exact rO h.2
theorem Dg{aL ts:aG}{n:Nat}{x:AV}(h:aK n x=true):aK n (bn aL ts x).1=true:=by
 unfold bn;split
 ·split<;>simp[aK]
 ·simp[aK]
 ·split
  ·exact h
  ·simp only[aK]at h⊢;exact rO h
 ·exact h
theorem tX{n:Nat}:∀{xs:List AV}{aL ts:aG},xs.all (aK n)=true->(bf aL ts xs).1.all (aK n)=true
 |[],_,_,_=>rfl
 |x::xs,aL,ts,h=>by
  simp only[zaS,zaf]at h;simp only[bf,zaS,Dg h.1,zba];exact tX h.2
theorem kK:∀{sh:Sh}{aL ts:aG}{m:Nat->Option Nat}{tks:List Tk}(R:Nat->Option (Obj×Nat)),NS G aL ts m tks->
   (∀s cells,sh[s]?=some (some cells)->cells.all aZ=true∧∃o,R s=some o∧Holds (num ns) G o.1 o.2 cells)->
   ∃m' tks',Ie ns G m tks (bl aL ts sh).2.1 (bl aL ts sh).2.2 m' tks'∧(bl aL ts sh).1.length=sh.length ∧
     ∀s cells',(bl aL ts sh).1[s]?=some (some cells')->∃cells,sh[s]?=some (some cells)∧(∃o,R s=some o∧Holds (num ns) (G.nq m' tks') o.1 o.2 cells')∧cells'.all aZ=true∧∀n,cells.all (aK n)=true->cells'.all (aK n)=true
 |[],aL,ts,m,tks,R,hN,_=>⟨m,tks,⟨hN,[],by simp⟩,rfl,fun s cells' h=>by simp[bl]at h⟩
 |none::sh,aL,ts,m,tks,R,hN,h=>by
  obtain⟨g,t1,g1,g2,f⟩:=kK (sh:=sh) (fun s=>R (s+1)) hN (fun s cells hs=>h (s+1) cells (by simpa using hs));refine⟨g,t1,g1,by simp[bl,g2],fun s cells' hs=>?_⟩;cases s with
  |zero=>simp[bl]at hs
  |succ s=>
   obtain⟨cells,e,i⟩:=f s cells' (by simpa[bl]using hs);exact⟨cells,by simpa using e,i⟩
 |some cs::sh,aL,ts,m,tks,R,hN,h=>by
  obtain⟨hl,o,v,hr⟩:=h 0 cs rfl
  obtain⟨g,t1,g1,g2,f⟩:∃m' tks',Ie ns G m tks (bf aL ts cs).2.1 (bf aL ts cs).2.2 m' tks'∧Holds (num ns) (G.nq m' tks') o.1 o.2 (bf aL ts cs).1∧(bf aL ts cs).1.all aZ=true:=by
   rcases hr with⟨c,t,vs,suf,j,e3,e4,hr⟩|⟨w,d,kvs,j,rfl,hm⟩
   ·obtain⟨g,t1,g1,g2,f⟩:=mU hN hl hr;exact⟨g,t1,g1,.inl ⟨c,t,vs,suf,j,e3,e4,g2⟩,f⟩
   ·exact⟨m,tks,⟨hN,[],by simp⟩,.inr ⟨w,d,kvs,j,rfl,hm⟩,rfl⟩
  obtain⟨m2,k,e,i,q⟩:=kK (sh:=sh) (fun s=>R (s+1)) g1.AA (fun s cells hs=>h (s+1) cells (by simpa using hs));refine⟨m2,k,⟨e.AA,?_⟩,by simp[bl,i],fun s cells' hs=>?_⟩
  ·obtain⟨a,u⟩:=g1.ext;obtain⟨b,r⟩:=e.ext;exact⟨a++b,by rw[r,u,zaQ]⟩
  ·cases s with
   |zero=>
    simp only[bl,zbY,zae]at hs;subst hs;exact⟨cs,rfl,⟨o,v,g2.mono e.le⟩,f,fun n hn=>tX hn⟩
   |succ s=>
    obtain⟨cells,p,l⟩:=q s cells' (by simpa[bl]using hs);exact⟨cells,by simpa using p,l⟩
def lZ(G:Gh)(w:World)(s:Nat):Option (Obj×Nat):=(G.sm s).bind fun b=>(w.heap[b.1]?).map fun o=>(o,b.2)
theorem Inv.lZ{mem:List (Nat×List AV)}{sh:Sh}{aa:aG}(hi:Inv (num ns) G w mem sh aa):∀s cells,sh[s]?=some (some cells)->cells.all aZ=true∧∃o,Go.Ab.lZ G w s=some o∧Holds (num ns) G o.1 o.2 cells:=by
 intro s cells hs;obtain⟨b,e1,e2,e3,e4⟩:=hi.dU s cells hs;obtain⟨hr,o,c,a⟩:=e2;exact⟨e3,(o,b.2),by simp[Go.Ab.lZ,e1,c],a⟩
theorem Inv.RB{mem:List (Nat×List AV)}{sh:Sh}{aa:aG}(hi:Inv (num ns) G w mem sh aa){sh':Sh}{G':Gh}(c:∀s,G'.sm s=G.sm s)(a:∀b s,G.role b=.shr s->G'.role b=.shr s)
   (h:∀s cells',sh'[s]?=some (some cells')->∃cells,sh[s]?=some (some cells)∧(∃o,Go.Ab.lZ G w s=some o∧Holds (num ns) G' o.1 o.2 cells')∧cells'.all aZ=true∧∀n,cells.all (aK n)=true->cells'.all (aK n)=true):
   ∀s cells,sh'[s]?=some (some cells)->∃b,G'.sm s=some b∧xN (num ns) G' w b (.shr s) cells∧cells.all dO=true∧cells.all (aK (s+1))=true:=by
 intro s cells' hs;obtain⟨cells,h1,⟨o,h2,d⟩,h3,h4⟩:=h s cells' hs;obtain⟨b,e1,e2,e3,e4⟩:=hi.dU s cells h1;simp only[Go.Ab.lZ,e1,za3,zac]at h2;obtain⟨o',h5,rfl⟩:=h2;exact⟨b,by rw[c];exact e1,⟨a b.1 s e2.role,o',h5,d⟩,h3,h4 _ e4⟩
theorem pB{α:Type}:∀{l:List (Nat×α)}{t:Nat}{x:α},look l t=some x->(t,x)∈l
 |[],_,_,h=>by simp[look]at h
 |(s,y)::l,t,x,h=>by
  simp only[look]at h;split at h
  ·rename_i e;subst e;cases h;simp
  ·exact List.mem_cons_of_mem _ (pB h)
theorem tZ:∀{mem:List (Nat×List AV)}{aL ts:aG}{d:Nat},(look mem d).isSome=true->(look (fZ aL ts mem).1 d).isSome=true
 |[],_,_,d,h=>by simp[look]at h
 |(s,y)::mem,aL,ts,d,h=>by
  simp only[fZ,look]at h⊢;split
  ·rfl
  ·rename_i a;rw[zad a]at h;exact tZ h
theorem NS.start{mem:List (Nat×List AV)}{sh:Sh}{aa:aG}(hi:Inv (num ns) G w mem sh aa):NS G aa [] (fun _=>none) [] where
 ts:=rfl
 map:=by intro τ k h;simp at h
 inj:=by intro τ σ k h;simp at h
 free:=fun τ t h _=>hi.gX τ t h
 used:=by intro τ t k _ h;simp at h
 cap:=by intro k t h;simp at h
theorem ff{live:List Nat}{env:List (Nat×AV)}:∀{l:List Nat}{p:Nat×AV},p∈bz live env l->look env p.1=some p.2∧gE live p.2=true
 |[],p,h=>by simp[bz]at h
 |s::l,p,h=>by
  simp only[bz]at h;split at h
  ·rename_i u hu;split at h
   ·rename_i a;simp only[zah]at h;rcases h with rfl|h
    ·exact⟨hu,a⟩
    ·exact ff h
   ·exact ff h
  ·exact ff h
theorem jn{mem:List (Nat×List AV)}:∀{l:List Nat}{p:Nat×List AV},p∈bG mem l->look mem p.1=some p.2∧p.1∈l
 |[],p,h=>by simp[bG]at h
 |s::l,p,h=>by
  simp only[bG]at h;split at h
  ·rename_i u hu;simp only[zah]at h;rcases h with rfl|h
   ·exact⟨hu,by simp⟩
   ·obtain⟨h1,h2⟩:=jn h;exact⟨h1,by simp[h2]⟩
  ·obtain⟨h1,h2⟩:=jn h;exact⟨h1,by simp[h2]⟩
theorem ik.head{n0 N:Nat}{st:St}{a:Act}(h:ik (num ns) n0 N G st a w)(live:List Nat):∃G',ik (num ns) n0 N G' (norm (Go.Ab.restrict live st)) a w∧bL G w G' w:=by
 have h0:=h.restrict live;have hi:=h0.inv
 have R:∀p∈(Go.Ab.restrict live st).env,mC p.2=true∧∃v,a.tmps[p.1]?=some v∧aD (num ns) (G.aW live) p.2 v:=by
  intro p hp;obtain⟨h1,h2⟩:=ff hp;obtain⟨v,h3,h4⟩:=h.env.env p.1 p.2 h1;refine⟨?_,v,h3,Ay h2 h4⟩;cases C:p.2<;>rw[C]at h2<;>simp_all[mC,gE,bq]
 have Q:∀p∈(Go.Ab.restrict live st).mem,To ns (G.aW live) w p.1 p.2 (G.aW live):=by
  intro p hp;obtain⟨h1,h2⟩:=jn hp
  have h3:look (Go.Ab.restrict live st).mem p.1=some p.2:=by
   show look (bG st.mem live) p.1=some p.2;rw[dG,zak h2,h1]
  obtain⟨b,e1,e2,e3⟩:=hi.cV p.1 p.2 h3;obtain⟨hr,c,t,O,q⟩:=e2;exact⟨b,c,t,e1,hr,O,q,e3⟩
 obtain⟨T,t1,g1,g2⟩:=rM (NS.start hi) R;obtain⟨m3,t3,F,L⟩:=rN (w:=w) g1.AA Q;obtain⟨m2,i,z,J,I⟩:=kK (lZ (G.aW live) w) F.AA hi.lZ;have hN:=z.AA;have u:=z.le;have E:=Gh.le_trans F.le z.le
 have f:∀b r,(G.aW live).role b=r->(∀τ,r≠.tok τ)->((G.aW live).nq m2 i).role b=r:=by
  intro b r hr hn;show(match(G.aW live).role b with| .tok τ=>(match m2 τ with|some k=>oE.tok k|none=>.d9)|r=>r)=r;rw[hr];cases r with
  |tok τ=>exact absurd rfl (hn τ)
  |_=>rfl
 have g:bL G w ((G.aW live).nq m2 i) w:={
   size:=zaj _,os:=rfl,tape:=rfl,output:=rfl,K:=bo.le_refl G.K,sm:=fun _ _ h=>h,
   d9:=fun b _ hr=>⟨f b _ hr (by simp),rfl⟩
   jR:=fun b τ _ hr=>by
    have B:(G.aW live).role b=.tok τ:=hr;rw[lY B];cases m2 τ with
    |none=>exact .inl rfl
    |some k=>exact .inr ⟨k,rfl⟩
   i_:=fun _ _ _ _ _ h=>h}
 refine⟨(G.aW live).nq m2 i,⟨⟨h.env.size,fun t x hx=>?_⟩,?_,h.marks.zL g rfl⟩,g⟩
 ·obtain⟨v,h1,h2⟩:=g2 (t,x) (pB hx);exact⟨v,h1,h2.mono E⟩
 ·constructor
  ·exact hi.known
  ·intro b o v M;rcases hi.a_ b o v M with h1|⟨τ,h1⟩
   ·exact .inl (f b _ h1 (by simp))
   ·rw[lY h1];cases m2 τ with
    |none=>exact .inl rfl
    |some k=>exact .inr ⟨k,rfl⟩
  ·intro b y;exact f b _ (hi.fresh b y) (by simp)
  ·intro d cells hd;obtain⟨b,c,t,h1,h2,h3,h4,h5⟩:=L (d,cells) (pB hd);exact⟨b,h1,⟨f b _ h2 (by simp),c,t,h3,aB.mono u h4⟩,h5⟩
  ·intro d b hd;exact tZ (hi.i7 d b hd)
  ·exact hi.RB (G':=(G.aW live).nq m2 i) (fun _=>rfl) (fun b s hr=>f b _ hr (by simp)) I
  ·intro s b hs;have:=hi.gO s b hs;have e:(norm (Go.Ab.restrict live st)).sh.length=(Go.Ab.restrict live st).sh.length:=J;omega
  ·intro k n hn;have j:(norm (Go.Ab.restrict live st)).aa=i.map (·.len):=hN.ts;rw[j,zbw,zac]at hn;obtain⟨t,m,rfl⟩:=hn;refine⟨t,m,rfl,?_⟩;rcases hN.cap k t m with⟨τ,l⟩|P
   ·obtain⟨t',h1,h2⟩:=hN.map τ k l;rw[m]at h2;cases h2;obtain⟨H,e1,e2,e3⟩:=hi.dp τ _ (hi.gX τ t h1);rw[h1]at e1;cases e1;refine⟨e3.cap,e3.zero,fun D=>?_⟩;obtain⟨b,o,c,ty,f1,f2,f3,S,f5⟩:=e3.spare D;refine⟨b,o,c,ty,f1,?_,f3,S,f5⟩;rw[lY f2,l]
   ·exact⟨by omega,fun h=>by omega,fun h=>h.elim (fun h=>by omega) (fun h=>by rw[P.2]at h;cases h)⟩
  ·intro k t m;have j:(norm (Go.Ab.restrict live st)).aa=i.map (·.len):=hN.ts;rw[j,zbw];have A:i[k]?=some t:=m;rw[A];rfl
  ·exact fun b c y=>⟨f b _ (hi.nZ b c y).1 (by simp),(hi.nZ b c y).2⟩
end
end Go.Ab
namespace Go.Ab
section
variable {P:Program} {ns:Names} {G:Gh} {w:World}
theorem AB{x:AV}(h:lq x=true):oi x=true:=by
 cases x with
 |own _ _=>rfl
 |_=>simpa[oi,lq]using lX (by simpa[lq]using h)
theorem l6:∀{xs:List AV},fW xs=true->gW xs=true
 |[],_=>rfl
 |x::xs,h=>by
  simp only[fW,zaf]at h;simp only[gW,AB h.1,l6 h.2,Bool.and_self]
theorem AD{x:AV}(h:bE x=true):mC x=true:=by
 cases x with
 |own _ _=>rfl
 |au _ _=>rfl
 |agg cs=>simp only[mC];exact l6 (by simpa[bE]using h)
 |_=>simpa[mC,bE]using lX (by simpa[bE]using h)
theorem AE{aL ts:aG}{x:AV}(h:lq x=true):lq (eB aL ts x).1=true:=by
 unfold eB;split
 ·split<;>rfl
 ·exact h
theorem rP:∀{xs:List AV}{aL ts:aG},fW xs=true->fW (cI aL ts xs).1=true
 |[],_,_,_=>rfl
 |x::xs,aL,ts,h=>by
  simp only[fW,zaf]at h;simp only[cI,fW,AE h.1,zba];exact rP h.2
theorem AF{aL ts:aG}{x:AV}(h:bE x=true):bE (bn aL ts x).1=true:=by
 unfold bn;split
 ·split<;>rfl
 ·rfl
 ·split
  ·exact h
  ·simp only[bE]at h⊢;exact rP h
 ·exact h
theorem jd:∀{xs:List AV}{aL ts:aG},xs.all bE=true->(bf aL ts xs).1.all bE=true
 |[],_,_,_=>rfl
 |x::xs,aL,ts,h=>by
  simp only[zaS,zaf]at h;simp only[bf,zaS,AF h.1,zba];exact jd h.2
theorem AG{x:AV}(h:aZ x=true):bE x=true:=by
 cases x with
 |own _ _=>rfl
 |fn g cap=>simpa[aZ,bE]using h
 |pv _=>rfl
 |cQ _=>rfl
 |aI _ _=>rfl
 |bh _ _ _ _=>rfl
 |ic=>rfl
 |jN _=>rfl
 |fM _=>rfl
 |_=>simp[aZ]at h
theorem jD{xs:List AV}(h:xs.all aZ=true):xs.all bE=true:=by
 rw[zaq]at*;exact fun x hx=>AG (h x hx)
theorem pC:∀{xs:List AV}{vs:List Value}{aL ts:aG}{m:Nat->Option Nat}{tks:List Tk},NS G aL ts m tks->xs.all bE=true->aB (num ns) G xs vs->
   ∃m' tks',Ie ns G m tks (bf aL ts xs).2.1 (bf aL ts xs).2.2 m' tks'∧aB (num ns) (G.nq m' tks') (bf aL ts xs).1 vs
 |[],vs,aL,ts,m,tks,hN,_,h=>⟨m,tks,⟨hN,[],by simp[bf]⟩,by simpa only[bf,aB]using h⟩
 |x::xs,vs,aL,ts,m,tks,hN,hp,h=>by
  simp only[zaS,zaf]at hp;simp only[aB]at h;obtain⟨v,r,e,e1,e2⟩:=h;subst e;obtain⟨j,t1,g1,g2⟩:=mT hN (AD hp.1) e1;obtain⟨m2,d,c,f⟩:=pC g1.AA hp.2 e2;refine⟨m2,d,⟨c.AA,?_⟩,?_⟩
  ·obtain⟨a,i⟩:=g1.ext;obtain⟨b,g⟩:=c.ext;exact⟨a++b,by rw[g,i,zaQ]⟩
  ·simp only[bf,aB];exact⟨v,r,rfl,g2.mono c.le,f⟩
theorem Ig{aL ts:aG}{x:AV}:(eB aL ts x).2.1.length=aL.length:=by
 unfold eB;split
 ·split<;>simp
 ·rfl
theorem t4:∀{xs:List AV}{aL ts:aG},(cI aL ts xs).2.1.length=aL.length
 |[],_,_=>rfl
 |x::xs,aL,ts=>by simp only[cI];rw[t4,Ig]
theorem Ih{aL ts:aG}{x:AV}:(bn aL ts x).2.1.length=aL.length:=by
 unfold bn;split
 ·split<;>simp
 ·rfl
 ·split
  ·rfl
  ·exact t4
 ·rfl
theorem qA:∀{xs:List AV}{aL ts:aG},(bf aL ts xs).2.1.length=aL.length
 |[],_,_=>rfl
 |x::xs,aL,ts=>by simp only[bf];rw[qA,Ih]
theorem qB:∀{sh:Sh}{aL ts:aG},(bl aL ts sh).2.1.length=aL.length
 |[],_,_=>rfl
 |none::sh,aL,ts=>by simp only[bl];exact qB
 |some cs::sh,aL,ts=>by simp only[bl];rw[qB,qA]
def Gh.to(G:Gh)(m:Nat->Option Nat)(tks:List Tk):Gh:=
 {K:=G.K,role:=fun b=>match G.role b with| .shr s=>.shr s| .tok τ=>(match m τ with|some k=>.tok k|none=>.d9)|_=>.d9,pm:=fun _=>none,sm:=G.sm,tk:=fun k=>tks[k]?}
theorem Tp{m:Nat->Option Nat}{tks:List Tk}{b s:Nat}(h:G.role b=.shr s):(G.to m tks).role b=.shr s:=by simp[Gh.to,h]
theorem x9{m:Nat->Option Nat}{tks:List Tk}{b τ k:Nat}(h:G.role b=.tok τ)(hm:m τ=some k):(G.to m tks).role b=.tok k:=by simp[Gh.to,h,hm]
theorem pD{m:Nat->Option Nat}{tks:List Tk}{b τ:Nat}(h:G.role b=.tok τ)(hm:m τ=none):(G.to m tks).role b=.d9:=by simp[Gh.to,h,hm]
theorem mV{m:Nat->Option Nat}{tks:List Tk}{b:Nat}(h:G.role b=.d9):(G.to m tks).role b=.d9:=by simp[Gh.to,h]
theorem x_{m:Nat->Option Nat}{tks:List Tk}{b d:Nat}(h:G.role b=.mK d):(G.to m tks).role b=.d9:=by simp[Gh.to,h]
theorem Dh{ρ:bU}{G':Gh}(hK:G.K.le G'.K)(hs:∀s b,G.sm s=some b->G'.sm s=some b)(a:∀τ t,G.tk τ=some t->G'.tk τ=some t){xs:List AV}{vs:List Value}(hp:fW xs=true)(h:aB ρ G xs vs):aB ρ G' xs vs:=
 oM hK hs a (l6 hp) h
theorem Ii{ρ:bU}{G':Gh}(hK:G.K.le G'.K)(hs:∀s b,G.sm s=some b->G'.sm s=some b)(a:∀τ t,G.tk τ=some t->G'.tk τ=some t){x:AV}{v:Value}(hp:bE x=true)(h:aD ρ G x v):aD ρ G' x v:=by
 cases x with
 |own l τ=>
  simp only[aD]at h⊢;obtain⟨t,e1,e2,e3,e4⟩:=h;exact⟨t,a _ _ e1,e2,e3.mono hK,fun hl=>⟨(e4 hl).1,Pl (e4 hl).2 fun⟨b,o,e,r⟩=>⟨b,o,e,Row.mono hK _ _ _ _ r⟩⟩⟩
 |agg cs=>
  simp only[aD]at h⊢;obtain⟨vs,e,r⟩:=h;exact⟨vs,e,Dh hK hs a (by simpa[bE]using hp) r⟩
 |_=>exact nB hK hs (by simpa[bE]using hp) h
theorem j_{ρ:bU}{G':Gh}(hK:G.K.le G'.K)(hs:∀s b,G.sm s=some b->G'.sm s=some b)(a:∀τ t,G.tk τ=some t->G'.tk τ=some t):∀{xs:List AV}{vs:List Value},xs.all bE=true->aB ρ G xs vs->aB ρ G' xs vs
 |[],_,_,h=>by simpa only[aB]using h
 |x::xs,_,hp,h=>by
  simp only[zaS,zaf]at hp;simp only[aB]at h⊢;obtain⟨v,r,e,e1,e2⟩:=h;exact⟨v,r,e,Ii hK hs a hp.1 e1,j_ hK hs a hp.2 e2⟩
theorem Inv.HY{mem:List (Nat×List AV)}{sh:Sh}{aa:aG}(hi:Inv (num ns) G w mem sh aa){xs:List AV}{vs:List Value}(hp:xs.all bE=true)(hr:aB (num ns) G xs vs):
   ∃m tks,NS G (ct aa xs sh).2.2.1 (ct aa xs sh).2.2.2 m tks∧Inv (num ns) (G.to m tks) w [] (ct aa xs sh).2.1 (ct aa xs sh).2.2.2∧aB (num ns) (G.to m tks) (ct aa xs sh).1 vs:=by
 obtain⟨m0,u,D,i⟩:=pC (NS.start hi) hp hr;obtain⟨m,tks,x,A,z⟩:=kK (Go.Ab.lZ G w) D.AA hi.lZ;have hN:=x.AA;refine⟨m,tks,hN,?_,j_ (G:=G.nq m tks) (G':=G.to m tks) (bo.le_refl _) (fun _ _ h=>h) (fun _ _ h=>h) (jd hp) (aB.mono x.le i)⟩;constructor
 ·exact hi.known
 ·intro b o v B;rcases hi.a_ b o v B with h|⟨τ,h⟩
  ·exact .inl (mV h)
  ·cases hm:m τ with
   |none=>exact .inl (pD h hm)
   |some k=>exact .inr ⟨k,x9 h hm⟩
 ·intro b j;exact mV (hi.fresh b j)
 ·intro d cells h;simp[look]at h
 ·intro d b h;simp[Gh.to]at h
 ·refine hi.RB (G':=G.to m tks) (fun _=>rfl) (fun b s hr=>Tp hr) fun s cells' hs=>?_;obtain⟨cells,h1,h2,h3,h4⟩:=z s cells' hs;obtain⟨o,h2,q⟩:=h2;exact⟨cells,h1,⟨o,h2,q.to (fun _ _ _ h=>h) (fun _ e=>e) (fun _ r=>j_ (G:=G.nq m tks) (G':=G.to m tks) (bo.le_refl _) (fun _ _ h=>h) (fun _ _ h=>h) (jD h3) r)⟩,h3,h4⟩
 ·intro s b hs;have:=hi.gO s b hs;have e:(ct aa xs sh).2.1.length=sh.length:=A;omega
 ·intro k n hn;have a:(ct aa xs sh).2.2.2=tks.map (·.len):=hN.ts;rw[a,zbw,zac]at hn;obtain⟨t,g,rfl⟩:=hn;refine⟨t,g,rfl,?_⟩;rcases hN.cap k t g with⟨τ,f⟩|C
  ·obtain⟨t',h1,h2⟩:=hN.map τ k f;rw[g]at h2;cases h2;obtain⟨y,e1,e2,e3⟩:=hi.dp τ _ (hi.gX τ t h1);rw[h1]at e1;cases e1;refine⟨e3.cap,e3.zero,fun p=>?_⟩;obtain⟨b,o,c,ty,f1,f2,f3,E,f5⟩:=e3.spare p;exact⟨b,o,c,ty,f1,x9 f2 f,f3,E,f5⟩
  ·exact⟨by omega,fun h=>by omega,fun h=>h.elim (fun h=>by omega) (fun h=>by rw[C.2]at h;cases h)⟩
 ·intro k t g;have a:(ct aa xs sh).2.2.2=tks.map (·.len):=hN.ts;rw[a,zbw];have l:tks[k]?=some t:=g;rw[l];rfl
 ·exact fun b c j=>⟨mV (hi.nZ b c j).1,(hi.nZ b c j).2⟩
theorem Ij{aa:aG}{xs:List AV}{sh:Sh}:(ct aa xs sh).2.2.1.length=aa.length:=by
 unfold ct;simp only[qB,qA]
theorem bL.to{G1:Gh}{c:World}(h:bL G w G1 c)(m:Nat->Option Nat)(tks:List Tk):bL G w (G1.to m tks) c where
 size:=h.size
 os:=h.os
 tape:=h.tape
 output:=h.output
 K:=h.K
 sm:=h.sm
 d9:=fun b a hr=>⟨mV (h.d9 b a hr).1,(h.d9 b a hr).2⟩
 jR:=fun b τ a hr=>by
  rcases h.jR b τ a hr with h1|⟨τ',h1⟩
  ·exact .inl (mV h1)
  ·cases hm:m τ' with
   |none=>exact .inl (pD h1 hm)
   |some k=>exact .inr ⟨k,x9 h1 hm⟩
 i_:=h.i_
def oN(N:Nat):oE->oE
 | .tok k=>.tok (k+N)
 | .shr s=>.shr s
 |_=>.d9
def Gh.back(G:Gh)(m:Nat->Option Nat)(G1:Gh)(n N:Nat):Gh:=
 { K:=G1.K,
   role:=fun b=>if b<n then(match G.role b with| .shr _=>oN N (G1.role b)| .tok τ=>(match m τ with|some _=>oN N (G1.role b)|none=>.tok τ)|r=>r)else oN N (G1.role b),
   pm:=G.pm,sm:=G1.sm,
   tk:=fun τ=>if τ<N then(match G.tk τ with|some t=>(match m τ with|some _=>some {t with base:=none,len:=t.len+1,cap:=t.len+1,own:=false}|none=>some t)|none=>none)else G1.tk (τ-N)}
theorem t5{G1 G':Gh}{N:Nat}(hK:G1.K.le G'.K)(hs:∀s b,G1.sm s=some b->G'.sm s=some b)(a:∀τ t,G1.tk τ=some t->G'.tk (τ+N)=some t){x:AV}{v:Value}(hp:lq x=true)(h:aD (num ns) G1 x v):aD (num ns) G' (jk N x) v:=by
 cases x with
 |own l τ=>
  simp only[jk,aD]at h⊢;obtain⟨t,e1,e2,e3,e4⟩:=h;exact⟨t,a _ _ e1,e2,e3.mono hK,fun hl=>⟨(e4 hl).1,Pl (e4 hl).2 fun⟨b,o,e,r⟩=>⟨b,o,e,Row.mono hK _ _ _ _ r⟩⟩⟩
 |_=>
  simp only[jk];exact nB (G:=G1) (G':=G') hK hs (by simpa[lq]using hp) h
theorem rQ{G1 G':Gh}{N:Nat}(hK:G1.K.le G'.K)(hs:∀s b,G1.sm s=some b->G'.sm s=some b)(a:∀τ t,G1.tk τ=some t->G'.tk (τ+N)=some t):∀{xs:List AV}{vs:List Value},fW xs=true->aB (num ns) G1 xs vs->aB (num ns) G' (xs.map (jk N)) vs
 |[],_,_,h=>by simpa only[zbk,aB]using h
 |x::xs,_,hp,h=>by
  simp only[fW,zaf]at hp;simp only[zao,aB]at h⊢;obtain⟨v,r,e,e1,e2⟩:=h;exact⟨v,r,e,t5 hK hs a hp.1 e1,rQ hK hs a hp.2 e2⟩
theorem wH{G1 G':Gh}{N:Nat}(hK:G1.K.le G'.K)(hs:∀s b,G1.sm s=some b->G'.sm s=some b)(a:∀τ t,G1.tk τ=some t->G'.tk (τ+N)=some t){x:AV}{v:Value}(hp:bE x=true)(h:aD (num ns) G1 x v):aD (num ns) G' (cP N x) v:=by
 cases x with
 |own l τ=>exact t5 (x:=.own l τ) hK hs a rfl h
 |agg cs=>
  simp only[cP];split
  ·rename_i hf;exact h_ (G:=G1) (G':=G') hK hs (by simpa[bq]using hf) h
  ·simp only[aD]at h⊢;obtain⟨vs,e,r⟩:=h;exact⟨vs,e,rQ hK hs a (by simpa[bE]using hp) r⟩
 |_=>
  simp only[cP];exact nB (G:=G1) (G':=G') hK hs (by simpa[bE]using hp) h
theorem oO{G1 G':Gh}{N:Nat}(hK:G1.K.le G'.K)(hs:∀s b,G1.sm s=some b->G'.sm s=some b)(a:∀τ t,G1.tk τ=some t->G'.tk (τ+N)=some t):∀{xs:List AV}{vs:List Value},xs.all bE=true->aB (num ns) G1 xs vs->aB (num ns) G' (xs.map (cP N)) vs
 |[],_,_,h=>by simpa only[zbk,aB]using h
 |x::xs,_,hp,h=>by
  simp only[zaS,zaf]at hp;simp only[zao,aB]at h⊢;obtain⟨v,r,e,e1,e2⟩:=h;exact⟨v,r,e,wH hK hs a hp.1 e1,oO hK hs a hp.2 e2⟩
theorem Gx{m:Nat->Option Nat}{G1:Gh}{n N:Nat}:∀τ t,G1.tk τ=some t->(G.back m G1 n N).tk (τ+N)=some t:=by
 intro τ t h;simp only[Gh.back];rw[zad (by omega),Nat.add_sub_cancel];exact h
theorem Ik{m:Nat->Option Nat}{G1:Gh}{n N:Nat}{xs:List AV}{vs:List Value}(hp:xs.all bE=true)(h:aB (num ns) G1 xs vs):aB (num ns) (G.back m G1 n N) (xs.map (cP N)) vs:=
 oO (G1:=G1) (G':=G.back m G1 n N) (N:=N) (bo.le_refl G1.K) (fun _ _ h=>h) Gx hp h
theorem AH{N n:Nat}{x:AV}(h:aK n x=true):aK n (jk N x)=true:=by
 cases x with
 |own _ _=>rfl
 |_=>exact h
theorem pE{N n:Nat}:∀{xs:List AV},aK.cz n xs=true->aK.cz n (xs.map (jk N))=true
 |[],_=>rfl
 |x::xs,h=>by
  simp only[aK.cz,zaf]at h;simp only[zao,aK.cz,AH h.1,pE h.2,Bool.and_self]
theorem AI{N n:Nat}{x:AV}(h:aK n x=true):aK n (cP N x)=true:=by
 cases x with
 |own _ _=>rfl
 |agg cs=>
  simp only[cP];split
  ·exact h
  ·simp only[aK]at h⊢;exact pE h
 |_=>exact h
theorem AJ{N:Nat}{x:AV}(h:aZ x=true):aZ (cP N x)=true:=by
 cases x with
 |own _ _=>rfl
 |agg _=>simp[aZ]at h
 |_=>exact h
theorem Inv.back{G1:Gh}{M:World}{mem:List (Nat×List AV)}{sh sh':Sh}{aa aL ts ts':aG}{m:Nat->Option Nat}{tks:List Tk}(hi:Inv (num ns) G w mem sh aa)(hN:NS G aL ts m tks)(P:aL.length=aa.length)
   (h1:Inv (num ns) G1 M [] sh' ts') (g:bL (G.to m tks) w G1 M):
   Inv (num ns) (G.back m G1 w.heap.size aa.length) M mem (eP aa.length sh') (aL++ts')∧G.le (G.back m G1 w.heap.size aa.length)∧bL G w (G.back m G1 w.heap.size aa.length) M:=by
 have N:∀τ t,G.tk τ=some t->τ<aa.length:=fun τ t h=>(zaa.1 (hi.gX τ t h)).1
 have p:∀τ t,G.tk τ=some t->m τ=none->(G.back m G1 w.heap.size aa.length).tk τ=some t:=by
  intro τ t h hm;simp only[Gh.back,zak (N τ t h),h,hm]
 have l:∀τ t k,G.tk τ=some t->m τ=some k->(G.back m G1 w.heap.size aa.length).tk τ=some {t with base:=none,len:=t.len+1,cap:=t.len+1,own:=false}:=by
  intro τ t k h hm;simp only[Gh.back,zak (N τ t h),h,hm]
 have Q:G.le (G.back m G1 w.heap.size aa.length):=⟨g.K,fun _ _ h=>h,g.sm,fun τ t h=>by
  cases hm:m τ with
  |none=>exact⟨t,p τ t h hm,⟨zaj _,Tk.iV _⟩,fun _=>rfl⟩
  |some k=>exact⟨_,l τ t k h hm,⟨by simp,fun _=>⟨rfl,by simp⟩,.inl ⟨rfl,by simp⟩⟩,fun e=>by simp at e⟩⟩
 have F:∀b,b<w.heap.size->G.role b=.d9->(G.back m G1 w.heap.size aa.length).role b=.d9:=by intro b a hr;simp only[Gh.back,zak a,hr]
 have I:∀b d,b<w.heap.size->G.role b=.mK d->(G.back m G1 w.heap.size aa.length).role b=.mK d:=by intro b d a hr;simp only[Gh.back,zak a,hr]
 have i:∀b τ,b<w.heap.size->G.role b=.tok τ->m τ=none->(G.back m G1 w.heap.size aa.length).role b=.tok τ:=by intro b τ a hr hm;simp only[Gh.back,zak a,hr,hm]
 have q:∀b τ k,b<w.heap.size->G.role b=.tok τ->m τ=some k->(G.back m G1 w.heap.size aa.length).role b=oN aa.length (G1.role b):=by intro b τ k a hr hm;simp only[Gh.back,zak a,hr,hm]
 have D:∀b s,b<w.heap.size->G.role b=.shr s->(G.back m G1 w.heap.size aa.length).role b=oN aa.length (G1.role b):=by intro b s a hr;simp only[Gh.back,zak a,hr]
 have u:∀b,¬b<w.heap.size->(G.back m G1 w.heap.size aa.length).role b=oN aa.length (G1.role b):=by intro b a;simp only[Gh.back,zad a]
 have E:∀b,G1.role b≠.d9->(G.back m G1 w.heap.size aa.length).role b=oN aa.length (G1.role b):=by
  intro b hn;by_cases a:b<w.heap.size
  ·cases hr:G.role b with
   |shr s=>exact D b s a hr
   |d9=>exact absurd (g.d9 b a (mV hr)).1 hn
   |mK d=>exact absurd (g.d9 b a (x_ hr)).1 hn
   |tok τ=>
    cases hm:m τ with
    |none=>exact absurd (g.d9 b a (pD hr hm)).1 hn
    |some k=>exact q b τ k a hr hm
  ·exact u b a
 have f:∀b o v,G1.K b o=some v->oN aa.length (G1.role b)=.d9∨∃τ,oN aa.length (G1.role b)=.tok τ:=by
  intro b o v L;rcases h1.a_ b o v L with h|⟨τ,h⟩
  ·left;rw[h];rfl
  ·right;exact⟨τ+aa.length,by rw[h];rfl⟩
 have H:bL G w (G.back m G1 w.heap.size aa.length) M:={
           size:=g.size,os:=g.os,tape:=g.tape,output:=g.output,K:=g.K,sm:=g.sm,
           d9:=fun b a hr=>⟨F b a hr,(g.d9 b a (mV hr)).2⟩
           jR:=fun b τ a hr=>by
            cases hm:m τ with
            |none=>exact .inr ⟨τ,i b τ a hr hm⟩
            |some k=>
             rw[q b τ k a hr hm];rcases g.jR b k a (x9 hr hm)with h|⟨τ',h⟩
             ·left;rw[h];rfl
             ·right;exact⟨τ'+aa.length,by rw[h];rfl⟩
           i_:=fun b o v a hr L=>g.i_ b o v a (mV hr) L}
 refine⟨⟨h1.known,?_,?_,?_,hi.i7,?_,?_,?_,?_,hi.jS H⟩,Q,H⟩
 ·intro b o v L;have C:G1.K b o=some v:=L;by_cases a:b<w.heap.size
  ·cases hr:G.role b with
   |shr s=>rw[D b s a hr];exact f b o v C
   |d9=>exact .inl (F b a hr)
   |tok τ=>
    cases hm:m τ with
    |none=>exact .inr ⟨τ,i b τ a hr hm⟩
    |some k=>rw[q b τ k a hr hm];exact f b o v C
   |mK d=>
    exfalso;have T:G.K b o=some v:=g.i_ b o v a (x_ hr) C;rcases hi.a_ b o v T with h|⟨τ,h⟩<;>rw[hr]at h<;>simp at h
  ·rw[u b a];exact f b o v C
 ·intro b a;have:=g.size;rw[u b (by omega),h1.fresh b a];rfl
 ·intro d cs hd;obtain⟨b,e1,e2,e3⟩:=hi.cV d cs hd;obtain⟨hr,c,t,R,z⟩:=e2;have a:=cT R;exact⟨b,e1,⟨I b d a hr,c,t,((g.d9 b a (x_ hr)).2).trans R,aB.mono Q z⟩,e3⟩
 ·intro s V O;simp only[eP,zbw,zac]at O;obtain⟨o,hs,S⟩:=O;cases o with
  |none=>simp at S
  |some cs=>
   simp at S;subst S;obtain⟨b,e1,e2,e3,e4⟩:=h1.dU s cs hs;obtain⟨hr,o,R,z⟩:=e2;refine⟨b,e1,⟨?_,o,R,z.to (fun _ _ _ h=>h) (fun kvs e=>by subst e;rfl) (fun _ r=>Ik (jD e3) r)⟩,?_,?_⟩
   ·rw[E b.1 (by rw[hr];simp),hr];rfl
   ·rw[zaq];intro x hx;obtain⟨y,hy,rfl⟩:=zat.1 hx;exact AJ (zaq.1 e3 y hy)
   ·rw[zaq];intro x hx;obtain⟨y,hy,rfl⟩:=zat.1 hx;exact AI (zaq.1 e4 y hy)
 ·intro s b h;have:=h1.gO s b h;simp only[eP,zaT];exact this
 ·intro τ n hn;by_cases B:τ<aa.length
  ·rw[zal (by omega)]at hn;obtain⟨t,e1,e2,e3⟩:=hi.dp τ _ (za4 B);cases hm:m τ with
   |none=>
    have:=hN.free τ t e1 hm;rw[hn]at this;simp at this;refine⟨t,p τ t e1 hm,this.symm,e3.cap,e3.zero,fun J=>?_⟩;obtain⟨b,o,c,ty,f1,f2,f3,U,f5⟩:=e3.spare J;have a:=cT f3;exact⟨b,o,c,ty,f1,i b τ a f2 hm,((g.d9 b a (pD f2 hm)).2).trans f3,U,fun j v L=>f5 j v (g.i_ b j v a (pD f2 hm) L)⟩
   |some k=>
    have:=hN.used τ t k e1 hm;rw[hn]at this;simp at this;exact⟨_,l τ t k e1 hm,this.symm,⟨zaj _,fun h=>by simp at h,fun h=>by simp at h⟩⟩
  ·rw[zaL (by omega),P]at hn;obtain⟨t,e1,e2,e3⟩:=h1.dp _ n hn;refine⟨t,by simp only[Gh.back,zad B];exact e1,e2,e3.cap,e3.zero,fun J=>?_⟩;obtain⟨b,o,c,ty,f1,f2,f3,U,f5⟩:=e3.spare J;refine⟨b,o,c,ty,f1,?_,f3,U,f5⟩;rw[E b (by rw[f2];simp),f2];simp only[oN];rw[Nat.sub_add_cancel (by omega)]
 ·intro τ t A;simp only[Gh.back]at A;split at A
  ·rename_i B;rw[zal (by omega)];split at A
   ·rename_i t0 h0;split at A
    ·rename_i k hm;simp at A;subst A;exact hN.used τ t0 k h0 hm
    ·rename_i hm;simp at A;subst A;exact hN.free τ t0 h0 hm
   ·simp at A
  ·rename_i B;rw[zaL (by omega),P];exact h1.gX _ t A
theorem ya{G1 G':Gh}{N:Nat}(hK:G1.K.le G'.K)(hs:∀s b,G1.sm s=some b->G'.sm s=some b)(c:∀τ t,G1.tk τ=some t->G'.tk (τ+N)=some t){rs:List AV}{v:Value}(hp:rs.all bE=true)(h:dz (num ns) G1 rs v):dz (num ns) G' (rs.map (cP N)) v:=by
 unfold dz at h;split at h
 ·rename_i r;simp only[zaS,List.all_nil,zcJ]at hp;simp only[zao,zbk,dz];exact wH hK hs c hp h
 ·rename_i hn;obtain⟨vs,e,h⟩:=h;unfold dz;split
  ·rename_i r d;cases rs with
   |nil=>simp at d
   |cons a rs=>
    cases rs with
    |nil=>exact absurd rfl (hn a)
    |cons _ _=>simp at d
  ·exact⟨vs,e,oO hK hs c hp h⟩
theorem AL{m:Nat->Option Nat}{G1:Gh}{n N:Nat}{rs:List AV}{v:Value}(hp:rs.all bE=true)(h:dz (num ns) G1 rs v):dz (num ns) (G.back m G1 n N) (rs.map (cP N)) v:=
 ya (G1:=G1) (G':=G.back m G1 n N) (N:=N) (bo.le_refl G1.K) (fun _ _ h=>h) Gx hp h
end
end Go.Ab
namespace Go.Ab
section
variable {P:Program} {ns:Names} {G:Gh} {w:World}
theorem wI{rs:List PV}{v:Value}(h:mR G.K rs v):aD (num ns) G (tI rs) v:=by
 match rs,h with
 |[r],h=>simp only[mR]at h;simp only[tI,aD];exact h
 |[],h=>simp only[mR]at h;simp only[tI,aD];obtain⟨vs,e,h⟩:=h;exact⟨vs,e,iW h⟩
 |_::_::_,h=>simp only[mR]at h;simp only[tI,aD];obtain⟨vs,e,h⟩:=h;exact⟨vs,e,iW h⟩
theorem Il{rs:List AV}{v:Value}(h:dz (num ns) G rs v):aD (num ns) G (sH rs) v:=by
 match rs,h with
 |[r],h=>simp only[dz]at h;simp only[sH];exact h
 |[],h=>simp only[dz]at h;simp only[sH,aD];exact h
 |_::_::_,h=>simp only[dz]at h;simp only[sH,aD];exact h
theorem Im{v:AV}{a:Value}(h:aD (num ns) G v a):aD (num ns) G (lp v) a:=by
 unfold lp;split
 ·rename_i p hp;simp only[aD];exact xS hp h
 ·exact h
theorem t6{own:List Nat}:∀{i:Nat}{xs:List AV}{vs:List Value},aB (num ns) G xs vs->aB (num ns) G (dS own i xs) vs
 |_,[],_,h=>by simpa[dS,aB]using h
 |i,x::xs,_,h=>by
  simp only[aB]at h;obtain⟨v,r,rfl,e1,e2⟩:=h;simp only[dS,aB];refine⟨v,r,rfl,?_,t6 e2⟩;split
  ·exact e1
  ·exact Im e1
theorem Lq{A:mA}{dst:Option Nat}{c:Call}{k:AK}{args:List Operand}(h:bS P ns A dst (.call c)=some (k,args))(b:k.calls=true):
   (∃f g,c.callee=.value (.func f)∧ns.of f=some g∧args=c.args.toList∧(k=.aH g∨k=.dd g∨(∃own,k=.aY g own)∨(∃sz a,(k=.clone sz a∨∃ag,k=.jO sz a ag)∧look ns.cl g=some (sz,a))∨k=.tG g))∨
   (∃t,c.callee=.value (.tmp t)∧args=.tmp t::c.args.toList∧(k=.gD∨k=.fU)):=by
 obtain⟨callee,j,i⟩:=c;simp only[bS]at h;split at h
 ·split at h<;>simp at h<;>(obtain⟨rfl,_⟩:=h;simp[AK.calls]at b)
 ·split at h<;>simp at h;obtain⟨rfl,_⟩:=h;simp[AK.calls]at b
 ·split at h<;>simp at h;obtain⟨rfl,_⟩:=h;simp[AK.calls]at b
 ·split at h
  ·split at h
   ·rw[zab]at h;obtain⟨_,h⟩:=h;split at h
    ·simp only[zac,zav]at h;obtain⟨_,_,rfl,_⟩:=h;simp[AK.calls]at b
    ·split at h<;>(simp at h;obtain⟨rfl,_⟩:=h;simp[AK.calls]at b)
   ·simp at h
  ·simp at h
 ·split at h
  ·split at h
   ·split at h<;>simp at h
    obtain⟨rfl,_⟩:=h;simp[AK.calls]at b
   ·simp at h
  ·simp at h
 ·split at h
  ·split at h<;>simp at h
   obtain⟨rfl,_⟩:=h;simp[AK.calls]at b
  ·simp at h
 ·rename_i f;left;split at h
  ·rename_i g d;split at h
   ·rename_i sz a e;rw[zab]at h;obtain⟨_,h⟩:=h;split at h
    ·split at h
     ·simp only[zac,zav]at h;obtain⟨ag,_,h1,h2⟩:=h;exact⟨f,g,rfl,d,h2.symm,.inr (.inr (.inr (.inl ⟨sz,a,.inr ⟨ag,h1.symm⟩,e⟩)))⟩
     ·simp at h
    ·simp only[zae,zav]at h;exact⟨f,g,rfl,d,h.2.symm,.inr (.inr (.inr (.inl ⟨sz,a,.inl h.1.symm,e⟩)))⟩
   ·split at h
    ·simp at h;exact⟨f,g,rfl,d,h.2.symm,.inr (.inr (.inr (.inr h.1.symm)))⟩
    ·split at h
     ·simp at h;exact⟨f,g,rfl,d,h.2.symm,.inr (.inr (.inl ⟨_,h.1.symm⟩))⟩
     ·split at h
      ·simp at h;exact⟨f,g,rfl,d,h.2.symm,.inr (.inl h.1.symm)⟩
      ·simp at h;exact⟨f,g,rfl,d,h.2.symm,.inl h.1.symm⟩
  ·simp at h
 ·rename_i t;right;split at h
  ·simp at h;exact⟨t,rfl,h.2.symm,.inr h.1.symm⟩
  ·simp at h;exact⟨t,rfl,h.2.symm,.inl h.1.symm⟩
 ·simp at h
mutual
theorem Gy:∀{a b:PV},vW a b=true->a=b
 | .bool a,b,h=>by cases b<;>simp[vW]at h;rw[h]
 | .int k n,b,h=>by cases b<;>simp[vW]at h;rw[h.1,h.2]
 | .str s,b,h=>by cases b<;>simp[vW]at h;rw[h]
 | .agg l,b,h=>by
  cases b with
  |agg q=>simp only[vW]at h;rw[t7 h]
  |_=>simp[vW]at h
 | .aq l,b,h=>by
  cases b with
  |aq q=>simp only[vW]at h;rw[t7 h]
  |_=>simp[vW]at h
theorem t7:∀{a b:List PV},tJ a b=true->a=b
 |[],b,h=>by cases b with|nil=>rfl|cons _ _=>simp[tJ]at h
 |x::r,b,h=>by
  cases b with
  |nil=>simp[tJ]at h
  |cons y q=>
   simp only[tJ,zaf]at h;rw[Gy h.1,t7 h.2]
end
theorem Gz:∀{a b:List AV},vX a b=true->a=b
 |[],b,h=>by cases b with|nil=>rfl|cons _ _=>simp[vX]at h
 |x::r,b,h=>by
  cases b with
  |nil=>simp[vX]at h
  |cons y q=>
   simp only[vX,zaf]at h;rw[Gz h.2];have h1:=h.1;cases x with
   |pv p=>cases y with
    |pv p'=>simp only[VE]at h1;rw[Gy h1]
    |_=>simp[VE]at h1
   |_=>simp[VE]at h1
theorem yd:∀{a b:Sh},nX a b=true->a=b
 |[],b,h=>by cases b with|nil=>rfl|cons _ _=>simp[nX]at h
 |none::r,b,h=>by
  cases b with
  |nil=>simp[nX]at h
  |cons y q=>cases y with
   |none=>simp only[nX]at h;rw[yd h]
   |some _=>simp[nX]at h
 |some x::r,b,h=>by
  cases b with
  |nil=>simp[nX]at h
  |cons y q=>cases y with
   |none=>simp[nX]at h
   |some y=>
    simp only[nX,zaf]at h;rw[Gz h.1,yd h.2]
theorem v7{orc:eZ}{vals:List AV}{cells:Option (List AV)}{sh:Sh}{aa:aG}{out:Out}(h:exec orc .fU vals cells sh aa=some out):exec orc .gD vals cells sh aa=some out:=by
 cases vals with
 |nil=>simp[exec]at h
 |cons f vals=>
  cases f with
  |fn g cap=>
   simp only[exec,zaz]at h;obtain⟨⟨v,sh',ts⟩,h1,h2⟩:=h;simp only[YC,zab,zae]at h2;obtain⟨h3,rfl⟩:=h2;have:=yd h3;subst this;simp[exec,h1]
  |_=>simp[exec]at h
theorem mW{orc:eZ}(b:kJ P ns orc){f g:Nat}{own:List Nat}(o:ns.of f=some g){vals:List AV}{vs:List Value}{x:AV}{mem:List (Nat×List AV)}{sh sh':Sh}{aa toks':aG}
   (hr:aB (num ns) G vals vs) (hi:Inv (num ns) G w mem sh aa) (h:dZ orc g own vals sh aa=some (x,sh',toks')):
   Calls P f vs.toArray w fun e w'=>∃v G',e=.returned v∧aD (num ns) G' x v∧Inv (num ns) G' w' mem sh' toks'∧G.le G'∧bL G w G' w':=by
 unfold dZ at h;simp only[zab,zac]at h;obtain⟨hp,⟨rs,j,d⟩,h1,h2⟩:=h;simp only[zav]at h2;obtain⟨rfl,rfl,rfl⟩:=h2;obtain⟨hC,l⟩:=b.i g f _ _ rs _ j d o (jd hp) h1;obtain⟨m,tks,hN,k,a⟩:=hi.HY hp (t6 (own:=own) (i:=0) hr);refine(hC (G.to m tks) w vs k a).mono ?_
 rintro e w' ⟨v,G1,rfl,ie,n,c⟩
 obtain⟨g1,g2,p⟩:=hi.back hN Ij n c;exact⟨v,_,rfl,Il (AL l ie),g1,g2,p⟩
theorem Ps(hB:iM P ns){orc:eZ}(i:kJ P ns orc){A:mA}{o:Oper}{k:AK}{args:List Operand}(Z:bS P ns A o.dst o.op=some (k,args)){a:Act}{vals:List AV}{out:Out}
   {mem:List (Nat×List AV)} {sh:Sh} {aa:aG} (hr:aB (num ns) G vals (args.map a.eval)) (hi:Inv (num ns) G w mem sh aa)
   (h:exec orc k vals (k.key.bind (look mem)) sh aa=some out) {next:Act->World->Prop} {Q:Exit->Act->World->Prop}
   (hn:∀v w' G',aD (num ns) G' out.val v->Inv (num ns) G' w' (fY mem k.key out.cells) out.sh out.aa->G.le G'->bL G w G' w'->next (a.put o.dst v) w'):o.wp P a w next Q:=by
 cases hk:k.calls with
 |false=>
  obtain⟨n,v,w',G',g1,g2,l,g4,g5,g6⟩:=rJ Z hk hr hi h;unfold Oper.wp;rw[g1];rcases g2 with rfl|⟨rfl,rfl⟩
  ·exact hn v w' G' l g4 g5 g6
  ·exact hn undef w' G' l g4 g5 g6
 |true=>
  obtain⟨dst,op,type,pos,after,guard⟩:=o;have E:∃c,op=.call c:=Dc (k:=k) (by cases k<;>simp_all[AK.calls]) Z;obtain⟨c,rfl⟩:=E;rcases Lq Z hk with⟨f,g,j,C,rfl,X⟩|⟨t,j,rfl,J⟩
  ·have d:(execOp a.eval ⟨dst,.call c,type,pos,after,guard⟩).run P w=.ok (.enter f ((c.args.toList.map a.eval).toArray)) w:=by
    obtain⟨callee,H,B⟩:=c;simp only at j;subst j;simp only[execOp,resolve,zau,Act.eval,Deferred.ofValue,zaB,zag,invoke];rw[lV hB C];congr 2;apply zby;simp
   rcases X with rfl|rfl|⟨own,rfl⟩|⟨sz,N,z,Y⟩|rfl
   ·-- for pure M
    simp only[exec]at h;split at h
    ·rename_i dV hp;simp only[zac]at h;obtain⟨rs,h1,rfl⟩:=h;have hC:=i.p g f dV rs C h1 G.K w _ (fun b c F=>(hi.nZ b c F).2) hi.known (oF hp hr);unfold Oper.wp;rw[d];refine hC.mono ?_
     rintro e w' ⟨v,K',rfl,ie,hK,m,D,F⟩
     obtain⟨g1,g2,l⟩:=hi.pure hK m D F;exact hn v w' _ (wI ie) (by simpa[AK.key,fY]using g1) g2 l
    ·simp at h
   ·-- for pure M,U frozen
    simp only[exec]at h;split at h
    ·rename_i dV hp;simp only[zac]at h;obtain⟨rs,h1,rfl⟩:=h;obtain⟨G1,W,k2,k3,k4,k5⟩:=Inv.kill (vals.flatMap gN) hi;have hC:=i.p g f dV rs C h1 G1.K w _ (fun b c F=>(W.nZ b c F).2) W.known (rK k2 k4 hi.x8 (fun s hs=>hs) hp hr);unfold Oper.wp;rw[d];refine hC.mono ?_
     rintro e w' ⟨v,K',rfl,ie,hK,m,D,F⟩
     obtain⟨g1,g2,l⟩:=W.pure hK m D F;exact hn v w' _ (wI ie) (by simpa[AK.key,fY,eN]using g1) (Gh.le_trans k2 g2) (k3.trans l)
    ·simp at h
   ·-- with the R S
    simp only[exec,zac]at h;obtain⟨⟨x,sh',ts'⟩,h1,rfl⟩:=h;have hC:=mW i C hr hi h1;unfold Oper.wp;rw[d];refine hC.mono ?_
    rintro e w' ⟨v,G',rfl,g1,g2,l,g4⟩
    exact hn v w' G' g1 (by simpa[AK.key,fY]using g2) l g4
   ·-- O.Clone
    have q:k.key=none:=by rcases z with rfl|⟨ag,rfl⟩<;>rfl
    rw[q]at hn;rcases vals with _|⟨x,_|⟨_,_⟩⟩
    ·rcases z with rfl|⟨ag,rfl⟩<;>simp[exec]at h
    ·obtain⟨V,y,sh',ts',h1,rfl⟩:∃V y sh' ts',gI V sz N x sh aa=some (y,sh',ts')∧out=⟨y,none,sh',ts'⟩:=by
      rcases z with rfl|⟨ag,rfl⟩
      ·simp only[exec,zac]at h;obtain⟨⟨y,ts'⟩,h1,rfl⟩:=h;exact⟨none,y,sh,ts',by simp[gI,h1],rfl⟩
      ·simp only[exec,zac]at h;obtain⟨⟨y,sh',ts'⟩,h1,rfl⟩:=h;exact⟨some ag,y,sh',ts',h1,rfl⟩
     have hl:=hr.length;obtain⟨v,T⟩:∃v,c.args.toList.map a.eval=[v]:=List.length_eq_one_iff.1 (by simpa using hl);rw[T]at hr;simp only[aB]at hr;obtain⟨v',r,e,hx,rfl⟩:=hr;cases e;have hC:=i.c g sz N f Y C V G w mem sh sh' aa ts' x y v hi hx h1;unfold Oper.wp;rw[d,T];refine hC.mono ?_
     rintro e w' ⟨u,G',rfl,g1,g2,l,g4⟩
     exact hn u w' G' g1 (by simpa[fY]using g2) l g4
    ·rcases z with rfl|⟨ag,rfl⟩<;>simp[exec]at h
   ·simp[exec]at h
  ·-- a I value
   have q:k.key=none:=by rcases J with rfl|rfl<;>rfl
   replace h:exec orc .gD vals none sh aa=some out:=by
    rcases J with rfl|rfl
    ·exact h
    ·exact v7 h
   rw[q]at hn;cases vals with
   |nil=>simp[aB]at hr
   |cons x0 vals=>
    simp only[zao,aB]at hr;obtain⟨fv,r,e,hf,hr⟩:=hr;simp only[zbm]at e;obtain⟨rfl,rfl⟩:=e;cases x0 with
    |fn g cap=>
     simp only[exec,zac]at h;obtain⟨⟨x,sh',ts'⟩,h1,rfl⟩:=h;simp only[aD]at hf;obtain⟨f,vs,C,T,L⟩:=hf
     have d:(execOp a.eval ⟨dst,.call c,type,pos,after,guard⟩).run P w=.ok (.enter f ((c.args.toList.map a.eval++vs).toArray)) w:=by
      obtain⟨callee,H,B⟩:=c;simp only at j;subst j;simp only[execOp,resolve,zau];rw[T];simp only[Deferred.ofValue,zaB,zag,invoke];rw[lV hB C];congr 2;apply zby;simp
     have hC:=mW i C (aB.append hr L) hi h1;unfold Oper.wp;rw[d];refine hC.mono ?_
     rintro e w' ⟨v,G',rfl,g1,g2,l,g4⟩
     exact hn v w' G' g1 (by simpa[AK.key,fY]using g2) l g4
    |_=>simp[exec]at h
end
end Go.Ab
namespace Go.Ab
section
variable {n0:Nat} {P:Program} {ns:Names} {G:Gh} {w:World}
theorem mN.mono{G':Gh}{N:Nat}{env:List (Nat×AV)}{a:Act}(h:mN (num ns) G N env a)(b:G.le G'):mN (num ns) G' N env a:=
 ⟨h.size,fun t x hx=>let ⟨v,h1,h2⟩:=h.env t x hx;⟨v,h1,h2.mono b⟩⟩
theorem mN.put{N:Nat}{env:List (Nat×AV)}{a:Act}(h:mN (num ns) G N env a){dst:Option Nat}(hd:(dst.map (fun d=>decide (d<N))).getD true=true){x:AV}{v:Value}(hx:aD (num ns) G x v):
   mN (num ns) G N (gJ env dst x) (a.put dst v):=by
 cases dst with
 |none=>exact h
 |some d=>
  simp at hd;refine⟨by simp[Act.put,h.size],fun t y hy=>?_⟩;simp only[gJ]at hy;by_cases b:d=t
  ·subst b;rw[b_]at hy;cases hy;exact⟨v,by simp[Act.put,h.size,hd],hx⟩
  ·rw[bM _ _ _ _ b]at hy;obtain⟨u,h1,h2⟩:=h.env t y hy;exact⟨u,by simp only[Act.put];rw[zay b];exact h1,h2⟩
theorem put_defers(a:Act)(dst:Option Nat)(v:Value):(a.put dst v).defers=a.defers:=by cases dst<;>rfl
theorem l7{A:mA}{N:Nat}{ops:Array Oper}{o:Oper}{a:dI}(h:gK P ns A N ops o=some a):
   ∃args,bS P ns A o.dst o.op=some (a.op,args)∧dm (jz ns) args=some a.args∧a.dst=o.dst∧(o.dst.map (fun d=>decide (d<N))).getD true=true ∧
     ((o.guard=none∧a.guard=none)∨∃j b t,o.guard=some (j,b)∧(ops[j]?).bind (·.dst)=some t∧a.guard=some (t,b)):=by
 unfold gK at h;split at h
 ·rename_i k args e;split at h
  ·rename_i as f;simp only[zab]at h;obtain⟨hd,h⟩:=h;split at h
   ·rename_i c;simp at h;subst h;exact⟨args,e,f,rfl,hd,.inl ⟨c,rfl⟩⟩
   ·rename_i j b c;split at h
    ·rename_i t g;simp at h;subst h;exact⟨args,e,f,rfl,hd,.inr ⟨j,b,t,c,g,rfl⟩⟩
    ·simp at h
  ·simp at h
 ·simp at h
theorem pF{A:mA}{N:Nat}{ops:Array Oper}{o:Oper}{f:dI}{env:List (Nat×AV)}{a:Act}(h:gK P ns A N ops o=some f)(e:mN (num ns) G N env a){r:Bool}
   (hw:gq env f.guard=some r):Region.wanted o (yielded ops a.tmps)=r:=by
 obtain⟨_,_,_,_,_,g⟩:=l7 h;rcases g with⟨h1,h2⟩|⟨j,b,t,h1,h2,h3⟩
 ·rw[h2]at hw;simp[gq]at hw;simp[Region.wanted,h1,hw]
 ·rw[h3]at hw;simp only[gq]at hw;split at hw
  ·rename_i c d;obtain⟨v,e1,e2⟩:=e.env t _ d;simp only[aD,jT]at e2;simp at hw;simp[Region.wanted,h1,yielded,h2,e1,e2,hw]
  ·rename_i d;obtain⟨v,e1,e2⟩:=e.env t _ d;simp only[aD]at e2;simp at hw;simp[Region.wanted,h1,yielded,h2,e1,e2,undef,<-hw]
  ·simp at hw
theorem Di(i:iM P ns){orc:eZ}(d:kJ P ns orc){A:mA}{N:Nat}{ops:Array Oper}{o:Oper}{f:dI}(e:gK P ns A N ops o=some f)
   {st c:St} {a:Act} (hs:ik (num ns) n0 N G st a w) (b:dT orc f st=some c) {next:Act->World->Prop} {Q:Exit->Act->World->Prop}
   (hn:∀G' v w',ik (num ns) n0 N G' c (a.put o.dst v) w'->bL G w G' w'->next (a.put o.dst v) w'):
   (Region.wanted o (yielded ops a.tmps)=true∧o.wp P a w next Q)∨(Region.wanted o (yielded ops a.tmps)=false∧next (a.put o.dst undef) w):=by
 obtain⟨args,h1,h2,h3,h4,_⟩:=l7 e;unfold dT at b;split at b
 ·simp at b
 ·rename_i hw;right;refine⟨pF e hs.env hw,?_⟩;simp at b;subst b;refine hn G _ w ⟨?_,hs.inv,hs.marks.zL (bL.refl G w) (put_defers _ _ _)⟩ (bL.refl G w);simp only[h3];exact hs.env.put h4 (by simp[aD])
 ·rename_i hw;left;refine⟨pF e hs.env hw,?_⟩;split at b
  ·simp at b
  ·rename_i vals g;split at b
   ·simp at b
   ·rename_i out h;simp at b;subst b;have hr:=zY hs.env h2 g;refine Ps i d h1 hr hs.inv h ?_;intro v w' G' g1 g2 j g4;refine hn G' _ w' ⟨?_,g2,hs.marks.zL g4 (put_defers _ _ _)⟩ g4;simp only[h3];exact(hs.env.mono j).put h4 g1
end
end Go.Ab
namespace Go.Ab
section
variable {orc:eZ}
def Lr(E:Nat->Option AV):eM->Option AV
 | .t n=>E n
 | .c v=>some v
def lx(E:Nat->Option AV):List eM->Option (List AV)
 |[]=>some []
 |x::r=>match Lr E x,lx E r with
  |some v,some vs=>some (v::vs)
  |_,_=>none
def nD(E:Nat->Option AV):Option (Nat×Bool)->Option Bool
 |none=>some true
 |some (t,b)=>match E t with
  |some (.pv (.bool c))=>some (c == b)
  |some .un=>some false
  |_=>none
def cU(orc:eZ)(o:dI)(E:Nat->Option AV)(M:Nat->Option (List AV))(sh:Sh)(aa:aG):Option Out:=
 match nD E o.guard with
 |none=>none
 |some false=>some ⟨.un,none,sh,aa⟩
 |some true=>match lx E o.args with
  |none=>none
  |some vals=>exec orc o.op vals (o.op.key.bind M) sh aa
theorem t8(env:List (Nat×AV)):∀l,d_ env l=lx (look env) l
 |[]=>rfl
 |x::l=>by
  have:g_ env x=Lr (look env) x:=by cases x<;>rfl
  simp only[d_,lx,this,t8 env l];rfl
theorem dW(o:dI)(st:St):dT orc o st=(cU orc o (look st.env) (look st.mem) st.sh st.aa).map
   fun r=>{env:=gJ st.env o.dst r.val,mem:=fY st.mem o.op.key r.cells,sh:=r.sh,aa:=r.aa}:=by
 unfold dT cU
 have hw:gq st.env o.guard=nD (look st.env) o.guard:=by
  cases o.guard with
  |none=>rfl
  |some g=>rfl
 rw[hw];cases nD (look st.env) o.guard with
 |none=>rfl
 |some b=>cases b with
  |false=>simp[gr]
  |true=>
   simp only[t8];cases lx (look st.env) o.args with
   |none=>rfl
   |some vals=>
    simp only;cases exec orc o.op vals (o.op.key.bind (look st.mem)) st.sh st.aa<;>rfl
theorem mX{E E':Nat->Option AV}:∀{l:List eM},(∀t∈l.filterMap (fun| .t n=>some n|_=>none),E t=E' t)->lx E l=lx E' l
 |[],_=>rfl
 | .c v::l,h=>by
  simp only[lx,Lr];rw[mX (l:=l) (fun t a=>h t (by simpa using a))]
 | .t n::l,h=>by
  simp only[lx,Lr];rw[mX (l:=l) (fun t a=>h t (by simp only[List.filterMap_cons,zah];exact .inr a)),h n (by simp)]
theorem iv{o:dI}{E E':Nat->Option AV}{M a:Nat->Option (List AV)}{sh:Sh}{aa:aG}(c:∀t∈o.looks,E t=E' t)(h:∀k,o.op.key=some k->M k=a k):
   cU orc o E M sh aa=cU orc o E' a sh aa:=by
 have h1:nD E o.guard=nD E' o.guard:=by
  cases f:o.guard with
  |none=>rfl
  |some g=>
   obtain⟨t,b⟩:=g;simp only[nD];rw[c t (by simp[dI.looks,f])]
 have h2:lx E o.args=lx E' o.args:=mX fun t d=>c t (by simp only[dI.looks,zai];exact .inl d)
 have h3:o.op.key.bind M=o.op.key.bind a:=by
  cases e:o.op.key with
  |none=>rfl
  |some k=>exact h k e
 unfold cU;rw[h1,h2,h3]
theorem Tq{op:AK}{vals:List AV}{cells:Option (List AV)}{sh:Sh}{aa:aG}{r:Out}(a:op.jm=false)(h:exec orc op vals cells sh aa=some r):
   r.sh=sh∧∀sh',exec orc op vals cells sh' aa=some {r with sh:=sh'}:=by
 cases op with
 |v c=>
  simp only[exec,zac]at h⊢;obtain⟨x,h1,rfl⟩:=h;exact⟨rfl,fun sh'=>⟨x,h1,rfl⟩⟩
 |cg k o s ag=>
  obtain⟨cs,x,rfl,rfl,hx,rfl⟩:=iL h;exact⟨rfl,fun sh'=>by simp[exec,hx]⟩
 |bB k o s=>
  obtain⟨cs,v,rfl,rfl,h1,h2,h3,rfl⟩:=jb h;exact⟨rfl,fun sh'=>by simp[exec,h1,h2,h3]⟩
 |alloc k z=>
  obtain⟨rfl,rfl,rfl⟩:=j8 h;exact⟨rfl,fun sh'=>by simp[exec]⟩
 |box k s=>
  obtain⟨v,rfl,rfl,h1,h2,rfl⟩:=mQ h;exact⟨rfl,fun sh'=>by simp only[exec];rw[zak ⟨h1,h2⟩]⟩
 |append s b=>
  obtain⟨s,x,y,ts,rfl,h1,rfl⟩:=kI h;exact⟨rfl,fun sh'=>by simp[exec,h1]⟩
 |dN s b ag=>simp[AK.jm]at a
 |im s z=>simp[AK.jm]at a
 |Ld s=>simp[AK.jm]at a
 |clone s b=>
  obtain⟨x,y,ts,rfl,h1,rfl⟩:=oJ h;exact⟨rfl,fun sh'=>by simp[exec,h1]⟩
 |aH g=>
  simp only[exec]at h⊢;split at h
  ·rename_i dV hp;simp only[zac]at h;obtain⟨rs,h1,rfl⟩:=h;exact⟨rfl,fun sh'=>by simp[h1]⟩
  ·simp at h
 |_=>first|(simp[AK.jm]at a;done)|(simp[exec]at h;done)|(simp[exec]at e;done)|(simp[exec];done)
theorem Ts{op:AK}{vals:List AV}{cells:Option (List AV)}{sh:Sh}{aa:aG}{r:Out}(a:op.gL=false)(h:exec orc op vals cells sh aa=some r):
   r.aa=aa∧∀ts,exec orc op vals cells sh ts=some {r with aa:=ts}:=by
 cases op with
 |v i=>
  simp only[exec,zac]at h⊢;obtain⟨x,h1,rfl⟩:=h;exact⟨rfl,fun ts=>⟨x,h1,rfl⟩⟩
 |cg k o s ag=>
  obtain⟨cs,x,rfl,rfl,hx,rfl⟩:=iL h;exact⟨rfl,fun ts=>by simp[exec,hx]⟩
 |bB k o s=>
  obtain⟨cs,v,rfl,rfl,h1,h2,h3,rfl⟩:=jb h;exact⟨rfl,fun ts=>by simp[exec,h1,h2,h3]⟩
 |alloc k z=>
  obtain⟨rfl,rfl,rfl⟩:=j8 h;exact⟨rfl,fun ts=>by simp[exec]⟩
 |box k s=>
  obtain⟨v,rfl,rfl,h1,h2,rfl⟩:=mQ h;exact⟨rfl,fun ts=>by simp only[exec];rw[zak ⟨h1,h2⟩]⟩
 |append s b=>simp[AK.gL]at a
 |dN s b ag=>simp[AK.gL]at a
 |xH s b=>simp[AK.gL]at a
 |clone s b=>simp[AK.gL]at a
 |jO s b ag=>
  rcases vals with _|⟨x,_|⟨_,_⟩⟩
  ·simp[exec]at h
  ·simp only[exec,gI]at h⊢;split at h
   ·rename_i xs hx;split at h
    ·rename_i f;simp only[Option.map_map,zac]at h;obtain⟨⟨y,sh'⟩,h1,rfl⟩:=h;refine⟨rfl,fun ts=>?_⟩;simp[hx,f,h1]
    ·simp at h
   ·simp at h
  ·simp[exec]at h
 |im s z=>
  obtain⟨x,sh',rfl,h1,rfl⟩:=rG h;exact⟨rfl,fun ts=>by simp[exec,h1]⟩
 |aH g=>
  simp only[exec]at h⊢;split at h
  ·rename_i dV hp;simp only[zac]at h;obtain⟨rs,h1,rfl⟩:=h;exact⟨rfl,fun ts=>by simp[h1]⟩
  ·simp at h
 |dd g=>
  simp only[exec]at h⊢;split at h
  ·rename_i dV hp;simp only[zac]at h;obtain⟨rs,h1,rfl⟩:=h;exact⟨rfl,fun ts=>by simp[h1]⟩
  ·simp at h
 |aY g own=>simp[AK.gL]at a
 |tG g=>simp[AK.gL]at a
 |gD=>simp[AK.gL]at a
 |fU=>simp[AK.gL]at a
 |dH s ag=>
  obtain⟨p,x,rfl,rfl,d⟩:=lS h;refine⟨rfl,fun ts=>?_⟩;rcases d with⟨cs,rfl,hx⟩|⟨b,off,cs,rfl,c,hm,hx⟩
  ·simp[exec,hx]
  ·simp[exec,c,hm,hx]
 |et s=>
  obtain⟨b,off,v,cs,rfl,c,h0,h1,h2,h3,h4,rfl⟩:=jc h;refine⟨rfl,fun ts=>?_⟩;simp only[exec,c];rw[zak ⟨h0,h1,h2,h3,h4⟩]
 |qn s=>
  obtain⟨v,rfl,h1,h2,h3,rfl⟩:=nv h;refine⟨rfl,fun ts=>?_⟩;simp only[exec];rw[zak ⟨h1,h2,h3⟩]
 |sG s=>
  obtain⟨v,rfl,h1,h2,h3,rfl⟩:=nA h;refine⟨rfl,fun ts=>?_⟩;simp only[exec];rw[zak ⟨h1,h2,h3⟩]
 |fR z=>
  obtain⟨rfl,rfl⟩:=kH h;exact⟨rfl,fun ts=>by simp[exec]⟩
 |lh s b ag z=>
  obtain⟨k,k',n,rfl,h1,h2,h3,h4,rfl⟩:=lT h;exact⟨rfl,fun ts=>by simp[exec,h1,h2,h3,h4]⟩
 |_=>first|(simp[exec]at h;done)|(simp[exec]at e;done)|(simp[exec];done)
theorem Tt{op:AK}{vals:List AV}{cells:Option (List AV)}{sh:Sh}{aa:aG}{r:Out}(a:op.iU=false)(c:op.key≠none)(h:exec orc op vals cells sh aa=some r):r.cells=none:=by
 cases op with
 |cg k o s ag=>
  obtain⟨cs,x,rfl,rfl,hx,rfl⟩:=iL h;rfl
 |bB k o s=>simp[AK.iU]at a
 |alloc k z=>simp[AK.iU]at a
 |box k s=>simp[AK.iU]at a
 |re d s b z=>simp[AK.iU]at a
 |_=>simp[AK.key]at c
theorem v9{sz:Nat}{ag:Bool}{vals:List AV}{cells:Option (List AV)}{sh:Sh}{aa:aG}{r:Out}(h:exec orc (.dH sz ag) vals cells sh aa=some r):r.sh=sh:=by
 obtain⟨p,x,rfl,rfl,_⟩:=lS h;rfl
theorem v_{c:CK}{ok:Bool}{z:PV}{vals:List AV}{cells:Option (List AV)}{sh:Sh}{aa:aG}{r:Out}(h:exec orc (.zV c ok z) vals cells sh aa=some r):r.sh=sh:=by simp[exec]at h
theorem t9{vals:List AV}{cells:Option (List AV)}{sh:Sh}{aa:aG}{r:Out}(h:exec orc .fU vals cells sh aa=some r):r.sh=sh:=by
 cases vals with
 |nil=>simp[exec]at h
 |cons f vals=>
  cases f with
  |fn g cap=>
   simp only[exec,zaz]at h;obtain⟨⟨v,sh',ts⟩,_,h2⟩:=h;simp only[YC,zab,zae]at h2;rw[<-h2.2]
  |_=>simp[exec]at h
theorem t_{o:dI}{E:Nat->Option AV}{M:Nat->Option (List AV)}{sh:Sh}{aa:aG}{r:Out}(a:o.op.jm=false)(h:cU orc o E M sh aa=some r):
   r.sh=sh∧∀sh',cU orc o E M sh' aa=some {r with sh:=sh'}:=by
 unfold cU at*;split at h
 ·simp at h
 ·simp at h;subst h;exact⟨rfl,fun _=>rfl⟩
 ·split at h
  ·simp at h
  ·exact Tq a h
theorem AM{o:dI}{E:Nat->Option AV}{M:Nat->Option (List AV)}{sh:Sh}{aa:aG}{r:Out}(b:o.op.wB=true)(h:cU orc o E M sh aa=some r):r.sh=sh:=by
 unfold cU at*;split at h
 ·simp at h
 ·simp at h;subst h;rfl
 ·split at h
  ·simp at h
  ·rename_i vals _;cases a:o.op with
   |dH sz ag=>
    rw[a]at h;have hl:=v9 h;exact hl
   |zV c ok z=>
    rw[a]at h;exact v_ h
   |fU=>
    rw[a]at h;exact t9 h
   |_=>rw[a]at b;simp[AK.wB]at b
theorem pG{o:dI}{E:Nat->Option AV}{M:Nat->Option (List AV)}{sh:Sh}{aa:aG}{r:Out}(a:o.op.gL=false)(h:cU orc o E M sh aa=some r):
   r.aa=aa∧∀ts,cU orc o E M sh ts=some {r with aa:=ts}:=by
 unfold cU at*;split at h
 ·simp at h
 ·simp at h;subst h;exact⟨rfl,fun _=>rfl⟩
 ·split at h
  ·simp at h
  ·exact Ts a h
theorem pH{o:dI}{E:Nat->Option AV}{M:Nat->Option (List AV)}{sh:Sh}{aa:aG}{r:Out}(a:o.op.iU=false)(b:o.op.key≠none)(h:cU orc o E M sh aa=some r):r.cells=none:=by
 unfold cU at h;split at h
 ·simp at h
 ·simp at h;subst h;rfl
 ·split at h
  ·simp at h
  ·exact Tt a b h
structure kW(x y:St):Prop where
 env:∀t,look x.env t=look y.env t
 mem:∀t,look x.mem t=look y.mem t
 sh:x.sh=y.sh
 aa:x.aa=y.aa
theorem kW.refl(x:St):kW x x:=⟨fun _=>rfl,fun _=>rfl,rfl,rfl⟩
theorem kW.symm{x y:St}(h:kW x y):kW y x:=⟨fun t=>(h.env t).symm,fun t=>(h.mem t).symm,h.sh.symm,h.aa.symm⟩
theorem kW.trans{x y z:St}(h:kW x y)(k:kW y z):kW x z:=⟨fun t=>(h.env t).trans (k.env t),fun t=>(h.mem t).trans (k.mem t),h.sh.trans k.sh,h.aa.trans k.aa⟩
theorem eE(env:List (Nat×AV))(d:Option Nat)(v:AV)(t:Nat):look (gJ env d v) t=if d=some t then some v else look env t:=by
 cases d with
 |none=>simp[gJ]
 |some d=>
  simp only[gJ,zae];by_cases h:d=t
  ·subst h;rw[zak rfl,b_]
  ·rw[zad h,bM _ _ _ _ h]
theorem nE(mem:List (Nat×List AV))(k:Option Nat)(c:Option (List AV))(t:Nat):look (fY mem k c) t=if k=some t then(match c with|some cs=>some cs|none=>look mem t)else look mem t:=by
 cases c with
 |none=>rw[gr];split<;>rfl
 |some cs=>
  cases k with
  |none=>simp[fY]
  |some k=>
   simp only[fY,zae];by_cases h:k=t
   ·subst h;rw[zak rfl,b_]
   ·rw[zad h,bM _ _ _ _ h]
theorem Io{o:dI}{x y b:St}(h:kW x y)(c:dT orc o x=some b):∃a,dT orc o y=some a∧kW b a:=by
 rw[dW,zac]at c;obtain⟨r,hr,rfl⟩:=c
 have:cU orc o (look y.env) (look y.mem) y.sh y.aa=some r:=by
  rw[<-h.sh,<-h.aa,<-hr];exact(iv (fun t _=>h.env t) (fun t _=>h.mem t)).symm
 refine⟨{env:=gJ y.env o.dst r.val,mem:=fY y.mem o.op.key r.cells,sh:=r.sh,aa:=r.aa},by rw[dW,this];rfl,⟨fun t=>?_,fun t=>?_,rfl,rfl⟩⟩
 ·simp only[eE,h.env]
 ·simp only[nE,h.mem]
end
end Go.Ab
namespace Go.Ab
section
variable {orc:eZ}
theorem qC{x y:dI}(h:indep x y=true):
   (∀d,x.dst=some d->d∉y.looks∧y.dst≠some d)∧(∀d,y.dst=some d->d∉x.looks)∧(x.op.jm=false∨y.op.jm=false∨(x.op.wB=true∧y.op.wB=true))∧(x.op.gL=false∨y.op.gL=false)∧
   (∀k,x.op.key=some k->y.op.key=some k->x.op.iU=false∧y.op.iU=false):=by
 simp only[indep,zaf,zbh,zcl,Bool.and_eq_false_iff]at h;obtain⟨⟨⟨⟨h1,h2⟩,h3⟩,h4⟩,h5⟩:=h;refine⟨fun d hd=>?_,fun d hd=>?_,h3.elim (fun h=>h.elim .inl fun h=>.inr (.inl h)) fun h=>.inr (.inr h),h4,fun k hx hy=>?_⟩
 ·rw[hd]at h1;simp at h1;exact h1
 ·rw[hd]at h2;simpa using h2
 ·rw[hx,hy]at h5;simp at h5;exact h5
theorem Pt{x y:dI}(h:indep x y=true){st n m:St}(h1:dT orc x st=some n)(h2:dT orc y n=some m):
   ∃l j,dT orc y st=some l∧dT orc x l=some j∧kW j m:=by
 obtain⟨u,B,hS,hT,hK⟩:=qC h;rw[dW,zac]at h1 h2;obtain⟨r1,d,rfl⟩:=h1;obtain⟨r2,s,rfl⟩:=h2;simp only at s
 have b:cU orc y (look st.env) (look st.mem) r1.sh r1.aa=some r2:=by
  rw[<-s];refine iv (fun t z=>?_) (fun k A=>?_)
  ·rw[eE,zad];intro e;exact(u t e).1 z
  ·rw[nE];split
   ·rename_i e;have:=pH (hK k e A).1 (by rw[e];simp) d;rw[this]
   ·rfl
 obtain⟨sh',ts',hy,g,w⟩:∃sh' ts',cU orc y (look st.env) (look st.mem) st.sh st.aa=some {r2 with sh:=sh',aa:=ts'}∧
     ((x.op.jm=false∧sh'=r2.sh∧r1.sh=st.sh)∨(sh'=st.sh∧r2.sh=r1.sh))∧
     ((x.op.gL=false∧ts'=r2.aa∧r1.aa=st.aa)∨(y.op.gL=false∧ts'=st.aa∧r2.aa=r1.aa)):=by
   have c:∃sh',cU orc y (look st.env) (look st.mem) st.sh r1.aa=some {r2 with sh:=sh'}∧((x.op.jm=false∧sh'=r2.sh∧r1.sh=st.sh)∨(sh'=st.sh∧r2.sh=r1.sh)):=by
    rcases hS with hS|hS|⟨hS,C⟩
    ·have e:=(t_ hS d).1;exact⟨r2.sh,by rw[<-e];exact b,.inl ⟨hS,rfl,e⟩⟩
    ·obtain⟨e,f⟩:=t_ hS b;exact⟨st.sh,f st.sh,.inr ⟨rfl,e⟩⟩
    ·have e:=AM hS d;have e2:=AM C b;exact⟨r2.sh,by rw[<-e];exact b,.inr ⟨e2.trans e,e2⟩⟩
   obtain⟨sh',o,g⟩:=c;rcases hT with hT|hT
   ·have e:=(pG hT d).1;exact⟨sh',r2.aa,by rw[<-e];exact o,g,.inl ⟨hT,rfl,e⟩⟩
   ·obtain⟨_,f⟩:=pG hT o;have e:=(pG hT b).1;exact⟨sh',st.aa,f st.aa,g,.inr ⟨hT,rfl,e⟩⟩
 refine⟨{env:=gJ st.env y.dst r2.val,mem:=fY st.mem y.op.key r2.cells,sh:=sh',aa:=ts'},?_⟩
 have hx:cU orc x (look (gJ st.env y.dst r2.val)) (look (fY st.mem y.op.key r2.cells)) st.sh st.aa=some r1:=by
  rw[<-d];refine iv (fun t z=>?_) (fun k A=>?_)
  ·rw[eE,zad];intro e;exact B t e z
  ·rw[nE];split
   ·rename_i e;have:=pH (hK k A e).2 (by rw[e];simp) b;rw[this]
   ·rfl
 obtain⟨a,v,p,i,r,q⟩:∃a,cU orc x (look (gJ st.env y.dst r2.val)) (look (fY st.mem y.op.key r2.cells)) sh' ts'=some a∧a.val=r1.val∧a.cells=r1.cells∧a.sh=r2.sh∧a.aa=r2.aa:=by
  have c:∃a,cU orc x (look (gJ st.env y.dst r2.val)) (look (fY st.mem y.op.key r2.cells)) sh' st.aa=some a∧a.val=r1.val∧a.cells=r1.cells∧a.sh=r2.sh∧a.aa=r1.aa:=by
   rcases g with⟨hS,rfl,_⟩|⟨rfl,e⟩
   ·exact⟨_,(t_ hS hx).2 r2.sh,rfl,rfl,rfl,rfl⟩
   ·exact⟨r1,hx,rfl,rfl,e.symm,rfl⟩
  obtain⟨H,D,G,F,E,I⟩:=c;rcases w with⟨hT,rfl,_⟩|⟨_,rfl,e⟩
  ·exact⟨_,(pG hT D).2 r2.aa,G,F,E,rfl⟩
  ·exact⟨H,D,G,F,E,I.trans e.symm⟩
 refine⟨{env:=gJ (gJ st.env y.dst r2.val) x.dst a.val,mem:=fY (fY st.mem y.op.key r2.cells) x.op.key a.cells,sh:=a.sh,aa:=a.aa},?_,?_,?_⟩
 ·rw[dW,hy];rfl
 ·rw[dW,v];rfl
 ·refine⟨fun t=>?_,fun t=>?_,r,q⟩
  ·simp only[eE,p];by_cases hx:x.dst=some t
   ·rw[zak hx,zad (u t hx).2,zak hx]
   ·rw[zad hx,zad hx]
  ·simp only[nE,i];by_cases hx:x.op.key=some t
   ·rw[zak hx,zak hx];by_cases hy:y.op.key=some t
    ·rw[zak hy,zak hy];have e1:=pH (hK t hx hy).1 (by rw[hx];simp) d;have e2:=pH (hK t hx hy).2 (by rw[hy];simp) b;rw[e1,e2]
    ·rw[zad hy,zad hy]
   ·rw[zad hx,zad hx]
theorem yg{o:dI}{a:Nat}(h:o.addr=some a):∃r,o.args=.t a::r∧((∃sz ag,o.op=.dH sz ag)∨∃sz,o.op=.et sz):=by
 unfold dI.addr at h;split at h
 ·rename_i sz ag b r h1 h2;cases h;exact⟨r,h2,.inl ⟨sz,ag,h1⟩⟩
 ·rename_i sz b r h1 h2;cases h;exact⟨r,h2,.inr ⟨sz,h1⟩⟩
 ·cases h
theorem ua{o:dI}{a:Nat}(h:o.addr=some a):a∈o.looks:=by
 obtain⟨r,h1,_⟩:=yg h;simp[dI.looks,h1]
theorem AN{o:dI}{a:Nat}(h:o.addr=some a):o.op.key=none:=by
 obtain⟨r,_,h|h⟩:=yg h
 ·obtain⟨_,_,h⟩:=h;rw[h];rfl
 ·obtain⟨_,h⟩:=h;rw[h];rfl
def Ip(b:Nat)(g:Sh->Sh):Prop:=g=id∨∃x,g=fun s=>s.set b x
theorem Ip.other{b a:Nat}{g:Sh->Sh}(h:Ip b g)(c:b≠a)(s:Sh):(g s)[a]?=s[a]?:=by
 rcases h with rfl|⟨x,rfl⟩
 ·rfl
 ·exact List.getElem?_set_ne c
theorem Ip.comm{b c:Nat}{g a:Sh->Sh}(h:Ip b g)(h':Ip c a)(d:b≠c)(s:Sh):g (a s)=a (g s):=by
 rcases h with rfl|⟨x,rfl⟩
 ·rfl
 ·rcases h' with rfl|⟨y,rfl⟩
  ·rfl
  ·exact(List.set_comm _ _ d.symm)
theorem rR{o:dI}{a:Nat}(h:o.addr=some a){E:Nat->Option AV}{M:Nat->Option (List AV)}{sh:Sh}{aa:aG}{r:Out}{b off:Nat}(k:E a=some (.aI b off))
   (hr:cU orc o E M sh aa=some r):r.cells=none∧r.aa=aa∧∃g,Ip b g∧r.sh=g sh∧∀sh',sh'[b]?=sh[b]?->cU orc o E M sh' aa=some {r with sh:=g sh'}:=by
 obtain⟨rest,h1,h2⟩:=yg h;unfold cU at hr⊢;split at hr
 ·simp at hr
 ·simp at hr;subst hr;exact⟨rfl,rfl,id,.inl rfl,rfl,fun sh' _=>rfl⟩
 ·rw[h1]at hr⊢;simp only[lx,Lr,k]at hr⊢;cases j:lx E rest with
  |none=>rw[j]at hr;simp at hr
  |some vs=>
   rw[j]at hr;simp only at hr⊢;rcases h2 with⟨sz,ag,h2⟩|⟨sz,h2⟩
   ·rw[h2]at hr⊢;obtain⟨p,x,hp,rfl,e⟩:=lS hr;refine⟨rfl,rfl,id,.inl rfl,rfl,fun sh' hs=>?_⟩;cases vs with
    |cons _ _=>simp at hp
    |nil=>
     simp at hp;rcases e with⟨cs,rfl,hx⟩|⟨l,d,cs,rfl,c,hm,hx⟩
     ·simp at hp
     ·simp at hp;obtain⟨rfl,rfl⟩:=hp;simp[exec,hs,c,hm,hx]
   ·rw[h2]at hr⊢;obtain⟨l,d,v,cs,hp,c,h0,i,f,h3,h4,rfl⟩:=jc hr;simp at hp;obtain⟨⟨rfl,rfl⟩,rfl⟩:=hp;refine⟨rfl,rfl,fun s=>s.set b (some (a0 cs off (cA v))),.inr ⟨_,rfl⟩,rfl,fun sh' hs=>?_⟩;simp only[exec,hs,c];rw[zak ⟨h0,i,f,h3,h4⟩]
def Pu(F:Nat->Option AV)(x y:dI):Prop:=indep x y=true ∨
 ((∀d,x.dst=some d->d∉y.looks∧y.dst≠some d)∧(∀d,y.dst=some d->d∉x.looks)∧∃a b,x.addr=some a∧y.addr=some b∧apart (F a) (F b)=true)
theorem wJ{x y:Option AV}(h:apart x y=true):∃b o a o',x=some (.aI b o)∧y=some (.aI a o')∧b≠a:=by
 unfold apart at h;split at h
 ·rename_i b o a o';exact⟨b,o,a,o',rfl,rfl,by simpa using h⟩
 ·cases h
theorem Ls{F:Nat->Option AV}{x y:dI}(h:Pu F x y){st m o:St}(hx:∀a,x.addr=some a->look st.env a=F a)(hy:∀a,y.addr=some a->look m.env a=F a)
   (h1:dT orc x st=some m) (h2:dT orc y m=some o):
   ∃c f,dT orc y st=some c∧dT orc x c=some f∧kW f o∧(∀a,y.addr=some a->look st.env a=F a)∧(∀a,x.addr=some a->look c.env a=F a):=by
 have i:(∀d,x.dst=some d->d∉y.looks∧y.dst≠some d)∧(∀d,y.dst=some d->d∉x.looks):=by
  rcases h with h|h
  ·exact⟨(qC h).1,(qC h).2.1⟩
  ·exact⟨h.1,h.2.1⟩
 have g:∀a,y.addr=some a->look st.env a=F a:=by
  intro a j;have h3:=hy a j;rw[dW,zac]at h1;obtain⟨r1,_,rfl⟩:=h1;rw[<-h3];simp only[eE];rw[zad];intro e;exact(i.1 a e).1 (ua j)
 have l:∀c,dT orc y st=some c->∀a,x.addr=some a->look c.env a=F a:=by
  intro c h3 a j;rw[dW,zac]at h3;obtain⟨r1,_,rfl⟩:=h3;rw[<-hx a j];simp only[eE];rw[zad];intro e;exact i.2 a e (ua j)
 rcases h with h|⟨u,C,a,b,j,D,E⟩
 ·obtain⟨c,f,g1,g2,R⟩:=Pt h h1 h2;exact⟨c,f,g1,g2,R,g,l c g1⟩
 ·obtain⟨V,N,U,M,T,S,n⟩:=wJ E;have H:look st.env a=some (.aI V N):=(hx a j).trans T;have G:look st.env b=some (.aI U M):=(g b D).trans S;have Q:=h1;rw[dW,zac]at h1 h2;obtain⟨r1,B,rfl⟩:=h1;obtain⟨r2,r,rfl⟩:=h2;obtain⟨c1,t1,I,tx,L,P⟩:=rR j H B;simp only at r
  have q:cU orc y (look st.env) (look st.mem) (I st.sh) st.aa=some r2:=by
   rw[<-r,L,t1];refine iv (fun t A=>?_) (fun k s=>?_)
   ·rw[eE,zad];intro e;exact(u t e).1 A
   ·rw[AN D]at s;cases s
  obtain⟨c2,J,v,ty,K,O⟩:=rR D G q;have w:=O st.sh (tx.other n st.sh).symm
  have p:dT orc y st=some {env:=gJ st.env y.dst r2.val,mem:=fY st.mem y.op.key r2.cells,sh:=v st.sh,aa:=r2.aa}:=by
   rw[dW,w];rfl
  have z:cU orc x (look (gJ st.env y.dst r2.val)) (look (fY st.mem y.op.key r2.cells)) (v st.sh) r2.aa=some {r1 with sh:=I (v st.sh)}:=by
   rw[<-P (v st.sh) (ty.other (zbK n) st.sh),J];refine iv (fun t A=>?_) (fun k s=>?_)
   ·rw[eE,zad];intro e;exact C t e A
   ·rw[AN j]at s;cases s
  refine⟨_,{env:=gJ (gJ st.env y.dst r2.val) x.dst r1.val,mem:=fY (fY st.mem y.op.key r2.cells) x.op.key r1.cells,sh:=I (v st.sh),aa:=r1.aa},p,?_,?_,g,l _ p⟩
  ·rw[dW,z];rfl
  ·refine⟨fun t=>?_,fun t=>?_,?_,?_⟩
   ·simp only[eE];by_cases hx:x.dst=some t
    ·rw[zak hx,zad (u t hx).2,zak hx]
    ·rw[zad hx,zad hx]
   ·simp only[c1,c2,gr]
   ·simp only[K];exact tx.comm ty n st.sh
   ·simp only[t1,J]
variable {ops:Array Oper} {as:List dI} {R:St->Prop} {F:Nat->Option AV}
def AO(orc:eZ)(ops:Array Oper)(as:List dI)(F:Nat->Option AV)(R:St->Prop):Nat->Array Bool->St->Prop
 |0,b,st=>Region.ready .any ops b=[]∧R st
 |fuel+1,b,st=>(Region.ready .any ops b=[]->R st)∧
   ∀i∈Region.ready .any ops b,∃d c,as[i]?=some d∧(∀a,d.addr=some a->look st.env a=F a)∧dT orc d st=some c∧AO orc ops as F R fuel (b.setIfInBounds i true) c
theorem wK(c:∀x y,kW x y->R x->R y):∀{fuel:Nat}{b:Array Bool}{x y:St},kW x y->AO orc ops as F R fuel b x->AO orc ops as F R fuel b y
 |0,_,_,_,hl,h=>⟨h.1,c _ _ hl h.2⟩
 |fuel+1,_,_,_,hl,h=>⟨fun h0=>c _ _ hl (h.1 h0),fun i hi=>by
  obtain⟨g,e,h1,h6,h2,h3⟩:=h.2 i hi;obtain⟨d,h4,h5⟩:=Io hl h2;exact⟨g,d,h1,fun a f=>(hl.env a).symm.trans (h6 a f),h4,wK c h5 h3⟩⟩
def Down(ops:Array Oper)(a:Array Bool):Prop:=∀k o,ops[k]?=some o->a.getD k false=true->∀e∈o.after,Region.binds .any e=true->a.getD e.on false=true
theorem Down.step{a:Array Bool}(h:Down ops a){i:Nat}(hi:i∈Region.ready .any ops a):Down ops (a.setIfInBounds i true):=by
 intro k o f g e j l;by_cases c:i=k
 ·subst c;obtain⟨_,o',b,d⟩:=zcx.1 hi;rw[f]at b;cases b;exact getD_set_true (d e j l)
 ·rw[getD_set_ne false c]at g;exact getD_set_true (h k o f g e j l)
theorem Dj(C:∀x y,kW x y->R x->R y){i:Nat}{p:dI}(t:as[i]?=some p){waits:Nat->Bool}
   (o:∀(b:Array Bool),Down ops b->∀j∈Region.ready .any ops b,waits j=true->b.getD i false=true):
   ∀(fuel:Nat)(b:Array Bool)(st g:St),Down ops b->
     (∀j u,as[j]?=some u->j≠i->b.getD j true=false->waits j=false->Pu F p u)->(∀a,p.addr=some a->look st.env a=F a)->
     i∈Region.ready .any ops b->dT orc p st=some g->AO orc ops as F R fuel (b.setIfInBounds i true) g->AO orc ops as F R (fuel+1) b st:=by
 intro fuel;induction fuel with
 |zero=>
  intro b st g f e c hi l H;refine⟨fun h=>(by rw[h]at hi;cases hi),fun j hj=>?_⟩;by_cases d:j=i
  ·subst d;exact⟨p,g,t,c,l,H⟩
  ·have:=ready_mono hj d;rw[H.1]at this;cases this
 |succ fuel A=>
  intro b st g f e c hi l H;refine⟨fun h=>(by rw[h]at hi;cases hi),fun j hj=>?_⟩;by_cases d:j=i
  ·subst d;exact⟨p,g,t,c,l,H⟩
  ·obtain⟨u,z,h1,h6,h2,h3⟩:=H.2 j (ready_mono hj d);obtain⟨r,_⟩:=zcx.1 hj
   have hw:waits j=false:=by
    cases hw:waits j with
    |false=>rfl
    |true=>
     have h1:=o b f j hj hw;have h0:=(zcx.1 hi).1;rcases zbv i b.size with h'|h'
     ·simp[h']at h0 h1;rw[h0]at h1;cases h1
     ·simp[zcw h']at h1
   obtain⟨m,q,g1,g2,D,g4,g5⟩:=Ls (e j u h1 d r hw) c h6 l h2;refine⟨u,m,h1,g4,g1,A (b.setIfInBounds j true) m q (f.step hj) ?_ g5 (ready_mono hi (zbK d)) g2 ?_⟩
   ·intro k E B w n v;refine e k E B w ?_ v;by_cases s:j=k
    ·subst s;exact r
    ·rw[getD_set_ne true s]at n;exact n
   ·rw[Array.setIfInBounds_comm _ _ d];exact wK C D.symm h3
theorem pI(acc:List Nat)(i:Nat):∀(l:List Edge)(s:Nat),
   (l.foldl (fun s e=>if Region.binds .any e then s ||| 2 ^ e.on ||| acc.getD e.on 0 else s) s).testBit i=true->
   s.testBit i=true∨∃e∈l,Region.binds .any e=true∧(e.on=i∨(acc.getD e.on 0).testBit i=true)
 |[],s,h=>.inl h
 |e::l,s,h=>by
  simp only[zaU]at h;rcases pI acc i l _ h with h1|⟨b,h2,h3⟩
  ·split at h1
   ·rename_i a;rw[Nat.testBit_or,Nat.testBit_or,zbh,zbh]at h1;rcases h1 with(h1|h1)|h1
    ·exact .inl h1
    ·refine .inr ⟨e,by simp,a,.inl ?_⟩;rw[Nat.testBit_two_pow]at h1;simpa using h1
    ·exact .inr ⟨e,by simp,a,.inr h1⟩
   ·exact .inl h1
  ·exact .inr ⟨b,by simp[h2],h3⟩
theorem uc:∀(l:List Oper)(acc:List Nat),(mL l acc).length=acc.length+l.length∧(∀j,j<acc.length->(mL l acc).getD j 0=acc.getD j 0)∧
   ∀k o,l[k]?=some o->∀i,((mL l acc).getD (acc.length+k) 0).testBit i=true->∃e∈o.after.toList,Region.binds .any e=true∧(e.on=i∨((mL l acc).getD e.on 0).testBit i=true)
 |[],acc=>⟨by simp[mL],fun j _=>rfl,fun k o h=>by simp at h⟩
 |o::l,acc=>by
  simp only[mL];obtain⟨h1,h2,h3⟩:=uc l (acc++[o.after.toList.foldl (fun s e=>if Region.binds .any e then s ||| 2 ^ e.on ||| acc.getD e.on 0 else s) 0]);refine⟨by rw[h1];simp;omega,fun j hj=>?_,fun k o' a i hi=>?_⟩
  ·rw[h2 j (by simp;omega)];simp[List.getD,zal hj]
  ·cases k with
   |zero=>
    simp at a;subst a;rw[zbN,h2 acc.length (by simp)]at hi
    have:(acc++[o.after.toList.foldl (fun s e=>if Region.binds .any e then s ||| 2 ^ e.on ||| acc.getD e.on 0 else s) 0]).getD acc.length 0 =
        o.after.toList.foldl (fun s e=>if Region.binds .any e then s ||| 2 ^ e.on ||| acc.getD e.on 0 else s) 0:=by
      simp[List.getD]
    rw[this]at hi;rcases pI acc i _ _ hi with h|⟨e,h4,h5,h6⟩
    ·simp at h
    ·refine⟨e,h4,h5,Pl h6 fun h=>?_⟩
     have b:e.on<acc.length:=by
      rcases zbv e.on acc.length with h'|h'
      ·exact h'
      ·simp[List.getD,zaV h']at h
     rw[h2 e.on (by simp;omega)];simpa[List.getD,zal b]using h
   |succ k=>
    have:=h3 k o' (by simpa using a) i (by simpa[zbp,Nat.add_comm 1 k]using hi);exact this
theorem ka:∀(l:List Oper)(i:Nat),iJ i l=true->∀k o,l[k]?=some o->∀e∈o.after,Region.binds .any e=true->e.on<i+k
 |[],_,_,k,o,h,_,_,_=>by simp at h
 |o::l,i,hd,k,o',a,e,b,c=>by
  simp only[iJ,zaf,zaq]at hd;cases k with
  |zero=>
   simp at a;subst a;have:=hd.1 e (by simpa using b);simpa[c]using this
  |succ k=>
   have:=ka l (i+1) hd.2 k o' (by simpa using a) e b c;omega
theorem yh{l:List Oper}(hl:ops.toList=l)(hd:iJ 0 l=true){a:Array Bool}(c:Down ops a)(i:Nat):∀(j:Nat)(o:Oper),ops[j]?=some o->
   (∀e∈o.after,Region.binds .any e=true->a.getD e.on false=true)->((mL l []).getD j 0).testBit i=true->a.getD i false=true:=by
 intro j;induction j using Nat.strongRecOn with
 |_ j q=>
  intro o p b h;have g:l[j]?=some o:=by rw[<-hl];simpa using p
  obtain⟨e,h1,h2,h3⟩:=(uc l []).2.2 j o g i (by simpa using h);have m:e∈o.after:=by simpa using h1
  rcases h3 with h3|h3
  ·rw[<-h3];exact b e m h2
  ·have r:=ka l 0 hd j o g e m h2;have f:e.on<j:=(by omega);have s:j<ops.size:=(zaE.1 p).1;have d:ops[e.on]?=some (ops[e.on]'(by omega)):=zbS (by omega);exact q e.on f _ d (fun t k n=>c e.on _ d (b e m h2) t k n) h3
theorem pJ{ds:List (Nat×Nat)}{a:List Nat}{i:Nat}{x:dI}:∀(l:List dI)(j:Nat),sU ds a i x j l=true->∀k y,l[k]?=some y->(a.getD (j+k) 0).testBit i=true∨(indep x y || zX ds x y)=true
 |[],_,_,k,y,h=>by simp at h
 |z::l,j,hp,k,y,hy=>by
  simp only[sU,zaf,zbh]at hp;cases k with
  |zero=>simp at hy;subst hy;simpa[or_assoc]using hp.1
  |succ k=>
   have:=pJ l (j+1) hp.2 k y (by simpa using hy)
   rwa [show j+1+k=j+(k+1) from by omega]at this
theorem oo{ds:List (Nat×Nat)}{a:List Nat}:∀(l:List dI)(i:Nat),mM ds a i l=true->∀k m x y,k<m->l[k]?=some x->l[m]?=some y->(a.getD (i+m) 0).testBit (i+k)=true∨(indep x y || zX ds x y)=true
 |[],_,_,k,m,x,y,_,h,_=>by simp at h
 |z::l,i,hp,k,m,x,y,b,hx,hy=>by
  simp only[mM,zaf]at hp;cases m with
  |zero=>omega
  |succ m=>
   cases k with
   |zero=>
    simp at hx;subst hx;have:=pJ l (i+1) hp.1 m y (by simpa using hy)
    rwa [show i+1+m=i+(m+1) from by omega]at this
   |succ k=>
    have:=oo l (i+1) hp.2 k m x y (by omega) (by simpa using hx) (by simpa using hy)
    rwa [show i+1+m=i+(m+1) from by omega,show i+1+k=i+(k+1) from by omega]at this
theorem sM{n:Nat}(hd:iJ 0 ops.toList=true){k:Nat}{o:Oper}{a:Array Bool}(hs:a.size=n)(hl:∀j,j<n->a[j]?=some (decide (j<k)))(hn:ops.size=n)(b:ops[k]?=some o):
   k∈Region.ready .any ops a:=by
 have f:k<ops.size:=(zaE.1 b).1;rw[zcx];refine⟨by simp[hl k (by omega)],o,b,fun e c d=>?_⟩;have:=ka _ 0 hd k o (by simpa using b) e c d;simp[hl e.on (by omega)];omega
theorem Iq{ds:List (Nat×Nat)}{x y:dI}(h:zX ds x y=true):
   (∀d,x.dst=some d->d∉y.looks∧y.dst≠some d)∧(∀d,y.dst=some d->d∉x.looks)∧∃a b,x.addr=some a∧y.addr=some b∧(a,b)∈ds:=by
 simp only[zX,zaf]at h;obtain⟨⟨h1,h2⟩,h3⟩:=h;refine⟨fun d hd=>?_,fun d hd=>?_,?_⟩
 ·rw[hd]at h1;simp at h1;exact h1
 ·rw[hd]at h2;simpa using h2
 ·split at h3
  ·rename_i a b e c;exact⟨a,b,e,c,by simpa using h3⟩
  ·cases h3
theorem ud{env:List (Nat×AV)}:∀{ds:List (Nat×Nat)},jl env ds=true->∀a b,(a,b)∈ds->apart (look env a) (look env b)=true
 |[],_,a,b,h=>by simp at h
 |(d,c)::r,h,a,b,hm=>by
  simp only[jl,zaf]at h;simp only[zah,zav]at hm;rcases hm with⟨rfl,rfl⟩|hm
  ·exact h.1
  ·exact ud h.2 a b hm
theorem ue{t:Nat}:∀{l:List dI}{st a:St},l.all (fun o=>o.dst != some t)=true->br orc l st=some a->look a.env t=look st.env t
 |[],st,a,_,h=>by simp[br]at h;subst h;rfl
 |o::l,st,a,hl,h=>by
  simp only[zaS,zaf,bne_iff_ne,ne_eq]at hl;simp only[br]at h;split at h
  ·simp at h
  ·rename_i b h1;rw[ue (by simpa using hl.2) h];rw[dW,zac]at h1;obtain⟨r1,_,rfl⟩:=h1;simp only[eE];rw[zad hl.1]
theorem AQ{ds:List (Nat×Nat)}(I:∀x y,kW x y->R x->R y)(hd:iJ 0 ops.toList=true)(hp:mM ds (mL ops.toList []) 0 as=true)(p:as.length=ops.size)
   (J:∀a b,(a,b)∈ds->apart (F a) (F b)=true):
   ∀(l:List dI)(k:Nat)(c:Array Bool)(st f:St),(∀j,l[j]?=as[k+j]?)->l.length+k=ops.size->c.size=ops.size->(∀j,j<ops.size->c[j]?=some (decide (j<k)))->Down ops c->
     xK l=true->(∀a,F a=look f.env a)->br orc l st=some f->R f->AO orc ops as F R l.length c st
 |[],k,c,st,f,_,E,hs,hl,_,_,_,d,hr=>by
  simp[br]at d;subst d;refine⟨?_,hr⟩;rw[List.eq_nil_iff_forall_not_mem];intro i hi;obtain⟨h1,o,D,_⟩:=zcx.1 hi;have H:i<ops.size:=(zaE.1 D).1;simp at E;simp[hl i H]at h1;omega
 |x::l,k,c,st,f,u,E,hs,hl,g,q,A,d,hr=>by
  have w:=d;simp only[xK,zaf]at q;simp only[br]at d;split at d
  ·simp at d
  ·rename_i r t;simp only[zax]at E⊢;have hx:as[k]?=some x:=by simpa using(u 0).symm
   have v:k<ops.size:=(by omega);have D:ops[k]?=some ops[k]:=zbS v;have e:=sM hd hs hl rfl D;refine Dj I hx (waits:=fun j=>((mL ops.toList []).getD j 0).testBit k) ?_ l.length c st r g ?_ (fun a L=>?_) e t ?_
   ·intro s n j hj hw;obtain⟨_,o,C,z⟩:=zcx.1 hj;exact yh rfl hd n k j o C z hw
   ·intro j N hj K B hw;have G:j<ops.size:=by rw[<-p];exact(zaa.1 hj).1
    have m:k<j:=by
     simp[hl j G]at B;omega
    have:=oo as 0 hp k j x N m hx hj;simp only[zbB]at this;rcases this with h|h
    ·rw[h]at hw;simp at hw
    ·rcases zbh _ _ |>.mp h with h|h
     ·exact .inl h
     ·obtain⟨f1,f2,a,b,f3,M,f5⟩:=Iq h;exact .inr ⟨f1,f2,a,b,f3,M,J a b f5⟩
   ·have h1:=q.1;rw[L]at h1;rw[A a];exact(ue h1 w).symm
   ·refine AQ I hd hp p J l (k+1) (c.setIfInBounds k true) r f (fun j=>?_) (by omega) (by simp[hs]) (fun j hj=>?_) (g.step e) q.2 A d hr
    ·have:=u (j+1);rw[show k+(j+1)=k+1+j from by omega]at this;simpa using this
    ·by_cases m:k=j
     ·subst m;simp[hs,v]
     ·rw[zay m,hl j hj];congr 1;simp;omega
end
section
variable {n0:Nat} {P:Program} {ns:Names}
theorem ik.Tu{n0 N:Nat}{G:Gh}{x y:St}{a:Act}{w:World}(h:ik (num ns) n0 N G x a w)(hl:kW x y):ik (num ns) n0 N G y a w:=by
 refine⟨⟨h.env.size,fun t v c=>h.env.env t v (by rw[hl.env];exact c)⟩,?_,h.marks⟩;have hi:=h.inv;rw[hl.sh,hl.aa]at hi
 exact { hi with
  cV:=fun d cells hd=>hi.cV d cells (by rw[hl.mem];exact hd)
  i7:=fun d b hd=>by rw[<-hl.mem];exact hi.i7 d b hd}
theorem ik.drew{n0 N:Nat}{G:Gh}{x:St}{a:Act}{w:World}(h:ik (num ns) n0 N G x a w):ik (num ns) n0 N G x a w.drew:=⟨h.env,h.inv.drew,h.marks.zL (bL.drew G w) rfl⟩
end
end Go.Ab
namespace Go.Ab
section
variable {n0:Nat} {P:Program} {ns:Names} {ro:Option Nat} {n:Nat}
def sX(ro:Option Nat):Fence:={Fence.wide with round:=ro}
theorem Ir{f:FuncId}{args:Array Value}{w:World}{R:Ending->World->Prop}(h:Calls P f args w R):CallsIn (sX ro) n P f args w R:=by
 have h0:=callsIn_wide (n:=n).2 h;cases ro with
 |none=>exact h0
 |some l=>exact h0.inRound l
theorem Lt{a:String}{args:Array Value}{w:World}{R:Value->World->Prop}(h:Rows P a args w R):RowsIn (sX ro) n P a args w R:=by
 intro c cs _;obtain⟨v,w',r,s⟩:=h c cs;have h0:=stepsIn_wide.2 s;exact⟨v,w',r,h0⟩
theorem GA{o:Oper}(hd:∀c,o.op≠.defer c){a:Act}{w:World}{next:Act->World->Prop}{Q:Exit->Act->World->Prop}
   (h:o.wp P a w next (fun _ _ _=>False)):o.wpIn (sX ro) n P a w next Q:=by
 refine⟨fun _ _=>trivial,?_⟩;rw[zca _ _ _ hd];unfold Oper.wp at h;generalize (execOp a.eval o).run P w=r at h⊢;cases r with
 |ok x w'=>
  cases x<;>simp only[Oper.upon,Oper.uponIn]at h⊢<;>try exact h
  ·refine⟨fun e=>by simp[sX,Fence.wide]at e,Ir (h.mono ?_)⟩;intro e d b;cases e with
   |returned v=>exact b
   |panicked c=>exact b.elim
   |outgrown=>obtain⟨_,_,hf⟩:=b;exact hf.elim
  ·exact⟨fun e=>by simp[sX,Fence.wide]at e,Lt h⟩
 |halt x w'=>cases x<;>simp only[Oper.upon,Oper.uponIn]at h⊢<;>exact h.elim
theorem yi{A:mA}{N:Nat}{ops:Array Oper}{o:Oper}{b:dI}(a:gK P ns A N ops o=some b):∀c,o.op≠.defer c:=by
 intro c e;obtain⟨args,h1,_⟩:=l7 a;rw[e]at h1;simp[bS]at h1
theorem yl{G:Gh}{w:World}(h:iM P ns){orc:eZ}(c:kJ P ns orc){A:mA}{N:Nat}{ops:Array Oper}{o:Oper}{g:dI}(e:gK P ns A N ops o=some g)
   {st b:St} {a:Act} (hs:ik (num ns) n0 N G st a w) (d:dT orc g st=some b) {next:Act->World->Prop} {Q:Exit->Act->World->Prop}
   (hn:∀G' v w',ik (num ns) n0 N G' b (a.put o.dst v) w'->bL G w G' w'->next (a.put o.dst v) w'):
   if Region.wanted o (yielded ops a.tmps)then o.wpIn (sX ro) n P a w next Q else(∀f,o.about P w a.eval=some f->(sX ro).fn f)∧next (a.put o.dst undef) w:=by
 rcases Di (Q:=fun _ _ _=>False) h c e hs d hn with⟨h1,h2⟩|⟨h1,h2⟩
 ·rw[zak h1];exact GA (yi e) h2
 ·rw[h1,zad (by simp)];exact⟨fun _ _=>trivial,h2⟩
theorem AR(r:iM P ns){orc:eZ}(d:kJ P ns orc){A:mA}{N:Nat}{ops:Array Oper}{Q:Exit->Act->World->Prop}:∀{l:List Oper}{as:List dI}{st c:St}{G:Gh}{a:Act}{w:World},
   dm (gK P ns A N ops) l=some as->ik (num ns) n0 N G st a w->br orc as st=some c->
   (∀G' p w',ik (num ns) n0 N G' c p w'->bL G w G' w'->Q .normal p w')->wpListIn (sX ro) n P ops Q l a w
 |[],as,st,c,G,a,w,e,hs,b,j=>by
  simp[dm]at e;subst e;simp[br]at b;subst b;exact j G a w hs (bL.refl G w)
 |o::l,as,st,c,G,a,w,e,hs,b,j=>by
  simp only[dm]at e;split at e
  ·rename_i v u h1 h2;simp at e;subst e;simp only[br]at b;split at b
   ·simp at b
   ·rename_i s f;unfold wpListIn;exact yl r d h1 hs f (fun G' p w' i t=>AR r d h2 i b (fun q m h g k=>j q m h g (t.trans k)))
  ·simp at e
theorem GB(u:iM P ns){orc:eZ}(c:kJ P ns orc){A:mA}{N:Nat}{ops:Array Oper}{as:List dI}(t:dm (gK P ns A N ops) ops.toList=some as){F:Nat->Option AV}{R:St->Prop}{Q:Exit->Act->World->Prop}:
   ∀{fuel:Nat}{b:Array Bool}{st:St}{G:Gh}{a:Act}{w:World},ik (num ns) n0 N G st a w->AO orc ops as F R fuel b st->
     (∀d G' q w',R d->ik (num ns) n0 N G' d q w'->bL G w G' w'->Q .normal q w')->wpAnyIn (sX ro) n P .any ops Q fuel b a w
 |0,_,st,G,a,w,hs,h,g=>⟨h.1,g st G a w h.2 hs (bL.refl G w)⟩
 |fuel+1,b,st,G,a,w,hs,h,g=>by
  refine⟨fun h0=>g st G a w (h.1 h0) hs (bL.refl G w),fun i hi=>?_⟩;obtain⟨z,d,h1,_,h2,h3⟩:=h.2 i hi;obtain⟨_,o,s,_⟩:=zcx.1 hi
  have m:gK P ns A N ops o=some z:=by
   obtain⟨y,g1,g2⟩:=Aa t (i:=i) (x:=o) (by simpa using s);rw[h1]at g1;cases g1;exact g2
  unfold wpOpIn;simp only[s];exact yl u c m hs h2 (fun G' q w' k v=>GB u c t k h3 (fun e r p j hr f l=>g e r p j hr f (v.trans l)))
theorem wL(hm:P.follows .mixedOrders=true)(u:iM P ns){orc:eZ}(g:kJ P ns orc){A:mA}{N id:Nat}{ops:Array Oper}{e:Bool}{as:List dI}
   (r:dm (gK P ns A N ops) ops.toList=some as) {ds:List (Nat×Nat)} (hd:e=true->xL ds ops.toList as=true) {st c:St} {G:Gh} {a:Act} {w:World} (hs:ik (num ns) n0 N G st a w) (i:br orc as st=some c) (h:jl c.env ds=true)
   {Q:Exit->Act->World->Prop} (t:∀G' m w',ik (num ns) n0 N G' c m w'->bL G w G' w'->Q .normal m w'):(Code.region id ops e).wpIn (sX ro) n P Q a w:=by
 cases e with
 |false=>exact zbf (AR u g r hs i t)
 |true=>
  have f:=hd rfl;simp only[xL,zaf]at f;have d:as.length=ops.size:=by have:=ja r;simpa using this
  refine wpIn_region_any hm ?_
  have l:AO orc ops as (look c.env) (fun s=>kW s c) ops.size (Array.replicate ops.size false) st:=by
   have:=AQ (orc:=orc) (ops:=ops) (as:=as) (F:=look c.env) (R:=fun s=>kW s c) (fun x y hl hr=>hl.symm.trans hr) f.1 f.2.1 d (fun a b=>ud h a b) as 0 (Array.replicate ops.size false) st c (fun j=>by simp) (by simp[d]) (by simp)
     (fun j hj=>by simp[hj]) (fun k o v z=>by
      exfalso;have q:k<ops.size:=(zaE.1 v).1;simp[q]at z) f.2.2 (fun _=>rfl) i (kW.refl _)
   rwa [d]at this
  exact GB u g r hs.drew l fun s G' m w' hl p B=>t G' m w' (p.Tu hl) ((bL.drew G w).trans B)
end
end Go.Ab
namespace Go.Ab
def AS{α:Type}(f:Nat->Option α):Prop:=∀k k' r,k<=k'->f k=some r->f k'=some r
open Classical in
noncomputable def Is{α:Type}(f:Nat->Option α):Option α:=if h:∃r k,f k=some r then some h.choose else none
theorem uf{α:Type}{f:Nat->Option α}(hf:AS f){k:Nat}{r:α}(h:f k=some r):Is f=some r:=by
 have a:∃r k,f k=some r:=⟨r,k,h⟩;unfold Is;rw[dif_pos a];obtain⟨k',h'⟩:=a.choose_spec;have h1:=hf _ (max k k') _ (zbb _ _) h';have h2:=hf _ (max k k') _ (zbd _ _) h;rw[h1]at h2;exact h2
theorem gf{α:Type}{f:Nat->Option α}{r:α}(h:Is f=some r):∃k,f k=some r:=by
 unfold Is at h;split at h
 ·rename_i a;obtain⟨k,b⟩:=a.choose_spec;cases h;exact⟨k,b⟩
 ·simp at h
theorem ug{α:Type}{f:Nat->Option α}(h:∀k,f k=none):Is f=none:=by
 cases hl:Is f with
 |none=>rfl
 |some r=>obtain⟨k,a⟩:=gf hl;rw[h k]at a;simp at a
theorem l8{α:Type}{f:Nat->Option α}(hf:AS f){o:Option α}(h1:∀k r,f k=some r->o=some r)(h2:∀r,o=some r->∃k,f k=some r):Is f=o:=by
 cases a:o with
 |none=>exact ug fun k=>by cases b:f k with|none=>rfl|some r=>rw[h1 k r b]at a;simp at a
 |some r=>obtain⟨k,b⟩:=h2 r a;exact uf hf b
structure eZ.le(a b:eZ):Prop where
 p:∀g x r,a.p g x=some r->b.p g x=some r
 i:∀g x s t r,a.i g x s t=some r->b.i g x s t=some r
theorem eZ.le_refl(a:eZ):a.le a:=⟨fun _ _ _ h=>h,fun _ _ _ _ _ h=>h⟩
theorem kX{a b:eZ}(h:a.le b){g:Nat}{own:List Nat}{vals:List AV}{sh:Sh}{aa:aG}{r:AV×Sh×aG}(e:dZ a g own vals sh aa=some r):dZ b g own vals sh aa=some r:=by
 unfold dZ at*;split at e
 ·rename_i hp;rw[zak hp];simp only[zac]at e⊢;obtain⟨x,h1,h2⟩:=e;exact⟨x,h.i _ _ _ _ _ h1,h2⟩
 ·simp at e
theorem Iu{a b:eZ}(h:a.le b){op:AK}{vals:List AV}{cells:Option (List AV)}{sh:Sh}{aa:aG}{r:Out}(e:exec a op vals cells sh aa=some r):exec b op vals cells sh aa=some r:=by
 cases op with
 |aH g=>
  simp only[exec]at e⊢;split at e
  ·simp only[zac]at e⊢;obtain⟨x,h1,h2⟩:=e;exact⟨x,h.p _ _ _ h1,h2⟩
  ·simp at e
 |dd g=>
  simp only[exec]at e⊢;split at e
  ·simp only[zac]at e⊢;obtain⟨x,h1,h2⟩:=e;exact⟨x,h.p _ _ _ h1,h2⟩
  ·simp at e
 |aY g own=>
  simp only[exec,zac]at e⊢;obtain⟨x,h1,h2⟩:=e;exact⟨x,kX h h1,h2⟩
 |fU=>
  cases vals with
  |nil=>simp[exec]at e
  |cons f vals=>
   cases f with
   |fn g cap=>
    simp only[exec,zaz]at e⊢;obtain⟨x,h1,h2⟩:=e;exact⟨x,kX h h1,h2⟩
   |_=>simp[exec]at e
 |gD=>
  cases vals with
  |nil=>simp[exec]at e
  |cons f vals=>
   cases f with
   |fn g cap=>
    simp only[exec,zac]at e⊢;obtain⟨x,h1,h2⟩:=e;exact⟨x,kX h h1,h2⟩
   |_=>simp[exec]at e
 |_=>first|(rw[<-e];unfold exec;split<;>first|rfl|(rename_i c;cases c;done)|(simp at*;done);done)|(simp[exec]at h;done)|(simp[exec]at e;done)|(simp[exec];done)
theorem wM{a b:eZ}(h:a.le b){o:dI}{st r:St}(e:dT a o st=some r):dT b o st=some r:=by
 unfold dT at*;cases hw:gq st.env o.guard with
 |none=>rw[hw]at e;simp at e
 |some t=>
  cases t with
  |false=>rw[hw]at e;exact e
  |true=>
   rw[hw]at e;dsimp only at e⊢;cases d:d_ st.env o.args with
   |none=>rw[d]at e;simp at e
   |some vals=>
    rw[d]at e;dsimp only at e⊢;cases c:exec a o.op vals (o.op.key.bind (look st.mem)) st.sh st.aa with
    |none=>rw[c]at e;simp at e
    |some out=>
     rw[c]at e;rw[Iu h c];exact e
theorem oP{a b:eZ}(h:a.le b):∀{l:List dI}{st r:St},br a l st=some r->br b l st=some r
 |[],_,_,e=>e
 |o::l,st,r,e=>by
  simp only[br]at e⊢;split at e
  ·simp at e
  ·rename_i c d;rw[wM h d];exact oP h e
theorem kb{f b:St->Option (aR×St)}{a:St->St}(h:∀s r,f s=some r->b s=some r):∀{n n':Nat}{st:St}{r:aR×St},n<=n'->f_ f a n st=some r->f_ b a n' st=some r
 |0,_,_,_,_,e=>by simp[f_]at e
 |n+1,0,_,_,hn,_=>by omega
 |n+1,n'+1,st,r,hn,e=>by
  simp only[f_]at e⊢;cases hf:f (a st)with
  |none=>rw[hf]at e;simp at e
  |some q=>
   rw[h _ _ hf];rw[hf]at e;obtain⟨x,s⟩:=q;cases x with
   |normal=>exact kb h (by omega) e
   |ret=>exact e
   |exit id=>exact e
theorem oQ{f b:St->Option (aR×St)}(h:∀s r,f s=some r->b s=some r){live:List Nat}{pi px sz:Nat}{ag:Bool}{env:List (Nat×AV)}:∀{l:List (PV×Nat)}{st:St}{r:aR×St},
   hU f live pi px sz ag env l st=some r->hU b live pi px sz ag env l st=some r
 |[],_,_,e=>e
 |(el,i)::l,st,r,e=>by
  simp only[hU]at e⊢;cases a:sK sz ag el with
  |none=>rw[a]at e;simp at e
  |some v=>
   rw[a]at e;simp only at e⊢;cases hf:f (norm (restrict live {st with env:=cN (cN env pi (.pv (.int .i64 i))) px v}))with
   |none=>rw[hf]at e;simp at e
   |some q=>
    rw[h _ _ hf];rw[hf]at e;obtain⟨x,s⟩:=q;cases x with
    |normal=>exact oQ h e
    |ret=>exact e
    |exit id=>exact e
theorem oq{f a:St->Option (aR×St)}(h:∀s r,f s=some r->a s=some r){v:Option AV}{gb pi px sz:Nat}{ag:Bool}{live:List Nat}{st:St}{r:aR×St}
   (e:e8 f v gb pi px sz ag live st=some r):e8 a v gb pi px sz ag live st=some r:=by
 unfold e8 at e⊢;split at e
 ·split at e
  ·rename_i b;rw[zak b];split at e
   ·split at e
    ·rename_i hl;rw[zak hl];exact oQ h e
    ·simp at e
   ·simp at e
  ·simp at e
 ·simp at e
theorem jE{f g b a:St->Option (aR×St)}(h:∀s r,f s=some r->b s=some r)(k:∀s r,g s=some r->a s=some r):∀s r,andThen f g s=some r->andThen b a s=some r:=by
 intro s r e;unfold andThen at e⊢;cases hf:f s with
 |none=>rw[hf]at e;simp at e
 |some q=>
  rw[h _ _ hf];rw[hf]at e;obtain⟨x,t⟩:=q;cases x with
  |normal=>exact k _ _ e
  |ret=>simp at e
  |exit id=>simp at e
theorem bN{a b:eZ}(h:a.le b){k k':Nat}(d:k<=k'):∀{c:ae}{st:St}{r:aR×St},cE a k c st=some r->cE b k' c st=some r
 | .skip,_,_,e=>e
 | .ej _,_,_,e=>e
 | .Rw _,_,_,e=>e
 | .Le _,_,_,e=>e
 | .nq _,_,_,e=>e
 | .Tf _,_,_,e=>e
 | .jt ops live,st,r,e=>by
  simp only[cE]at e⊢;split at e
  ·rename_i g i;rw[oP h i];exact e
  ·simp at e
 | .seq x y,st,r,e=>by
  simp only[cE]at e⊢;cases hx:cE a k x st with
  |none=>rw[hx]at e;simp at e
  |some q=>
   rw[bN h d hx];rw[hx]at e;obtain⟨j,s⟩:=q;cases j with
   |normal=>exact bN h d e
   |ret=>exact e
   |exit id=>exact e
 | .cond c x y,st,r,e=>by
  simp only[cE]at e⊢;split at e
  ·rename_i t l;split at e
   ·rename_i f;rw[zak f];exact bN h d e
   ·rename_i f;rw[zad f];exact bN h d e
  ·simp at e
 | .block id x,st,r,e=>by
  simp only[cE]at e⊢;cases hx:cE a k x st with
  |none=>rw[hx]at e;simp at e
  |some q=>
   rw[bN h d hx];rw[hx]at e;exact e
 | .loop live x,st,r,e=>by
  simp only[cE]at e⊢;exact kb (fun s r hs=>bN h d hs) d e
 | .exit id,_,_,e=>e
 | .ret,_,_,e=>e
 | .back c gb pi px sz ag live x y,st,r,e=>by
  simp only[cE]at e⊢;exact oq (jE (fun s r hs=>bN h d hs) (fun s r hs=>bN h d hs)) e
theorem fo{a b:eZ}(h:a.le b){k k':Nat}(d:k<=k'){aW:Bool}{af:aw}{args:List AV}{sh:Sh}{ts:aG}{r:List AV×Sh×aG}(e:cj a k aW af args sh ts=some r):cj b k' aW af args sh ts=some r:=by
 unfold cj at*;cases c:cE a k af.body {env:=bK 0 args,mem:=[],sh,aa:=ts}with
 |none=>rw[c]at e;simp at e
 |some q=>rw[bN h d c];rw[c]at e;exact e
variable {AP:Nat->Option aw}
theorem cK:∀{n n' k k':Nat},n<=n'->k<=k'->(run AP k n).le (run AP k' n')
 |0,_,_,_,_,_=>⟨fun g x r e=>by simp[run]at e,fun g x s t r e=>by simp[run]at e⟩
 |n+1,0,_,_,h,_=>by omega
 |n+1,n'+1,k,k',h,c=>by
  have b:(run AP k n).le (run AP k' n'):=cK (by omega) c;refine⟨fun g x r e=>?_,fun g x s t r e=>?_⟩
  ·simp only[run]at e⊢;cases a:AP g with
   |none=>rw[a]at e;simp at e
   |some af=>
    rw[a]at e;dsimp only at e⊢;cases hp:af.qp with
    |some f=>rw[hp]at e;exact f.mono b.p e
    |none=>
     rw[hp]at e;dsimp only at e⊢;split at e
     ·rename_i d;rw[zak d];cases i:cj (run AP k n) k false af (x.map .pv) [] []with
      |none=>rw[i]at e;simp at e
      |some q=>rw[fo b c i];rw[i]at e;exact e
     ·simp at e
  ·simp only[run]at e⊢;cases a:AP g with
   |none=>rw[a]at e;simp at e
   |some af=>
    rw[a]at e;dsimp only at e⊢;split at e
    ·rename_i d;rw[zak d];exact fo b c e
    ·simp at e
noncomputable def aC(AP:Nat->Option aw):eZ where
 p:=fun g x=>Is fun n=>(run AP n n).p g x
 i:=fun g x s t=>Is fun n=>(run AP n n).i g x s t
theorem sY(g:Nat)(x:List PV):AS fun n=>(run AP n n).p g x:=fun _ _ _ h e=>(cK h h).p _ _ _ e
theorem GC(g:Nat)(x:List AV)(s:Sh)(t:aG):AS fun n=>(run AP n n).i g x s t:=fun _ _ _ h e=>(cK h h).i _ _ _ _ _ e
theorem Lu(n:Nat):(run AP n n).le (aC AP):=⟨fun g x _ e=>uf (sY g x) e,fun g x s t _ e=>uf (GC g x s t) e⟩
theorem sZ{g:Nat}{x:List PV}{r:List PV}(h:(aC AP).p g x=some r):∃n,(run AP n n).p g x=some r:=gf h
theorem Pv{g:Nat}{x:List AV}{s:Sh}{t:aG}{r:List AV×Sh×aG}(h:(aC AP).i g x s t=some r):∃n,(run AP n n).i g x s t=some r:=gf h
theorem oR{g:Nat}{own:List Nat}{vals:List AV}{sh:Sh}{aa:aG}{r:AV×Sh×aG}(e:dZ (aC AP) g own vals sh aa=some r):∃n,dZ (run AP n n) g own vals sh aa=some r:=by
 unfold dZ at*;split at e
 ·rename_i hp;simp only[zac]at e;obtain⟨x,h1,h2⟩:=e;obtain⟨n,hn⟩:=Pv h1;exact⟨n,by rw[zak hp,hn];simp only[zaY,h2]⟩
 ·simp at e
theorem Dk{op:AK}{vals:List AV}{cells:Option (List AV)}{sh:Sh}{aa:aG}{r:Out}(e:exec (aC AP) op vals cells sh aa=some r):∃n,exec (run AP n n) op vals cells sh aa=some r:=by
 cases op with
 |aH g=>
  simp only[exec]at e⊢;split at e
  ·rename_i dV hp;simp only[zac]at e;obtain⟨x,h1,h2⟩:=e;obtain⟨n,hn⟩:=sZ h1;exact⟨n,by rw[hn];simp only[zaY,h2]⟩
  ·simp at e
 |dd g=>
  simp only[exec]at e⊢;split at e
  ·rename_i dV hp;simp only[zac]at e;obtain⟨x,h1,h2⟩:=e;obtain⟨n,hn⟩:=sZ h1;exact⟨n,by rw[hn];simp only[zaY,h2]⟩
  ·simp at e
 |aY g own=>
  simp only[exec,zac]at e⊢;obtain⟨x,h1,h2⟩:=e;obtain⟨n,hn⟩:=oR h1;exact⟨n,x,hn,h2⟩
 |fU=>
  cases vals with
  |nil=>simp[exec]at e
  |cons f vals=>
   cases f with
   |fn g cap=>
    simp only[exec,zaz]at e⊢;obtain⟨x,h1,h2⟩:=e;obtain⟨n,hn⟩:=oR h1;exact⟨n,x,hn,h2⟩
   |_=>simp[exec]at e
 |gD=>
  cases vals with
  |nil=>simp[exec]at e
  |cons f vals=>
   cases f with
   |fn g cap=>
    simp only[exec,zac]at e⊢;obtain⟨x,h1,h2⟩:=e;obtain⟨n,hn⟩:=oR h1;exact⟨n,x,hn,h2⟩
   |_=>simp[exec]at e
 |_=>first|(exact⟨0,by rw[<-e];unfold exec;split<;>first|rfl|(rename_i a;cases a;done)|(simp at*;done)⟩;done)|(simp[exec]at h;done)|(simp[exec]at e;done)|(simp[exec];done)
theorem Lv{o:dI}{st r:St}(e:dT (aC AP) o st=some r):∃n,dT (run AP n n) o st=some r:=by
 unfold dT at*;cases hw:gq st.env o.guard with
 |none=>rw[hw]at e;simp at e
 |some t=>
  cases t with
  |false=>rw[hw]at e;exact⟨0,e⟩
  |true=>
   rw[hw]at e;dsimp only at e⊢;cases b:d_ st.env o.args with
   |none=>rw[b]at e;simp at e
   |some vals=>
    rw[b]at e;dsimp only at e⊢;cases a:exec (aC AP) o.op vals (o.op.key.bind (look st.mem)) st.sh st.aa with
    |none=>rw[a]at e;simp at e
    |some out=>
     obtain⟨n,hn⟩:=Dk a;rw[a]at e;exact⟨n,by rw[hn];exact e⟩
theorem wO:∀{l:List dI}{st r:St},br (aC AP) l st=some r->∃n,br (run AP n n) l st=some r
 |[],_,_,e=>⟨0,e⟩
 |o::l,st,r,e=>by
  simp only[br]at e⊢;cases a:dT (aC AP) o st with
  |none=>rw[a]at e;simp at e
  |some s=>
   rw[a]at e;obtain⟨n,hn⟩:=Lv a;obtain⟨m,hm⟩:=wO (l:=l) e;refine⟨max n m,?_⟩;rw[wM (cK (zbd n m) (zbd n m)) hn];exact oP (cK (zbb n m) (zbb n m)) hm
theorem uh{k:Nat}{c:ae}{a:St->St}(b:∀{st:St}{r:aR×St},cE (aC AP) k c st=some r->∃n,cE (run AP n n) n c st=some r):
   ∀{j:Nat}{st:St}{r:aR×St},f_ (cE (aC AP) k c) a j st=some r->∃n,f_ (cE (run AP n n) n c) a n st=some r
 |0,_,_,e=>by simp[f_]at e
 |j+1,st,r,e=>by
  simp only[f_]at e;cases hf:cE (aC AP) k c (a st)with
  |none=>rw[hf]at e;simp at e
  |some q=>
   obtain⟨n,hn⟩:=b hf;rw[hf]at e;obtain⟨x,s⟩:=q;cases x with
   |normal=>
    obtain⟨m,hm⟩:=uh b e;refine⟨max n m+1,?_⟩;simp only[f_];rw[bN (cK (n:=n) (n':=max n m+1) (by omega) (by omega)) (k:=n) (k':=max n m+1) (by omega) hn];exact kb (fun s r hs=>bN (cK (n:=m) (by omega) (by omega)) (k:=m) (by omega) hs) (n:=m) (by omega) hm
   |ret=>
    refine⟨n+1,?_⟩;simp only[f_];rw[bN (cK (n:=n) (n':=n+1) (by omega) (by omega)) (k:=n) (k':=n+1) (by omega) hn];exact e
   |exit id=>
    refine⟨n+1,?_⟩;simp only[f_];rw[bN (cK (n:=n) (n':=n+1) (by omega) (by omega)) (k:=n) (k':=n+1) (by omega) hn];exact e
theorem qD{n m:Nat}(h:n<=m){c:ae}{st:St}{r:aR×St}(e:cE (run AP n n) n c st=some r):cE (run AP m m) m c st=some r:=bN (cK h h) h e
theorem wc{k:Nat}{x y:ae}(b:∀{st:St}{r:aR×St},cE (aC AP) k x st=some r->∃n,cE (run AP n n) n x st=some r)(a:∀{st:St}{r:aR×St},cE (aC AP) k y st=some r->∃n,cE (run AP n n) n y st=some r)
   {st:St} {r:aR×St} (e:andThen (cE (aC AP) k x) (cE (aC AP) k y) st=some r):∃n,andThen (cE (run AP n n) n x) (cE (run AP n n) n y) st=some r:=by
 unfold andThen at e⊢;cases hx:cE (aC AP) k x st with
 |none=>rw[hx]at e;simp at e
 |some q=>
  obtain⟨n,hn⟩:=b hx;rw[hx]at e;obtain⟨c,s⟩:=q;cases c with
  |normal=>
   obtain⟨m,hm⟩:=a e;exact⟨max n m,by rw[qD (zbd n m) hn];exact qD (zbb n m) hm⟩
  |ret=>simp at e
  |exit id=>simp at e
theorem oS{F:St->Option (aR×St)}{f:Nat->St->Option (aR×St)}(hm:∀{n m:Nat},n<=m->∀s r,f n s=some r->f m s=some r)(b:∀{st:St}{r:aR×St},F st=some r->∃n,f n st=some r)
   {live:List Nat} {pi px sz:Nat} {ag:Bool} {env:List (Nat×AV)}:∀{l:List (PV×Nat)}{st:St}{r:aR×St},hU F live pi px sz ag env l st=some r->∃n,hU (f n) live pi px sz ag env l st=some r
 |[],_,_,e=>⟨0,e⟩
 |(el,i)::l,st,r,e=>by
  simp only[hU]at e⊢;cases c:sK sz ag el with
  |none=>rw[c]at e;simp at e
  |some v=>
   rw[c]at e;simp only at e⊢;cases hf:F (norm (restrict live {st with env:=cN (cN env pi (.pv (.int .i64 i))) px v}))with
   |none=>rw[hf]at e;simp at e
   |some q=>
    obtain⟨n,hn⟩:=b hf;rw[hf]at e;obtain⟨x,s⟩:=q;cases x with
    |normal=>
     obtain⟨m,a⟩:=oS hm b e;exact⟨max n m,by rw[hm (zbd n m) _ _ hn];exact oQ (hm (zbb n m)) a⟩
    |ret=>exact⟨n,by rw[hn];exact e⟩
    |exit id=>exact⟨n,by rw[hn];exact e⟩
theorem jF{k:Nat}:∀{c:ae}{st:St}{r:aR×St},cE (aC AP) k c st=some r->∃n,cE (run AP n n) n c st=some r
 | .skip,_,_,e=>⟨0,e⟩
 | .ej _,_,_,e=>⟨0,e⟩
 | .Rw _,_,_,e=>⟨0,e⟩
 | .Le _,_,_,e=>⟨0,e⟩
 | .nq _,_,_,e=>⟨0,e⟩
 | .Tf _,_,_,e=>⟨0,e⟩
 | .jt ops live,st,r,e=>by
  simp only[cE]at e⊢;cases b:br (aC AP) ops st with
  |none=>rw[b]at e;simp at e
  |some s=>obtain⟨n,hn⟩:=wO b;rw[b]at e;exact⟨n,by rw[hn];exact e⟩
 | .seq x y,st,r,e=>by
  simp only[cE]at e⊢;cases hx:cE (aC AP) k x st with
  |none=>rw[hx]at e;simp at e
  |some q=>
   obtain⟨n,hn⟩:=jF hx;rw[hx]at e;obtain⟨g,s⟩:=q;cases g with
   |normal=>
    obtain⟨m,hm⟩:=jF (c:=y) e;exact⟨max n m,by rw[qD (zbd n m) hn];exact qD (zbb n m) hm⟩
   |ret=>exact⟨n,by rw[hn];exact e⟩
   |exit id=>exact⟨n,by rw[hn];exact e⟩
 | .cond c x y,st,r,e=>by
  simp only[cE]at e⊢;split at e
  ·rename_i t i;split at e
   ·rename_i a;obtain⟨n,hn⟩:=jF e;exact⟨n,by rw[zak a];exact hn⟩
   ·rename_i a;obtain⟨n,hn⟩:=jF e;exact⟨n,by rw[zad a];exact hn⟩
  ·simp at e
 | .block id x,st,r,e=>by
  simp only[cE]at e⊢;cases hx:cE (aC AP) k x st with
  |none=>rw[hx]at e;simp at e
  |some q=>
   obtain⟨n,hn⟩:=jF hx;rw[hx]at e;exact⟨n,by rw[hn];exact e⟩
 | .loop live x,st,r,e=>by
  simp only[cE]at e⊢;exact uh (fun h=>jF h) e
 | .exit id,_,_,e=>⟨0,e⟩
 | .ret,_,_,e=>⟨0,e⟩
 | .back c gb pi px sz ag live x y,st,r,e=>by
  simp only[cE]at e⊢;unfold e8 at e⊢;split at e
  ·split at e
   ·rename_i d;split at e
    ·split at e
     ·rename_i hl;obtain⟨n,hn⟩:=oS (f:=fun n=>andThen (cE (run AP n n) n x) (cE (run AP n n) n y)) (fun h=>jE (fun s r hs=>qD h hs) (fun s r hs=>qD h hs)) (wc (fun h=>jF h) (fun h=>jF h)) e;exact⟨n,by rw[zak d,zak hl];exact hn⟩
     ·simp at e
    ·simp at e
   ·simp at e
  ·simp at e
noncomputable def cl(AP:Nat->Option aw)(c:ae)(st:St):Option (aR×St):=Is fun k=>cE (aC AP) k c st
theorem pK(c:ae)(st:St):AS fun k=>cE (aC AP) k c st:=fun _ _ _ h e=>bN (eZ.le_refl _) h e
theorem kL{c:ae}{st:St}{k:Nat}{r:aR×St}(h:cE (aC AP) k c st=some r):cl AP c st=some r:=uf (pK c st) h
theorem Pw{st:St}:cl AP .skip st=some (.normal,st):=kL (k:=0) rfl
theorem Px{id:Nat}{st:St}:cl AP (.exit id) st=some (.exit id,st):=kL (k:=0) rfl
theorem Tv{ts:List Nat}{st:St}:cl AP (.ej ts) st=some (.normal,nY ts st):=kL (k:=0) rfl
theorem Tw{st:St}:cl AP .ret st=some (.ret,st):=kL (k:=0) rfl
theorem Tx{ops:List dI}{live:List Nat}{st:St}:cl AP (.jt ops live) st=(br (aC AP) ops st).map fun a=>(.normal,restrict live a):=by
 cases h:br (aC AP) ops st with
 |none=>exact ug fun k=>by simp only[cE,h]
 |some s=>exact kL (k:=0) (by simp only[cE,h])
def after(f:St->Option (aR×St)):Option (aR×St)->Option (aR×St)
 |some (.normal,st)=>f st
 |r=>r
theorem Tz{a b:ae}{st:St}:cl AP (.seq a b) st=after (cl AP b) (cl AP a st):=by
 refine l8 (pK _ _) (fun k r h=>?_) fun r h=>?_
 ·simp only[cE]at h;cases hx:cE (aC AP) k a st with
  |none=>rw[hx]at h;simp at h
  |some q=>
   rw[kL hx];rw[hx]at h;obtain⟨e,s⟩:=q;cases e with
   |normal=>exact kL h
   |ret=>exact h
   |exit id=>exact h
 ·cases hx:cl AP a st with
  |none=>rw[hx]at h;simp[after]at h
  |some q=>
   obtain⟨k,d⟩:=gf hx;rw[hx]at h;obtain⟨e,s⟩:=q;cases e with
   |normal=>
    obtain⟨k',c⟩:=gf (show Is (fun k=>cE (aC AP) k b s)=some r from h);refine⟨max k k',?_⟩;simp only[cE];rw[bN (eZ.le_refl _) (zbd k k') d];exact bN (eZ.le_refl _) (zbb k k') c
   |ret=>exact⟨k,by simp only[cE];rw[d];exact h⟩
   |exit id=>exact⟨k,by simp only[cE];rw[d];exact h⟩
theorem Py{c:eM}{a b:ae}{st:St}{t:Bool}(h:g_ st.env c=some (.pv (.bool t))):cl AP (.cond c a b) st=if t then cl AP a st else cl AP b st:=by
 unfold cl;simp only[cE,h];cases t<;>rfl
def leave(id:Nat):Option (aR×St)->Option (aR×St)
 |some (.exit a,st)=>if a=id then some (.normal,st)else some (.exit a,st)
 |r=>r
theorem Lx{id:Nat}{b:ae}{st:St}:cl AP (.block id b) st=leave id (cl AP b st):=by
 refine l8 (pK _ _) (fun k r h=>?_) fun r h=>?_
 ·simp only[cE]at h;cases hx:cE (aC AP) k b st with
  |none=>rw[hx]at h;simp at h
  |some q=>rw[kL hx];rw[hx]at h;exact h
 ·cases hx:cl AP b st with
  |none=>rw[hx]at h;simp[leave]at h
  |some q=>
   obtain⟨k,a⟩:=gf hx;rw[hx]at h;exact⟨k,by simp only[cE];rw[a];exact h⟩
theorem s6{live:List Nat}{b:ae}{st:St}:cl AP (.loop live b) st=after (cl AP (.loop live b)) (cl AP b (norm (restrict live st))):=by
 refine l8 (pK _ _) (fun k r h=>?_) fun r h=>?_
 ·simp only[cE]at h;cases k with
  |zero=>simp[f_]at h
  |succ k=>
   simp only[f_]at h;cases hx:cE (aC AP) (k+1) b (norm (restrict live st))with
   |none=>rw[hx]at h;simp at h
   |some q=>
    rw[kL hx];rw[hx]at h;obtain⟨c,s⟩:=q;cases c with
    |normal=>exact kL (k:=k+1) (by simp only[cE];exact kb (fun _ _ h=>h) (zbo k) h)
    |ret=>exact h
    |exit id=>exact h
 ·cases hx:cl AP b (norm (restrict live st))with
  |none=>rw[hx]at h;simp[after]at h
  |some q=>
   obtain⟨k,d⟩:=gf hx;rw[hx]at h;obtain⟨c,s⟩:=q;have up:∀m,k<=m->cE (aC AP) m b (norm (restrict live st))=some (c,s):=fun m hm=>bN (eZ.le_refl _) hm d
   cases c with
   |normal=>
    obtain⟨k',a⟩:=gf (show Is (fun k=>cE (aC AP) k (.loop live b) s)=some r from h);refine⟨max k k'+1,?_⟩;simp only[cE,f_];rw[up _ (by omega)];simp only[cE]at a;exact kb (fun _ _ h=>bN (eZ.le_refl _) (by omega) h) (by omega) a
   |ret=>exact⟨k+1,by simp only[cE,f_];rw[up _ (by omega)];exact h⟩
   |exit id=>exact⟨k+1,by simp only[cE,f_];rw[up _ (by omega)];exact h⟩
theorem Pz{c:eM}{gb pi px sz:Nat}{ag:Bool}{live:List Nat}{x y:ae}{st:St}:
   cl AP (.back c gb pi px sz ag live x y) st=e8 (andThen (cl AP x) (cl AP y)) (g_ st.env c) gb pi px sz ag live st:=by
 refine l8 (pK _ _) (fun k r h=>?_) fun r h=>?_
 ·simp only[cE]at h;exact oq (jE (fun s r hs=>kL hs) (fun s r hs=>kL hs)) h
 ·simp only[cE];unfold e8 at h⊢;split at h
  ·split at h
   ·rename_i d;split at h
    ·rename_i l b;by_cases hl:l.length<4611686018427387904;case neg=>rw[zad hl]at h;simp at h
     rw[zak hl]at h
     have a:∀{s:St}{r:aR×St},andThen (cl AP x) (cl AP y) s=some r->∃n,andThen (cE (aC AP) n x) (cE (aC AP) n y) s=some r:=by
      intro s r e;unfold andThen at e⊢;cases hx:cl AP x s with
      |none=>rw[hx]at e;simp at e
      |some q=>
       obtain⟨n,hn⟩:=gf hx;rw[hx]at e;obtain⟨g,s'⟩:=q;cases g with
       |normal=>
        obtain⟨m,hm⟩:=gf (show Is (fun k=>cE (aC AP) k y s')=some r from e);exact⟨max n m,by rw[bN (eZ.le_refl _) (zbd n m) hn];exact bN (eZ.le_refl _) (zbb n m) hm⟩
       |ret=>simp at e
       |exit id=>simp at e
     obtain⟨n,hn⟩:=oS (f:=fun n=>andThen (cE (aC AP) n x) (cE (aC AP) n y)) (fun h=>jE (fun s r hs=>bN (eZ.le_refl _) h hs) (fun s r hs=>bN (eZ.le_refl _) h hs)) a h;exact⟨n,by rw[zak d,zak hl];exact hn⟩
    ·simp at h
   ·simp at h
  ·simp at h
def finish(aW:Bool)(af:aw)(sh:Sh):Option (aR×St)->Option (List AV×Sh×aG)
 |some (e,st)=>
  if e=.ret∨e=.normal then
   match eC st af.results with
   |some vs=>
    let rs:=cp aW af.ks st.sh vs
    let sh':=if rs.all (aK sh.length)=true then(fF aW af.ks st.sh vs).take sh.length else fF aW af.ks st.sh vs
    if rs.all bE=true then some ((ct st.aa rs sh').1,(ct st.aa rs sh').2.1,(ct st.aa rs sh').2.2.2)else none
   |none=>none
  else none
 |none=>none
theorem gU{orc:eZ}{k:Nat}{aW:Bool}{af:aw}{args:List AV}{sh:Sh}{ts:aG}:cj orc k aW af args sh ts=finish aW af sh (cE orc k af.body {env:=bK 0 args,mem:=[],sh,aa:=ts}):=by
 unfold cj finish;cases cE orc k af.body {env:=bK 0 args,mem:=[],sh,aa:=ts}with
 |none=>rfl
 |some q=>obtain⟨e,st⟩:=q;rfl
noncomputable def ot(AP:Nat->Option aw)(aW:Bool)(af:aw)(args:List AV)(sh:Sh)(ts:aG):Option (List AV×Sh×aG):=
 finish aW af sh (cl AP af.body {env:=bK 0 args,mem:=[],sh,aa:=ts})
theorem wP{aW:Bool}{af:aw}{args:List AV}{sh:Sh}{ts:aG}{r:List AV×Sh×aG}(h:ot AP aW af args sh ts=some r):∃n,cj (run AP n n) n aW af args sh ts=some r:=by
 unfold ot at h;cases a:cl AP af.body {env:=bK 0 args,mem:=[],sh,aa:=ts}with
 |none=>rw[a]at h;simp[finish]at h
 |some q=>
  obtain⟨k,b⟩:=gf a;obtain⟨n,hn⟩:=jF b;exact⟨n,by rw[gU,hn,<-a];exact h⟩
theorem GD{n:Nat}{aW:Bool}{af:aw}{args:List AV}{sh:Sh}{ts:aG}{r:List AV×Sh×aG}(h:cj (run AP n n) n aW af args sh ts=some r):ot AP aW af args sh ts=some r:=by
 rw[gU]at h;unfold ot;cases a:cE (run AP n n) n af.body {env:=bK 0 args,mem:=[],sh,aa:=ts}with
 |none=>rw[a]at h;simp[finish]at h
 |some q=>
  rw[kL (bN (Lu n) (zaj n) a)];rw[a]at h;exact h
theorem RC{g:Nat}{af:aw}{x:List PV}(b:AP g=some af)(hp:af.qp=none)(h1:x.length=af.nparams)(h2:x.length<=af.ntmps):
   (aC AP).p g x=(ot AP false af (x.map .pv) [] []).bind fun r=>fp r.1:=by
 refine l8 (sY g x) (fun k r h=>?_) fun r h=>?_
 ·cases k with
  |zero=>simp[run]at h
  |succ k=>
   simp only[run,b,hp]at h;rw[zak ⟨h1,h2⟩]at h;cases a:cj (run AP (k+1) k) (k+1) false af (x.map .pv) [] []with
   |none=>rw[a]at h;simp at h
   |some q=>
    rw[GD (n:=k+1) (fo (cK (zbo k) (zaj _)) (zaj _) a)];rw[a]at h;exact h
 ·cases a:ot AP false af (x.map .pv) [] []with
  |none=>rw[a]at h;simp at h
  |some q=>
   obtain⟨n,hn⟩:=wP a;rw[a]at h;refine⟨n+1,?_⟩;simp only[run,b,hp];rw[zak ⟨h1,h2⟩,fo (cK (n:=n) (n':=n) (k:=n) (k':=n+1) (zaj _) (zbo n)) (zbo n) hn];exact h
theorem wQ:∀(l:List (Nat×List PV×List PV)),(∀c∈l,(aC AP).p c.1 c.2.1=some c.2.2)->∃n,∀c∈l,(run AP n n).p c.1 c.2.1=some c.2.2
 |[],_=>⟨0,by simp⟩
 |c::l,h=>by
  obtain⟨n,hn⟩:=sZ (h c (by simp));obtain⟨m,hm⟩:=wQ l fun c' a=>h c' (by simp[a]);refine⟨max n m,fun c' a=>?_⟩;simp only[zah]at a;rcases a with rfl|a
  ·exact(cK (zbd n m) (zbd n m)).p _ _ _ hn
  ·exact(cK (zbb n m) (zbb n m)).p _ _ _ (hm c' a)
theorem PA{g:Nat}{af:aw}{x:List PV}{f:Prim}(a:AP g=some af)(hp:af.qp=some f):(aC AP).p g x=f.f (aC AP).p x:=by
 refine l8 (sY g x) (fun k r h=>?_) fun r h=>?_
 ·cases k with
  |zero=>simp[run]at h
  |succ k=>
   simp only[run,a,hp]at h;exact f.mono (fun g x r e=>(Lu (k+1)).p _ _ _ ((cK (zbo k) (zaj _)).p _ _ _ e)) h
 ·obtain⟨l,h1,h2⟩:=f.fin _ _ _ h;obtain⟨n,hn⟩:=wQ l h1;refine⟨n+1,?_⟩;simp only[run,a,hp];exact h2 _ fun c b=>(cK (n:=n) (n':=n) (k:=n) (k':=n+1) (zaj _) (zbo n)).p _ _ _ (hn c b)
theorem RD{g:Nat}{af:aw}{x:List AV}{sh:Sh}{ts:aG}(a:AP g=some af)(h2:x.length<=af.ntmps):(aC AP).i g x sh ts=ot AP true af x sh ts:=by
 refine l8 (GC g x sh ts) (fun k r h=>?_) fun r h=>?_
 ·cases k with
  |zero=>simp[run]at h
  |succ k=>
   simp only[run,a]at h;rw[zak h2]at h;exact GD (n:=k+1) (fo (cK (zbo k) (zaj _)) (zaj _) h)
 ·obtain⟨n,hn⟩:=wP h;refine⟨n+1,?_⟩;simp only[run,a];rw[zak h2];exact fo (cK (n:=n) (n':=n) (k:=n) (k':=n+1) (zaj _) (zbo n)) (zbo n) hn
end Go.Ab
namespace Go.Ab.Ev
section
variable {AP:Nat->Option aw} {O:eZ}
noncomputable def branch(AP:Nat->Option aw)(o:Option AV)(a b:ae)(st:St):Option (aR×St):=
 match o with
 |some (.pv (.bool t))=>if t=true then cl AP a st else cl AP b st
 |_=>none
theorem Iv{c:eM}{a b:ae}{st:St}:cl AP (.cond c a b) st=branch AP (g_ st.env c) a b st:=by
 unfold branch;split
 ·rename_i t h;rw[Py h]
 ·rename_i h;unfold cl;refine ug fun k=>?_;simp only[cE]
theorem AT{t:Bool}{a b:ae}{st:St}:branch AP (some (.pv (.bool t))) a b st=if t=true then cl AP a st else cl AP b st:=rfl
def ui(live:List Nat):Option St->Option (aR×St)
 |some st=>some (.normal,restrict live st)
 |none=>none
theorem Iw{ops:List dI}{live:List Nat}{st:St}:cl AP (.jt ops live) st=ui live (br (aC AP) ops st):=by
 rw[Tx];cases br (aC AP) ops st<;>rfl
theorem AU{live:List Nat}{st:St}:ui live (some st)=some (.normal,restrict live st):=rfl
theorem Dl{live:List Nat}{c:Prop}[Decidable c]{x y:Option St}:ui live (if c then x else y)=if c then ui live x else ui live y:=by split<;>rfl
theorem ym{f:St->Option (aR×St)}{st:St}:after f (some (.normal,st))=f st:=rfl
theorem Iy{f:St->Option (aR×St)}{st:St}:after f (some (.ret,st))=some (.ret,st):=rfl
theorem Dm{f:St->Option (aR×St)}{st:St}{id:Nat}:after f (some (.exit id,st))=some (.exit id,st):=rfl
theorem Iz{f:St->Option (aR×St)}{c:Prop}[Decidable c]{x y:Option (aR×St)}:after f (if c then x else y)=if c then after f x else after f y:=by split<;>rfl
theorem yn{id:Nat}{st:St}:leave id (some (.normal,st))=some (.normal,st):=rfl
theorem IA{id:Nat}{st:St}:leave id (some (.ret,st))=some (.ret,st):=rfl
theorem Dn{id a:Nat}{st:St}:leave id (some (.exit a,st))=if a=id then some (.normal,st)else some (.exit a,st):=rfl
theorem IB{id:Nat}{c:Prop}[Decidable c]{x y:Option (aR×St)}:leave id (if c then x else y)=if c then leave id x else leave id y:=by split<;>rfl
def nF(O:eZ)(l:List dI):Option St->Option St
 |some st=>br O l st
 |none=>none
theorem IC{st:St}:br O [] st=some st:=rfl
theorem l9{o:dI}{l:List dI}{st:St}:br O (o::l) st=nF O l (dT O o st):=by
 simp only[br];cases dT O o st<;>rfl
theorem Dp{d:Option Nat}{args:List eM}{op:AK}{l:List dI}{st:St}:br O (⟨d,none,args,op⟩::l) st=nF O l (dT O ⟨d,none,args,op⟩ st):=l9
theorem yp{l:List dI}{st:St}:nF O l (some st)=br O l st:=rfl
theorem AW{l:List dI}{c:Prop}[Decidable c]{x y:Option St}:nF O l (if c then x else y)=if c then nF O l x else nF O l y:=by split<;>rfl
def uj(d k:Option Nat)(env:List (Nat×AV))(mem:List (Nat×List AV)):Option Out->Option St
 |some out=>some {env:=gJ env d out.val,mem:=fY mem k out.cells,sh:=out.sh,aa:=out.aa}
 |none=>none
def Ly(O:eZ)(op:AK)(vals:Option (List AV))(cells:Option (List AV))(sh:Sh)(aa:aG):Option Out:=
 match vals with
 |some vals=>exec O op vals cells sh aa
 |none=>none
theorem Dq{d:Option Nat}{args:List eM}{op:AK}{env:List (Nat×AV)}{mem:List (Nat×List AV)}{sh:Sh}{aa:aG}:
   dT O ⟨d,none,args,op⟩ ⟨env,mem,sh,aa⟩=uj d op.key env mem (Ly O op (d_ env args) (op.key.bind (look mem)) sh aa):=by
 simp only[dT,gq];cases d_ env args with
 |none=>rfl
 |some vals=>
  dsimp only[Ly];cases exec O op vals (op.key.bind (look mem)) sh aa<;>rfl
def uk(t:Nat)(b:Bool)(o:dI):dI:=
 match o.guard with
 |some (t',a)=>if t'=t then(if a=b then {o with guard:=none}else⟨o.dst,none,[.c .un],.v .mv⟩)else o
 |none=>o
def ID(t:Nat):List dI->Bool
 |[]=>true
 |o::l=>(o.dst != some t) && ID t l
theorem nG{α:Type}{t t':Nat}{v:α}:∀{l:List (Nat×α)},look (cN l t v) t'=if t'=t then some v else look l t'
 |[]=>by
  simp only[cN,look];by_cases h:t'=t
  ·subst h;simp
  ·rw[zad (fun e=>h e.symm),zad h]
 |(k,u)::r=>by
  simp only[cN];by_cases a:k=t
  ·subst a;simp only[za0,look];by_cases h:t'=k
   ·subst h;simp
   ·rw[zad (fun e=>h e.symm),zad h,zad (fun e=>h e.symm)]
  ·rw[zad a];simp only[look,nG (l:=r)];by_cases h:k=t'
   ·subst h;simp[a]
   ·rw[zad h,zad h]
theorem qE{α:Type}{t:Nat}{v:α}:∀{l:List (Nat×α)},look l t=some v->cN l t v=l
 |[],h=>by simp[look]at h
 |(k,u)::r,h=>by
  simp only[look]at h;simp only[cN];split at h
  ·rename_i e;cases h;rw[zak e]
  ·rename_i e;rw[zad e,qE h]
theorem wR{o:dI}{st a:St}{t:Nat}{v:AV}(hd:(o.dst != some t)=true)(h:look st.env t=some v)(e:dT O o st=some a):look a.env t=some v:=by
 have key:∀x,look (gJ st.env o.dst x) t=some v:=by
  intro x;cases b:o.dst with
  |none=>exact h
  |some d=>
   rw[b]at hd;simp only[gJ,nG];rw[zad (by intro e;subst e;simp at hd)];exact h
 simp only[dT]at e;split at e
 ·cases e
 ·cases e;exact key _
 ·split at e
  ·cases e
  ·split at e
   ·cases e
   ·cases e;exact key _
theorem IE{o:dI}{st:St}{t:Nat}{b:Bool}(h:look st.env t=some (.pv (.bool b))):dT O o st=dT O (uk t b o) st:=by
 obtain⟨d,g,args,op⟩:=o;cases g with
 |none=>rfl
 |some p=>
  obtain⟨t',i⟩:=p;simp only[uk];by_cases f:t'=t
  ·subst f;rw[zak rfl];by_cases c:i=b
   ·subst c;rw[zak rfl];simp only[dT,gq,h,beq_self_eq_true]
   ·rw[zad c];have a:(b == i)=false:=by simpa using fun e=>c e.symm
    simp only[dT,gq,h,a];obtain⟨env,mem,sh,aa⟩:=st;rfl
  ·rw[zad f]
theorem oT{t:Nat}{b:Bool}:∀{l:List dI}{st:St},ID t l=true->look st.env t=some (.pv (.bool b))->br O l st=br O (l.map (uk t b)) st
 |[],_,_,_=>rfl
 |o::l,st,hn,h=>by
  simp only[ID,zaf]at hn;rw[zao,l9,l9,<-IE h];cases e:dT O o st with
  |none=>rfl
  |some a=>exact oT hn.2 (wR hn.1 h e)
theorem AX{d:Option Nat}{t:Nat}{b:Bool}{args:List eM}{op:AK}{l:List dI}{env:List (Nat×AV)}{mem:List (Nat×List AV)}{sh:Sh}{aa:aG}{c:Bool}(h:look env t=some (.pv (.bool c)))(hn:ID t (⟨d,some (t,b),args,op⟩::l)=true):
   br O (⟨d,some (t,b),args,op⟩::l) ⟨env,mem,sh,aa⟩=
     if c=true then br O ((⟨d,some (t,b),args,op⟩::l).map (uk t true)) ⟨cN env t (.pv (.bool true)),mem,sh,aa⟩
     else br O ((⟨d,some (t,b),args,op⟩::l).map (uk t false)) ⟨cN env t (.pv (.bool false)),mem,sh,aa⟩:=by
 cases c with
 |true=>rw[zak rfl,qE h];exact oT hn h
 |false=>rw[zad (by simp),qE h];exact oT hn h
theorem yq{d:Option Nat}{t:Nat}{b:Bool}{args:List eM}{op:AK}{l:List dI}{env:List (Nat×AV)}{mem:List (Nat×List AV)}{sh:Sh}{aa:aG}(h:look env t=some .un):
   br O (⟨d,some (t,b),args,op⟩::l) ⟨env,mem,sh,aa⟩=br O l ⟨gJ env d .un,mem,sh,aa⟩:=by
 rw[l9];simp only[dT,gq,h];rfl
noncomputable def gd(O:eZ)(t:Nat)(ops:List dI)(d:Option Nat)(l:List dI)(env:List (Nat×AV))(mem:List (Nat×List AV))(sh:Sh)(aa:aG):Option AV->Option St
 |some (.pv (.bool c))=>if ID t ops=true then(if c=true then br O (ops.map (uk t true)) ⟨cN env t (.pv (.bool true)),mem,sh,aa⟩
     else br O (ops.map (uk t false)) ⟨cN env t (.pv (.bool false)),mem,sh,aa⟩)else br O ops ⟨env,mem,sh,aa⟩
 |some .un=>br O l ⟨gJ env d .un,mem,sh,aa⟩
 |_=>br O ops ⟨env,mem,sh,aa⟩
theorem Lz{d:Option Nat}{t:Nat}{b:Bool}{args:List eM}{op:AK}{l:List dI}{env:List (Nat×AV)}{mem:List (Nat×List AV)}{sh:Sh}{aa:aG}:
   br O (⟨d,some (t,b),args,op⟩::l) ⟨env,mem,sh,aa⟩=gd O t (⟨d,some (t,b),args,op⟩::l) d l env mem sh aa (look env t):=by
 unfold gd;split
 ·rename_i c h;split
  ·rename_i hn;exact AX h hn
  ·rfl
 ·rename_i h;exact yq h
 ·rfl
theorem PB{t:Nat}{ops:List dI}{d:Option Nat}{l:List dI}{env:List (Nat×AV)}{mem:List (Nat×List AV)}{sh:Sh}{aa:aG}{c:Bool}:gd O t ops d l env mem sh aa (some (.pv (.bool c)))=
   if ID t ops=true then(if c=true then br O (ops.map (uk t true)) ⟨cN env t (.pv (.bool true)),mem,sh,aa⟩
     else br O (ops.map (uk t false)) ⟨cN env t (.pv (.bool false)),mem,sh,aa⟩)else br O ops ⟨env,mem,sh,aa⟩:=rfl
theorem VM{t:Nat}{ops:List dI}{d:Option Nat}{l:List dI}{env:List (Nat×AV)}{mem:List (Nat×List AV)}{sh:Sh}{aa:aG}:gd O t ops d l env mem sh aa (some .un)=br O l ⟨gJ env d .un,mem,sh,aa⟩:=rfl
theorem PC{t:Nat}:ID t []=true:=rfl
theorem LA{t d:Nat}{g:Option (Nat×Bool)}{args:List eM}{op:AK}{l:List dI}:ID t (⟨some d,g,args,op⟩::l)=(!(decide (d=t)) && ID t l):=by
 simp only[ID];congr 1
theorem LB{t:Nat}{g:Option (Nat×Bool)}{args:List eM}{op:AK}{l:List dI}:ID t (⟨none,g,args,op⟩::l)=ID t l:=by
 simp[ID]
theorem IF{t:Nat}{b:Bool}{d:Option Nat}{args:List eM}{op:AK}:uk t b ⟨d,none,args,op⟩=⟨d,none,args,op⟩:=rfl
theorem IG{t t':Nat}{b a:Bool}{d:Option Nat}{args:List eM}{op:AK}:uk t b ⟨d,some (t',a),args,op⟩=if t'=t then(if a=b then⟨d,none,args,op⟩else⟨d,none,[.c .un],.v .mv⟩)else⟨d,some (t',a),args,op⟩:=rfl
theorem AY{d k:Option Nat}{env:List (Nat×AV)}{mem:List (Nat×List AV)}{v:AV}{cs:Option (List AV)}{sh:Sh}{aa:aG}:
   uj d k env mem (some ⟨v,cs,sh,aa⟩)=some ⟨gJ env d v,fY mem k cs,sh,aa⟩:=rfl
theorem Dr{d k:Option Nat}{env:List (Nat×AV)}{mem:List (Nat×List AV)}{c:Prop}[Decidable c]{x y:Option Out}:uj d k env mem (if c then x else y)=if c then uj d k env mem x else uj d k env mem y:=by split<;>rfl
theorem Du{op:AK}{vals:List AV}{cells:Option (List AV)}{sh:Sh}{aa:aG}:Ly O op (some vals) cells sh aa=exec O op vals cells sh aa:=rfl
def LC(sh:Sh)(aa:aG):Option AV->Option Out
 |some x=>some ⟨x,none,sh,aa⟩
 |none=>none
theorem II{sh:Sh}{aa:aG}{x:AV}:LC sh aa (some x)=some ⟨x,none,sh,aa⟩:=rfl
variable {vals:List AV} {cells:Option (List AV)} {sh:Sh} {aa:aG}
theorem TB{o:Pg}:exec O (.v o) vals cells sh aa=LC sh aa (bw o vals):=by
 show (bw o vals).map _=_;cases bw o vals<;>rfl
theorem iL{key off sz d o:Nat}{ag:Bool}{cs:List AV}:exec O (.cg key off sz ag) [.au d o] (some cs) sh aa=if d=key∧o=off then LC sh aa (bY ag sz cs off)else none:=by
 show (if d=key∧o=off then(bY ag sz cs off).map _ else none)=_;cases bY ag sz cs off<;>rfl
theorem jb{key off sz d o:Nat}{v:AV}{cs:List AV}:exec O (.bB key off sz) [.au d o,v] (some cs) sh aa =
   if d=key∧o=off∧(a6 v).length=sz∧(a6 v).all aZ=true then if off+sz<=cs.length then some ⟨.un,some (a0 cs off (a6 v)),sh,aa⟩else none else none:=rfl
theorem j8{key:Nat}{zero:List PV}:exec O (.alloc key zero) [] none sh aa=some ⟨.au key 0,some (zero.map bw.zeroCell),sh,aa⟩:=rfl
theorem mQ{key sz:Nat}{v:AV}:exec O (.box key sz) [v] none sh aa=if(a6 v).length=sz∧(a6 v).all aZ=true then some ⟨.au key 0,some (a6 v),sh,aa⟩else none:=rfl
theorem AZ{sz:Nat}{ag:Bool}{cs:List PV}:exec O (.dH sz ag) [.dQ cs] cells sh aa=LC sh aa (cH ag sz cs):=by
 show (cH ag sz cs).map _=_;cases cH ag sz cs<;>rfl
def um(ag:Bool)(sz off:Nat):Option (Option (List AV))->Option AV
 |some (some cs)=>if dE cs=true then none else bY ag sz cs off
 |_=>none
theorem rS{ag:Bool}{sz off:Nat}{cs:List AV}:um ag sz off (some (some cs))=if dE cs=true then none else bY ag sz cs off:=rfl
theorem A0{sz b off:Nat}{ag:Bool}:exec O (.dH sz ag) [.aI b off] cells sh aa=LC sh aa (um ag sz off sh[b]?):=by
 show (match sh[b]? with|some (some cs)=>if dE cs=true then none else(bY ag sz cs off).map _|_=>none)=_;split
 ·rename_i cs h;rw[h,rS];split
  ·rfl
  ·cases bY ag sz cs off<;>rfl
 ·rename_i h;unfold um;split
  ·rename_i cs e;exact absurd e (h cs)
  ·rfl
def yr(b off sz:Nat)(vs:List AV)(sh:Sh)(aa:aG):Option (Option (List AV))->Option Out
 |some (some cs)=>if dE cs=false∧vs.length=sz∧off+sz<=cs.length∧vs.all dO=true∧vs.all (aK (b+1))=true then some ⟨.un,none,sh.set b (some (a0 cs off vs)),aa⟩else none
 |_=>none
theorem pL{b off sz:Nat}{vs cs:List AV}:yr b off sz vs sh aa (some (some cs))=if dE cs=false∧vs.length=sz∧off+sz<=cs.length∧vs.all dO=true∧vs.all (aK (b+1))=true then some ⟨.un,none,sh.set b (some (a0 cs off vs)),aa⟩else none:=rfl
theorem jc{sz b off:Nat}{v:AV}:exec O (.et sz) [.aI b off,v] cells sh aa=yr b off sz (cA v) sh aa sh[b]?:=by
 show (match sh[b]? with|some (some cs)=>_|_=>none)=_;split
 ·rename_i cs h;rw[h,pL]
 ·rename_i h;unfold yr;split
  ·rename_i cs e;exact absurd e (h cs)
  ·rfl
theorem nv{sz:Nat}{v:AV}:exec O (.qn sz) [v] cells sh aa=if(cA v).length=sz∧(cA v).all dO=true∧(cA v).all (aK sh.length)=true then some ⟨.aI sh.length 0,none,sh++[some (cA v)],aa⟩else none:=rfl
theorem nA{sz:Nat}{v:AV}:exec O (.sG sz) [v] cells sh aa=if(a6 v).length=sz∧(a6 v).all dO=true∧(a6 v).all (aK sh.length)=true then some ⟨.aI sh.length 0,none,sh++[some (a6 v)],aa⟩else none:=rfl
theorem kH{zero:List PV}:exec O (.fR zero) [] cells sh aa=some ⟨.aI sh.length 0,none,sh++[some (zero.map bw.zeroCell)],aa⟩:=rfl
theorem lT{sz bytes:Nat}{ag:Bool}{zero:List PV}{k k':IntKind}{n n':Int}:exec O (.lh sz bytes ag zero) [.pv (.int k n),.pv (.int k' n')] cells sh aa =
   if n=n'∧0<=n∧n<=9223372036854775807∧n*bytes<=140737488355328∧zero.length=sz then some ⟨.bh sh.length sz n.toNat ag,none,sh++[some ((List.replicate n.toNat (zero.map .pv)).flatten)],aa⟩else none:=rfl
theorem LD{s:Nat}:(AK.sG s).key=none:=rfl
theorem LF{b o a o':Nat}:apart (some (.aI b o)) (some (.aI a o'))=(b != a):=rfl
def ZR(ts:List Nat)(st:St):Option AV->St
 |some (.bh b _ _ _)=>match st.sh[b]? with
  |some (some cells)=>if dE cells=false then {st with env:=Pk b st.sh.length ts st.env,sh:=st.sh.set b none++[some cells]}else st
  |_=>st
 |_=>st
def VN(aa:aG):Option (AV×Sh×aG)->Option Out
 |some (v,sh',ts)=>some ⟨v,none,sh',ts⟩
 |none=>none
theorem IJ{v:AV}{sh':Sh}{ts:aG}:VN aa (some (v,sh',ts))=some ⟨v,none,sh',ts⟩:=rfl
theorem A1{sz bytes:Nat}{ag:Bool}{x:AV}:exec O (.jO sz bytes ag) [x] cells sh aa=VN aa (gI (some ag) sz bytes x sh aa):=by
 show ((gI (some ag) sz bytes x sh aa).map _)=_;cases gI (some ag) sz bytes x sh aa<;>rfl
def yt(ag:Bool)(sz bytes:Nat)(sh:Sh)(aa:aG):Option (List PV)->Option (AV×Sh×aG)
 |some xs=>if a7 sz xs=true then(if xs.isEmpty=true then some (.cQ [],sh,aa)else if xs.length*bytes<=140737488355328 then some (.bh sh.length sz xs.length ag,sh++[some ((xs.flatMap a9).map .pv)],aa)else none)else none
 |none=>none
theorem IK{ag:Bool}{sz bytes:Nat}{x:AV}:gI (some ag) sz bytes x sh aa=yt ag sz bytes sh aa (db x):=by
 cases h:db x with
 |none=>simp[gI,yt,h]
 |some xs=>
  simp only[gI,yt,h];split
  ·unfold sI;split
   ·rfl
   ·split<;>rfl
  ·rfl
theorem A3{ag:Bool}{sz bytes:Nat}{xs:List PV}:yt ag sz bytes sh aa (some xs)=
   if a7 sz xs=true then(if xs.isEmpty=true then some (.cQ [],sh,aa)else if xs.length*bytes<=140737488355328 then some (.bh sh.length sz xs.length ag,sh++[some ((xs.flatMap a9).map .pv)],aa)else none)else none:=rfl
theorem Dw{sz bytes:Nat}{ag:Bool}:(AK.jO sz bytes ag).key=none:=rfl
theorem PD{p:PV}{r:List AV}:dE (.pv p::r)=false:=rfl
theorem LG{l:List PV}{τ:Nat}{r:List AV}:dE (.own l τ::r)=false:=rfl
theorem IL{b z n:Nat}{ag:Bool}{r:List AV}:dE (.bh b z n ag::r)=false:=rfl
def VO(ok:Bool)(z:PV)(sh:Sh)(aa:aG):Option (Option PV)->Option Out
 |some r=>some ⟨xI ok z r,none,sh,aa⟩
 |none=>none
theorem yu{z:PV}{r:Option PV}:xI true z r=.qj [.pv (r.getD z),.pv (.bool r.isSome)]:=rfl
theorem we{z:PV}{r:Option PV}:xI false z r=.pv (r.getD z):=rfl
def VP(c:CK)(ok:Bool)(z k:PV)(sh:Sh)(aa:aG):Option (Option (List AV))->Option Out
 |some (some [.fM kvs])=>VO ok z sh aa (CX c kvs k)
 |_=>none
theorem Dx{c:CK}{ok:Bool}{z k:PV}{kvs:List (PV×PV)}:VP c ok z k sh aa (some (some [.fM kvs]))=VO ok z sh aa (CX c kvs k):=rfl
def TC(s:Nat)(sh:Sh)(aa:aG):Option (List (PV×PV))->Option Out
 |some kvs=>some ⟨.un,none,sh.set s (some [.fM kvs]),aa⟩
 |none=>none
theorem IM{s:Nat}{kvs:List (PV×PV)}:TC s sh aa (some kvs)=some ⟨.un,none,sh.set s (some [.fM kvs]),aa⟩:=rfl
def YG(c:CK)(s:Nat)(k:PV)(sh:Sh)(aa:aG):Option (Option (List AV))->Option PV->Option Out
 |some (some [.fM kvs]),some p=>TC s sh aa (Lg c kvs k p)
 |_,_=>none
theorem IN{c:CK}{s:Nat}{k p:PV}{kvs:List (PV×PV)}:YG c s k sh aa (some (some [.fM kvs])) (some p)=TC s sh aa (Lg c kvs k p):=rfl
def IP(sh:Sh):Option (AV×aG)->Option Out
 |some (v,ts)=>some ⟨v,none,sh,ts⟩
 |none=>none
theorem IS{v:AV}{ts:aG}:IP sh (some (v,ts))=some ⟨v,none,sh,ts⟩:=rfl
theorem LH{c:Prop}[Decidable c]{x y:Option (AV×aG)}:IP sh (if c then x else y)=if c then IP sh x else IP sh y:=by split<;>rfl
theorem kI{sz bytes:Nat}{s x:AV}:exec O (.append sz bytes) [s,x] cells sh aa=IP sh (bZ sz bytes s x aa):=by
 show (bZ sz bytes s x aa).map _=_;cases bZ sz bytes s x aa<;>rfl
theorem oJ{sz bytes:Nat}{x:AV}:exec O (.clone sz bytes) [x] cells sh aa=IP sh (bZ sz bytes (.cQ []) x aa):=by
 show (bZ sz bytes (.cQ []) x aa).map _=_;cases bZ sz bytes (.cQ []) x aa<;>rfl
def GF(sz bytes:Nat)(s:AV)(aa:aG):Option (List PV)->Option (AV×aG)
 |some xs=>if a7 sz xs=true then
  match s with
  | .cQ l=>if xs.isEmpty=true then some (.cQ l,aa)else if a7 sz l=true∧(l.length+xs.length)*bytes<=140737488355328 then
   some (.own (l++xs) aa.length,aa++[(l++xs).length])else none
  | .own l τ=>if aa[τ]?=some l.length∧a7 sz l=true∧(l.length+xs.length)*bytes<=140737488355328 then
   some (.own (l++xs) τ,aa.set τ (l++xs).length)else none
  |_=>none
  else none
 |none=>none
theorem wg{sz bytes:Nat}{s x:AV}:bZ sz bytes s x aa=GF sz bytes s aa (db x):=by
 unfold bZ GF;cases db x<;>rfl
theorem IT{sz bytes:Nat}{l xs:List PV}:GF sz bytes (.cQ l) aa (some xs)=if a7 sz xs=true then if xs.isEmpty=true then some (.cQ l,aa)else if a7 sz l=true∧(l.length+xs.length)*bytes<=140737488355328 then
 some (.own (l++xs) aa.length,aa++[(l++xs).length])else none else none:=rfl
theorem IU{sz bytes τ:Nat}{l xs:List PV}:GF sz bytes (.own l τ) aa (some xs)=if a7 sz xs=true then if aa[τ]?=some l.length∧a7 sz l=true∧(l.length+xs.length)*bytes<=140737488355328 then
 some (.own (l++xs) τ,aa.set τ (l++xs).length)else none else none:=rfl
def TD(aa:aG):Option (AV×Sh)->Option Out
 |some (v,sh)=>some ⟨v,none,sh,aa⟩
 |none=>none
theorem IV{v:AV}{sh:Sh}:TD aa (some (v,sh))=some ⟨v,none,sh,aa⟩:=rfl
def LI(sz bytes:Nat)(ag:Bool)(s:AV)(sh:Sh)(aa:aG):Option (List PV)->Option Out
 |some xs=>if a7 sz xs=true then TD aa (sJ sz bytes ag s xs sh aa)else none
 |none=>none
theorem Dy{sz bytes:Nat}{ag:Bool}{s:AV}{xs:List PV}:LI sz bytes ag s sh aa (some xs)=if a7 sz xs=true then TD aa (sJ sz bytes ag s xs sh aa)else none:=rfl
theorem lU{sz bytes:Nat}{ag:Bool}{s x:AV}:exec O (.dN sz bytes ag) [s,x] cells sh aa=LI sz bytes ag s sh aa (db x):=by
 simp only[exec,LI];cases db x with
 |none=>rfl
 |some xs=>
  simp only;split
  ·cases sJ sz bytes ag s xs sh aa<;>rfl
  ·rfl
def Dz(sz bytes:Nat)(ag:Bool)(b z n:Nat)(g:Bool)(xs:List PV)(sh:Sh):Option (Option (List AV))->Option (AV×Sh)
 |some (some cells)=>if z=sz∧g=ag∧dE cells=false∧n*sz<=cells.length∧(n+xs.length)*bytes<=140737488355328 then
  if xs.isEmpty=true then some (.bh b sz n ag,sh)else some (.bh sh.length sz (n+xs.length) ag,sh.set b none++[some (cells.take (n*sz)++(xs.flatMap a9).map .pv)])
     else none
 |_=>none
theorem A4{sz bytes:Nat}{ag:Bool}{b z n:Nat}{g:Bool}{xs:List PV}{cells:List AV}:Dz sz bytes ag b z n g xs sh (some (some cells))=if z=sz∧g=ag∧dE cells=false∧n*sz<=cells.length∧(n+xs.length)*bytes<=140737488355328 then
 if xs.isEmpty=true then some (.bh b sz n ag,sh)else some (.bh sh.length sz (n+xs.length) ag,sh.set b none++[some (cells.take (n*sz)++(xs.flatMap a9).map .pv)])
     else none:=rfl
theorem LJ{sz bytes:Nat}{ag:Bool}{xs:List PV}:sJ sz bytes ag (.cQ []) xs sh aa=sI sz bytes ag (.cQ []) xs sh:=rfl
theorem LK{sz bytes τ:Nat}{ag:Bool}{xs:List PV}:sJ sz bytes ag (.own [] τ) xs sh aa=if aa[τ]?=some 0 then sI sz bytes ag (.own [] τ) xs sh else none:=rfl
theorem IW{sz bytes b z n:Nat}{ag g:Bool}{xs:List PV}:sJ sz bytes ag (.bh b z n g) xs sh aa=Dz sz bytes ag b z n g xs sh sh[b]?:=by
 simp only[sJ,Dz];rcases sh[b]? with _|_|cells<;>rfl
theorem PE{sz bytes:Nat}{ag:Bool}{s:AV}{xs:List PV}:sI sz bytes ag s xs sh=if xs.isEmpty=true then some (s,sh)else if xs.length*bytes<=140737488355328 then some (.bh sh.length sz xs.length ag,sh++[some ((xs.flatMap a9).map .pv)])else none:=rfl
def PF(r:List Nat)(t:Nat)(st:St)(v:AV):Option PV->St
 |some p=>nY r {st with env:=cN st.env t (.pv p),sh:=eN st.sh [v]}
 |none=>nY r (xJ v st)
def LL(d:Nat)(cs:List AV)(st:St):Option (List PV)->St
 |some ps=>{st with mem:=cN st.mem d (ps.map .pv),sh:=eN st.sh [.agg cs]}
 |none=>st
def LM(d:Nat)(st:St):Option (List AV)->St
 |some cs=>LL d cs st (eA st.sh cs)
 |none=>st
theorem IX{d:Nat}{st:St}:xJ (.au d 0) st=LM d st (look st.mem d):=by
 simp only[xJ];cases look st.mem d with
 |none=>rfl
 |some cs=>
  simp only[LM];cases eA st.sh cs<;>rfl
def LN(b:Nat)(st:St):Option (Option (List AV))->St
 |some (some cs)=>{st with sh:=st.sh.set b (some ((cs.take (cs.length / 2)).map oj++cs.drop (cs.length / 2)))}
 |_=>st
theorem IY{b:Nat}{st:St}:xJ (.aI b 0) st=LN b st st.sh[b]?:=by
 simp only[xJ,LN];rcases st.sh[b]? with _|_|cs<;>rfl
theorem DA{b:Nat}{st:St}{cs:List AV}:LN b st (some (some cs))={st with sh:=st.sh.set b (some ((cs.take (cs.length / 2)).map oj++cs.drop (cs.length / 2)))}:=rfl
theorem IZ{l:List PV}:oj (.cQ l)=.pv (.aq l):=rfl
theorem LO{p:PV}:oj (.pv p)=.pv p:=rfl
theorem DB{d:Nat}{st:St}{cs:List AV}:LM d st (some cs)=LL d cs st (eA st.sh cs):=rfl
theorem DC{d:Nat}{st:St}{cs:List AV}{ps:List PV}:LL d cs st (some ps)={st with mem:=cN st.mem d (ps.map .pv),sh:=eN st.sh [.agg cs]}:=rfl
def TE(r:List Nat)(t:Nat)(st:St):Option AV->St
 |some v=>PF r t st v (ej st.sh v)
 |none=>nY r st
theorem LP{st:St}:nY [] st=st:=rfl
theorem I0{t:Nat}{r:List Nat}{st:St}:nY (t::r) st=TE r t st (look st.env t):=by
 simp only[nY];cases look st.env t with
 |none=>rfl
 |some v=>
  simp only[TE];cases ej st.sh v<;>rfl
theorem I2{r:List Nat}{t:Nat}{st:St}{v:AV}:TE r t st (some v)=PF r t st v (ej st.sh v):=rfl
theorem I6{r:List Nat}{t:Nat}{st:St}{v:AV}{p:PV}:PF r t st v (some p)=nY r {st with env:=cN st.env t (.pv p),sh:=eN st.sh [v]}:=rfl
theorem I7{r:List Nat}{t:Nat}{st:St}{v:AV}:PF r t st v none=nY r (xJ v st):=rfl
def TF(aa:aG):Option Sh->Option Out
 |some sh=>some ⟨.qj [],none,sh,aa⟩
 |none=>none
theorem I8{sh:Sh}:TF aa (some sh)=some ⟨.qj [],none,sh,aa⟩:=rfl
def uq(sz:Nat)(zero:List PV)(sh:Sh)(b off n:Nat):Option (Option (List AV))->Option Sh
 |some (some cells)=>if dE cells=false∧off+n*sz<=cells.length∧zero.length=sz then some (sh.set b (some (a0 cells off (List.replicate n (zero.map .pv)).flatten)))else none
 |_=>none
theorem A5{sz b off n:Nat}{zero:List PV}{cells:List AV}:uq sz zero sh b off n (some (some cells))=if dE cells=false∧off+n*sz<=cells.length∧zero.length=sz then some (sh.set b (some (a0 cells off (List.replicate n (zero.map .pv)).flatten)))else none:=rfl
theorem yx{sz b n:Nat}{ag:Bool}{zero:List PV}:exec O (.im sz zero) [.bh b sz n ag] cells sh aa=TF aa (uq sz zero sh b 0 n sh[b]?):=by
 simp only[exec,tH,za0,oD];rcases sh[b]? with _|_|cs
 ·rfl
 ·rfl
 ·simp only[uq];split<;>rfl
theorem yy{sz b off n:Nat}{zero:List PV}:exec O (.im sz zero) [.ql b off n] cells sh aa=TF aa (uq sz zero sh b off n sh[b]?):=by
 simp only[exec,tH,oD];rcases sh[b]? with _|_|cs
 ·rfl
 ·rfl
 ·simp only[uq];split<;>rfl
theorem I9:zW [] []=true:=rfl
theorem DD{a b:List UInt8}{r q:List PV}:zW (.str a::r) (.str b::q)=((a == b) && zW r q):=rfl
theorem DE{s:Nat}{z:List PV}:AK.key (.im s z)=none:=rfl
theorem DF{sz b n:Nat}{ag lo hi:Bool}{rest:List AV}:bw (.tF sz lo hi) (.bh b sz n ag::rest)=lj sz lo hi (.bh b sz n ag::rest):=rfl
theorem LQ{l:List PV}:db (.pv (.aq l))=some l:=rfl
theorem I_{l:List PV}:db (.cQ l)=some l:=rfl
theorem Ja{l:List PV}{τ:Nat}:db (.own l τ)=some l:=rfl
theorem DG{sz:Nat}:a7 sz []=true:=rfl
theorem A6{sz:Nat}{p:PV}{r:List PV}:a7 sz (p::r)=((a9 p).length == sz):=rfl
def TG(sh:Sh)(aa:aG):Option (List PV)->Option Out
 |some rs=>some ⟨tI rs,none,sh,aa⟩
 |none=>none
theorem Jb{rs:List PV}:TG sh aa (some rs)=some ⟨tI rs,none,sh,aa⟩:=rfl
def LR(O:eZ)(g:Nat):Option (List PV)->Option (List PV)
 |some dV=>O.p g dV
 |none=>none
theorem oU{g:Nat}{dV:List PV}:LR O g (some dV)=O.p g dV:=rfl
theorem DH{g:Nat}:exec O (.aH g) vals cells sh aa=TG sh aa (LR O g (dx [] vals)):=by
 show (match dx [] vals with|some dV=>_|none=>none)=_;split
 ·rename_i dV h;rw[h,oU];cases O.p g dV<;>rfl
 ·rename_i h;rw[h];rfl
theorem A7{g:Nat}:exec O (.dd g) vals cells sh aa=TG (eN sh vals) aa (LR O g (dx sh vals)):=by
 show (match dx sh vals with|some dV=>_|none=>none)=_;split
 ·rename_i dV h;rw[h,oU];cases O.p g dV<;>rfl
 ·rename_i h;rw[h];rfl
def TH(n:Nat)(a:aG):Option (List AV×Sh×aG)->Option Out
 |some (rs,sh',ts)=>some ⟨sH (rs.map (cP n)),none,eP n sh',a++ts⟩
 |none=>none
theorem Jc{n:Nat}{a:aG}{rs:List AV}{sh':Sh}{ts:aG}:TH n a (some (rs,sh',ts))=some ⟨sH (rs.map (cP n)),none,eP n sh',a++ts⟩:=rfl
def GG(O:eZ)(g n:Nat)(q:List AV×Sh×aG×aG):Option Out:=TH n q.2.2.1 (O.i g q.1 q.2.1 q.2.2.2)
theorem LS{g n:Nat}{a:List AV}{s:Sh}{o t:aG}:GG O g n (a,s,o,t)=TH n o (O.i g a s t):=rfl
def wS(O:eZ)(g:Nat)(args:List AV)(sh:Sh)(aa:aG):Option Out:=
 if args.all bE=true then GG O g aa.length (ct aa args sh)else none
theorem LU{g:Nat}{args:List AV}:wS O g args sh aa=if args.all bE=true then GG O g aa.length (ct aa args sh)else none:=rfl
theorem mY{g:Nat}{own:List Nat}:(dZ O g own vals sh aa).map (fun(v,sh',ts)=>(⟨v,none,sh',ts⟩:Out))=wS O g (dS own 0 vals) sh aa:=by
 unfold dZ wS GG;split
 ·cases O.i g (ct aa (dS own 0 vals) sh).1 (ct aa (dS own 0 vals) sh).2.1 (ct aa (dS own 0 vals) sh).2.2.2 with
  |none=>rfl
  |some q=>obtain⟨a,b,c⟩:=q;rfl
 ·rfl
theorem DI{g:Nat}{own:List Nat}:exec O (.aY g own) vals cells sh aa=wS O g (dS own 0 vals) sh aa:=mY
theorem eT{g:Nat}{cap:List AV}:exec O .gD (.fn g cap::vals) cells sh aa=wS O g (dS [] 0 (vals++cap)) sh aa:=mY (vals:=vals++cap)
def Zi(sh:Sh):Option Out->Option Out
 |some o=>if nX o.sh sh=true then some ⟨o.val,none,sh,o.aa⟩else none
 |none=>none
theorem LV{v:AV}{c:Option (List AV)}{s:Sh}{t:aG}:Zi sh (some ⟨v,c,s,t⟩)=if nX s sh=true then some ⟨v,none,sh,t⟩else none:=rfl
theorem A8{g:Nat}{cap:List AV}:exec O .fU (.fn g cap::vals) cells sh aa=Zi sh (wS O g (dS [] 0 (vals++cap)) sh aa):=by
 rw[<-mY];simp only[exec];cases dZ O g [] (vals++cap) sh aa with
 |none=>rfl
 |some q=>obtain⟨v,s,t⟩:=q;rfl
theorem DJ:AK.key .fU=none:=rfl
theorem LW:vX [] []=true:=rfl
theorem Jd{a b:AV}{r q:List AV}:vX (a::r) (b::q)=(VE a b && vX r q):=rfl
theorem LX:nX [] []=true:=rfl
theorem Je{a b:List AV}{r q:Sh}:nX (some a::r) (some b::q)=(vX a b && nX r q):=rfl
def b2sO:Option (List UInt8)->Option AV
 |some s=>some (.pv (.str s))
 |none=>none
theorem b2sO_some{s:List UInt8}:b2sO (some s)=some (.pv (.str s)):=rfl
def YH(sh:Sh)(aa:aG):Option (List AV×Sh×aG)->Option Out
 |some (rs,[],ts)=>some ⟨sH (rs.map (cP aa.length)),none,sh,aa++ts⟩
 |_=>none
theorem Jf{rs:List AV}{ts:aG}:YH sh aa (some (rs,[],ts))=some ⟨sH (rs.map (cP aa.length)),none,sh,aa++ts⟩:=rfl
theorem DK{own:List Nat}{i:Nat}:dS own i []=[]:=rfl
theorem A9{own:List Nat}{i:Nat}{v:AV}{r:List AV}:dS own i (v::r)=(if own.contains i then v else lp v)::dS own (i+1) r:=rfl
theorem LY{p:PV}:lp (.pv p)=.pv p:=rfl
theorem Jg{l:List PV}:lp (.cQ l)=.pv (.aq l):=rfl
theorem Jh{l:List PV}{τ:Nat}:lp (.own l τ)=.pv (.aq l):=rfl
theorem DL{b o:Nat}:lp (.aI b o)=.aI b o:=rfl
theorem LZ{g:Nat}{cap:List AV}:lp (.fn g cap)=.fn g cap:=rfl
theorem DM{b s n:Nat}{ag:Bool}:lp (.bh b s n ag)=.bh b s n ag:=rfl
theorem DN{s:Nat}:lp (.jN s)=(.jN s):=rfl
def DO(cs:List AV):Option (List PV)->AV
 |some ps=>.pv (.agg ps)
 |none=>.agg cs
theorem Ji{cs:List AV}:lp (.agg cs)=DO cs (eA [] cs):=by
 have h:ej [] (.agg cs)=(eA [] cs).map .agg:=rfl;unfold lp DO;rw[h];cases eA [] cs<;>rfl
theorem A_{cs:List AV}{ps:List PV}:DO cs (some ps)=.pv (.agg ps):=rfl
def pM{α:Type}:Option α->Option (List α)->Option (List α)
 |some x,some l=>some (x::l)
 |_,_=>none
theorem DP{α:Type}{x:α}{l:List α}:pM (some x) (some l)=some (x::l):=rfl
theorem DR{env:List (Nat×AV)}:d_ env []=some []:=rfl
theorem Ba{env:List (Nat×AV)}{x:eM}{r:List eM}:d_ env (x::r)=pM (g_ env x) (d_ env r):=by
 simp only[d_];cases g_ env x<;>cases d_ env r<;>rfl
theorem PG{env:List (Nat×AV)}{n:Nat}:g_ env (.t n)=look env n:=rfl
theorem PH{env:List (Nat×AV)}{v:AV}:g_ env (.c v)=some v:=rfl
theorem L5:eY []=some []:=rfl
theorem qF{v:AV}{r:List AV}:eY (v::r)=pM (i5 v) (eY r):=by
 simp only[eY];cases i5 v<;>cases eY r<;>rfl
theorem DS:dx sh []=some []:=rfl
theorem Bb{v:AV}{r:List AV}:dx sh (v::r)=pM (ej sh v) (dx sh r):=by
 simp only[dx];cases ej sh v<;>cases dx sh r<;>rfl
theorem Jj:eA sh []=some []:=rfl
theorem DT{v:AV}{r:List AV}:eA sh (v::r)=if aZ v=true then pM (dX sh v) (eA sh r)else none:=by
 simp only[eA];split
 ·cases dX sh v<;>cases eA sh r<;>rfl
 ·rfl
theorem PI{p:PV}:i5 (.pv p)=some p:=rfl
theorem TI{p:PV}:ej sh (.pv p)=some p:=rfl
theorem PJ{l:List PV}:ej sh (.cQ l)=some (.aq l):=rfl
theorem PK{l:List PV}{τ:Nat}:ej sh (.own l τ)=some (.aq l):=rfl
def VQ:Option (List PV)->Option PV
 |some ps=>some (.agg ps)
 |none=>none
theorem Jk{ps:List PV}:VQ (some ps)=some (.agg ps):=rfl
theorem PL{cs:List AV}:ej sh (.agg cs)=VQ (eA sh cs):=by
 simp only[ej];cases eA sh cs<;>rfl
theorem DU{p:PV}:dX sh (.pv p)=some p:=rfl
theorem Bc{l:List PV}:dX sh (.cQ l)=some (.aq l):=rfl
theorem Be{l:List PV}{τ:Nat}:dX sh (.own l τ)=some (.aq l):=rfl
theorem L6{b o:Nat}:ej sh (.aI b o)=none:=rfl
def PM(sz n:Nat)(ag:Bool):Option (Option (List AV))->Option PV
 |some (some cells)=>if cells.length=n*sz then((eY cells).bind (gG sz ag n)).map .aq
   else if dE cells=false∧n*sz<=cells.length then((eY (cells.take (n*sz))).bind (gG sz ag n)).map .aq else none
 |_=>none
theorem yz{b sz n:Nat}{ag:Bool}:dX sh (.bh b sz n ag)=PM sz n ag sh[b]?:=rfl
theorem L7{b sz n:Nat}{ag:Bool}:ej sh (.bh b sz n ag)=PM sz n ag sh[b]?:=rfl
theorem Jl{sz n:Nat}{ag:Bool}{cells:List AV}:PM sz n ag (some (some cells))=if cells.length=n*sz then((eY cells).bind (gG sz ag n)).map .aq else if dE cells=false∧n*sz<=cells.length then((eY (cells.take (n*sz))).bind (gG sz ag n)).map .aq else none:=rfl
theorem L8{r:PV}:tI [r]=.pv r:=rfl
theorem L9{a b:PV}{r:List PV}:tI (a::b::r)=.qj (.pv a::.pv b::r.map .pv):=rfl
theorem L_{r:AV}:sH [r]=r:=rfl
theorem L':sH []=.qj []:=rfl
theorem Ma{a b:AV}{r:List AV}:sH (a::b::r)=.qj (a::b::r):=rfl
theorem Mb{xs:List AV}:ct aa xs sh=((bf aa [] xs).1,(bl (bf aa [] xs).2.1 (bf aa [] xs).2.2 sh).1,(bl (bf aa [] xs).2.1 (bf aa [] xs).2.2 sh).2.1,(bl (bf aa [] xs).2.1 (bf aa [] xs).2.2 sh).2.2):=rfl
theorem Jm{aL ts:aG}:bf aL ts []=([],aL,ts):=rfl
theorem ur{aL ts:aG}{v:AV}{r:List AV}:bf aL ts (v::r)=((bn aL ts v).1::(bf (bn aL ts v).2.1 (bn aL ts v).2.2 r).1,(bf (bn aL ts v).2.1 (bn aL ts v).2.2 r).2):=rfl
theorem Jn{aL ts:aG}:bl aL ts []=([],aL,ts):=rfl
theorem oV{aL ts:aG}{r:Sh}:bl aL ts (none::r)=(none::(bl aL ts r).1,(bl aL ts r).2):=rfl
theorem oW{aL ts:aG}{cs:List AV}{r:Sh}:bl aL ts (some cs::r)=(some (bf aL ts cs).1::(bl (bf aL ts cs).2.1 (bf aL ts cs).2.2 r).1,(bl (bf aL ts cs).2.1 (bf aL ts cs).2.2 r).2):=rfl
theorem Jo{aL ts:aG}:dj aL ts []=([],aL,ts):=rfl
theorem DV{aL ts:aG}{t:Nat}{v:AV}{r:List (Nat×AV)}:dj aL ts ((t,v)::r)=((t,(bn aL ts v).1)::(dj (bn aL ts v).2.1 (bn aL ts v).2.2 r).1,(dj (bn aL ts v).2.1 (bn aL ts v).2.2 r).2):=rfl
theorem Jp{aL ts:aG}:fZ aL ts []=([],aL,ts):=rfl
theorem DW{aL ts:aG}{t:Nat}{v:List AV}{r:List (Nat×List AV)}:fZ aL ts ((t,v)::r)=((t,(bf aL ts v).1)::(fZ (bf aL ts v).2.1 (bf aL ts v).2.2 r).1,(fZ (bf aL ts v).2.1 (bf aL ts v).2.2 r).2):=rfl
theorem Jq{aL ts:aG}{l:List PV}{τ:Nat}:bn aL ts (.own l τ)=if aL[τ]?=some l.length then(.own l ts.length,aL.set τ (l.length+1),ts++[l.length])else(.pv (.aq l),aL,ts):=rfl
theorem Jr{aL ts:aG}{l:List PV}:bn aL ts (.cQ l)=(.own l ts.length,aL,ts++[l.length]):=rfl
theorem Bf{aL ts:aG}{p:PV}:bn aL ts (.pv p)=(.pv p,aL,ts):=rfl
def DX(aL ts:aG)(p:List AV):Bool->AV×aG×aG
 |true=>(.agg p,aL,ts)
 |false=>(.agg (cI aL ts p).1,(cI aL ts p).2.1,(cI aL ts p).2.2)
theorem Js{aL ts:aG}{p:List AV}:bn aL ts (.agg p)=DX aL ts p (bq.dP p):=by
 simp only[bn];cases bq.dP p<;>rfl
theorem Bg{aL ts:aG}{p:List AV}:DX aL ts p true=(.agg p,aL,ts):=rfl
theorem yA{aL ts:aG}{p:List AV}:DX aL ts p false=(.agg (cI aL ts p).1,(cI aL ts p).2.1,(cI aL ts p).2.2):=rfl
theorem DY{aL ts:aG}:cI aL ts []=([],aL,ts):=rfl
theorem Bh{aL ts:aG}{v:AV}{r:List AV}:cI aL ts (v::r)=((eB aL ts v).1::(cI (eB aL ts v).2.1 (eB aL ts v).2.2 r).1,(cI (eB aL ts v).2.1 (eB aL ts v).2.2 r).2):=rfl
theorem Jt{aL ts:aG}{l:List PV}{τ:Nat}:eB aL ts (.own l τ)=if aL[τ]?=some l.length then(.own l ts.length,aL.set τ (l.length+1),ts++[l.length])else(.pv (.aq l),aL,ts):=rfl
theorem Md{aL ts:aG}{p:PV}:eB aL ts (.pv p)=(.pv p,aL,ts):=rfl
theorem DZ{aL ts:aG}{a b c:Nat}{d:Bool}:eB aL ts (.bh a b c d)=(.bh a b c d,aL,ts):=rfl
theorem D0{aL ts:aG}{a b:Nat}:bn aL ts (.au a b)=(.au a b,aL,ts):=rfl
theorem D4{aL ts:aG}{a b:Nat}:bn aL ts (.aI a b)=(.aI a b,aL,ts):=rfl
theorem D5{aL ts:aG}{a b c:Nat}{d:Bool}:bn aL ts (.bh a b c d)=(.bh a b c d,aL,ts):=rfl
theorem Me{aL ts:aG}{a:Nat}{c:List AV}:bn aL ts (.fn a c)=(.fn a c,aL,ts):=rfl
theorem D6{aL ts:aG}:bn aL ts .ic=(.ic,aL,ts):=rfl
theorem D7{s:Nat}{aL ts:aG}:bn aL ts (.jN s)=((.jN s),aL,ts):=rfl
theorem D9{s:List (PV×PV)}{aL ts:aG}:bn aL ts (.fM s)=((.fM s),aL,ts):=rfl
theorem PN{env:List (Nat×AV)}{mem:List (Nat×List AV)}:norm ⟨env,mem,sh,aa⟩=
   { env:=(dj aa [] env).1,
     mem:=(fZ (dj aa [] env).2.1 (dj aa [] env).2.2 mem).1,
     sh:=(bl (fZ (dj aa [] env).2.1 (dj aa [] env).2.2 mem).2.1 (fZ (dj aa [] env).2.1 (dj aa [] env).2.2 mem).2.2 sh).1,
     aa:=(bl (fZ (dj aa [] env).2.1 (dj aa [] env).2.2 mem).2.1 (fZ (dj aa [] env).2.1 (dj aa [] env).2.2 mem).2.2 sh).2.2}:=rfl
theorem Bi{live:List Nat}{env:List (Nat×AV)}{mem:List (Nat×List AV)}:restrict live ⟨env,mem,sh,aa⟩=⟨bz live env live,bG mem live,sh,aa⟩:=rfl
def Mf(live:List Nat)(t:Nat)(rest:List (Nat×AV)):Option AV->List (Nat×AV)
 |some v=>if gE live v=true then(t,v)::rest else rest
 |none=>rest
theorem Ea{live:List Nat}{t:Nat}{rest:List (Nat×AV)}{v:AV}:Mf live t rest (some v)=if gE live v=true then(t,v)::rest else rest:=rfl
theorem Eb{live:List Nat}{t:Nat}{rest:List (Nat×AV)}:Mf live t rest none=rest:=rfl
theorem sN{live:List Nat}{env:List (Nat×AV)}:bz live env []=[]:=rfl
theorem qG{live:List Nat}{env:List (Nat×AV)}{t:Nat}{r:List Nat}:bz live env (t::r)=Mf live t (bz live env r) (look env t):=by
 show (match look env t with|some v=>_|none=>_)=_;cases look env t<;>rfl
def Mg(t:Nat)(rest:List (Nat×List AV)):Option (List AV)->List (Nat×List AV)
 |some v=>(t,v)::rest
 |none=>rest
theorem Ec{t:Nat}{rest:List (Nat×List AV)}{v:List AV}:Mg t rest (some v)=(t,v)::rest:=rfl
theorem Ed{t:Nat}{rest:List (Nat×List AV)}:Mg t rest none=rest:=rfl
theorem sO{mem:List (Nat×List AV)}:bG mem []=[]:=rfl
theorem qH{mem:List (Nat×List AV)}{t:Nat}{r:List Nat}:bG mem (t::r)=Mg t (bG mem r) (look mem t):=by
 show (match look mem t with|some v=>_|none=>_)=_;cases look mem t<;>rfl
theorem Ee{live:List Nat}{d o:Nat}:gE live (.au d o)=live.contains d:=rfl
theorem Ju{live:List Nat}{l:List PV}{τ:Nat}:gE live (.own l τ)=true:=rfl
theorem Mh{live:List Nat}{p:PV}:gE live (.pv p)=true:=rfl
theorem Jv{live:List Nat}{l:List PV}:gE live (.cQ l)=true:=rfl
theorem Ef:gW []=true:=rfl
theorem Bj{v:AV}{r:List AV}:gW (v::r)=(oi v && gW r):=rfl
theorem Mi{p:PV}:oi (.pv p)=true:=rfl
theorem Jw{l:List PV}:oi (.cQ l)=true:=rfl
theorem Eg{live:List Nat}{a b:Nat}:gE live (.aI a b)=true:=rfl
theorem Eh{live:List Nat}{a b c:Nat}{d:Bool}:gE live (.bh a b c d)=true:=rfl
theorem Mj{live:List Nat}{a:Nat}{c:List AV}:gE live (.fn a c)=bq.dP c:=rfl
theorem Ei{live:List Nat}:gE live .ic=true:=rfl
theorem Ej{s:Nat}{live:List Nat}:gE live (.jN s)=true:=rfl
theorem look_nil{α:Type}{t:Nat}:look ([]:List (Nat×α)) t=none:=rfl
theorem Jy{α:Type}{k t:Nat}{v:α}{r:List (Nat×α)}:look ((k,v)::r) t=if k=t then some v else look r t:=rfl
theorem Mk{α:Type}{t:Nat}{v:α}:cN ([]:List (Nat×α)) t v=[(t,v)]:=rfl
theorem Jz{α:Type}{k t:Nat}{v u:α}{r:List (Nat×α)}:cN ((k,v)::r) t u=if k=t then(k,u)::r else(k,v)::cN r t u:=rfl
theorem JA{env:List (Nat×AV)}{d:Nat}{v:AV}:gJ env (some d) v=cN env d v:=rfl
theorem JB{env:List (Nat×AV)}{v:AV}:gJ env none v=env:=rfl
theorem JC{mem:List (Nat×List AV)}{k:Nat}{cs:List AV}:fY mem (some k) (some cs)=cN mem k cs:=rfl
theorem gr{mem:List (Nat×List AV)}{o:Option (List AV)}:fY mem none o=mem:=rfl
theorem Ek{mem:List (Nat×List AV)}{k:Nat}:fY mem (some k) none=mem:=rfl
theorem yB{i:Nat}:bK i []=[]:=rfl
theorem wh{i:Nat}{v:AV}{r:List AV}:bK i (v::r)=(i,v)::bK (i+1) r:=rfl
theorem Em{cs:List AV}:a6 (.agg cs)=cs:=rfl
theorem Bk{cs:List PV}:a6 (.pv (.agg cs))=cs.map .pv:=rfl
theorem Bl{b:Bool}:a6 (.pv (.bool b))=[.pv (.bool b)]:=rfl
theorem Eo{k:IntKind}{n:Int}:a6 (.pv (.int k n))=[.pv (.int k n)]:=rfl
theorem Ep{s:List UInt8}:a6 (.pv (.str s))=[.pv (.str s)]:=rfl
theorem Er{l:List PV}:a6 (.pv (.aq l))=[.pv (.aq l)]:=rfl
theorem Es{l:List PV}:a6 (.cQ l)=[.cQ l]:=rfl
theorem Et{l:List PV}{τ:Nat}:a6 (.own l τ)=[.own l τ]:=rfl
theorem Bm{a b c:Nat}{d:Bool}:a6 (.bh a b c d)=[.bh a b c d]:=rfl
theorem Eu{cs:List PV}:a9 (.agg cs)=cs:=rfl
theorem Bn{b:Bool}:a9 (.bool b)=[.bool b]:=rfl
theorem Ew{k:IntKind}{n:Int}:a9 (.int k n)=[.int k n]:=rfl
theorem Ey{s:List UInt8}:a9 (.str s)=[.str s]:=rfl
theorem Ez{l:List PV}:a9 (.aq l)=[.aq l]:=rfl
theorem EA{b:Bool}:aZ (.pv (.bool b))=true:=rfl
theorem JD{k:IntKind}{n:Int}:aZ (.pv (.int k n))=true:=rfl
theorem JE{s:List UInt8}:aZ (.pv (.str s))=true:=rfl
theorem JF{l:List PV}:aZ (.pv (.aq l))=true:=rfl
theorem JG{l:List PV}:aZ (.cQ l)=true:=rfl
theorem JH{l:List PV}{τ:Nat}:aZ (.own l τ)=true:=rfl
theorem EB{a b c:Nat}{d:Bool}:aZ (.bh a b c d)=true:=rfl
theorem Ml{v:AV}:dO v=aZ v:=rfl
theorem EC{a b:Nat}:bJ (.aI a b)=true:=rfl
theorem JI:bJ.iG []=true:=rfl
theorem ED{v:AV}{r:List AV}:bJ.iG (v::r)=(bJ v && bJ.iG r):=rfl
theorem JJ{l:List PV}{τ:Nat}:bE (.own l τ)=true:=rfl
theorem Mm{p:PV}:bE (.pv p)=true:=rfl
theorem JK{l:List PV}:bE (.cQ l)=true:=rfl
theorem EE{a b:Nat}:bE (.aI a b)=true:=rfl
theorem EF{a b c:Nat}{d:Bool}:bE (.bh a b c d)=true:=rfl
theorem EG:bE .ic=true:=rfl
theorem EH{s:Nat}:bE (.jN s)=true:=rfl
theorem Mn{a:Nat}{c:List AV}:bE (.fn a c)=bJ.iG c:=rfl
theorem JL{c:List AV}:bE (.agg c)=fW c:=rfl
theorem EI:fW []=true:=rfl
theorem Bo{v:AV}{r:List AV}:fW (v::r)=(lq v && fW r):=rfl
theorem JM{l:List PV}{τ:Nat}:lq (.own l τ)=true:=rfl
theorem Mo{p:PV}:lq (.pv p)=true:=rfl
theorem JN{l:List PV}:lq (.cQ l)=true:=rfl
theorem EJ{a b c:Nat}{d:Bool}:lq (.bh a b c d)=true:=rfl
theorem JO:bq.dP []=true:=rfl
theorem EK{v:AV}{r:List AV}:bq.dP (v::r)=(bq v && bq.dP r):=rfl
theorem Mp{p:PV}:bq (.pv p)=true:=rfl
theorem JP{l:List PV}:bq (.cQ l)=true:=rfl
theorem JQ{l:List PV}{τ:Nat}:bq (.own l τ)=false:=rfl
theorem EL{a b:Nat}:bq (.aI a b)=true:=rfl
theorem EM{a b c:Nat}{d:Bool}:bq (.bh a b c d)=true:=rfl
theorem JR{n:Nat}{p:PV}:aK n (.pv p)=true:=rfl
theorem EN{n:Nat}{l:List PV}:aK n (.cQ l)=true:=rfl
theorem EO{n:Nat}{l:List PV}{τ:Nat}:aK n (.own l τ)=true:=rfl
theorem Bp{n:Nat}:aK n .ic=true:=rfl
theorem Bq{n a b:Nat}:aK n (.aI a b)=decide (a<n):=rfl
theorem Bs{n a b c:Nat}{d:Bool}:aK n (.bh a b c d)=decide (a<n):=rfl
theorem JS{n a:Nat}{c:List AV}:aK n (.fn a c)=aK.cz n c:=rfl
theorem EP{n:Nat}{c:List AV}:aK n (.agg c)=aK.cz n c:=rfl
theorem Bt{n:Nat}:aK.cz n []=true:=rfl
theorem yC{n:Nat}{v:AV}{r:List AV}:aK.cz n (v::r)=(aK n v && aK.cz n r):=rfl
theorem ER{n τ:Nat}{l:List PV}:cP n (.own l τ)=.own l (τ+n):=rfl
theorem wT{n:Nat}{p:PV}:cP n (.pv p)=.pv p:=rfl
def yD(n:Nat)(p:List AV):Bool->AV
 |true=>.agg p
 |false=>.agg (p.map (jk n))
theorem ES{n:Nat}{p:List AV}:cP n (.agg p)=yD n p (bq.dP p):=by
 simp only[cP];cases bq.dP p<;>rfl
theorem yE{n:Nat}{p:List AV}:yD n p true=.agg p:=rfl
theorem wi{n:Nat}{p:List AV}:yD n p false=.agg (p.map (jk n)):=rfl
theorem ET{n τ:Nat}{l:List PV}:jk n (.own l τ)=.own l (τ+n):=rfl
theorem JT{n:Nat}{p:PV}:jk n (.pv p)=.pv p:=rfl
theorem Bu{n a b c:Nat}{d:Bool}:jk n (.bh a b c d)=.bh a b c d:=rfl
theorem Bv{n a b:Nat}:cP n (.aI a b)=.aI a b:=rfl
theorem JU{n a:Nat}{b:List AV}:cP n (.fn a b)=.fn a b:=rfl
theorem Bw{n a b c:Nat}{d:Bool}:cP n (.bh a b c d)=.bh a b c d:=rfl
theorem Bx{n:Nat}:cP n .ic=.ic:=rfl
theorem By{s:List (PV×PV)}{n:Nat}:cP n (.fM s)=(.fM s):=rfl
theorem EU{n:Nat}:eP n []=[]:=rfl
theorem rT{n:Nat}{r:Sh}:eP n (none::r)=none::eP n r:=rfl
theorem rU{n:Nat}{cs:List AV}{r:Sh}:eP n (some cs::r)=some (cs.map (cP n))::eP n r:=rfl
theorem wj{b:Bool}:bw.zeroCell (.bool b)=.pv (.bool b):=rfl
theorem yF{k:IntKind}{n:Int}:bw.zeroCell (.int k n)=.pv (.int k n):=rfl
theorem yG{s:List UInt8}:bw.zeroCell (.str s)=.pv (.str s):=rfl
theorem yH:bw.zeroCell (.aq [])=.cQ []:=rfl
theorem Bz{l:List PV}{τ:Nat}:cA (.own l τ)=[.own l τ]:=rfl
theorem EV{p:PV}:cA (.pv p)=a6 (.pv p):=rfl
theorem yI{a b c:Nat}{d:Bool}:cA (.bh a b c d)=[.bh a b c d]:=rfl
def GH(cs:List AV):Option (List PV)->List AV
 |some ps=>ps.map .pv
 |none=>cs
theorem BA{cs:List AV}:cA (.agg cs)=GH cs (eA [] cs):=by
 show (match ej [] (.agg cs)with|some p=>a6 (.pv p)|none=>a6 (.agg cs))=_;have h:ej [] (.agg cs)=(eA [] cs).map .agg:=rfl;unfold GH;rw[h];cases eA [] cs<;>rfl
theorem EW{cs:List AV}{ps:List PV}:GH cs (some ps)=ps.map .pv:=rfl
theorem uu{cs:List AV}:GH cs none=cs:=rfl
theorem VS{o:Pg}:AK.key (.v o)=none:=rfl
theorem JV{k o s:Nat}{a:Bool}:AK.key (.cg k o s a)=some k:=rfl
theorem EX{k o s:Nat}:AK.key (.bB k o s)=some k:=rfl
theorem JW{k:Nat}{z:List PV}:AK.key (.alloc k z)=some k:=rfl
theorem PO{k s:Nat}:AK.key (.box k s)=some k:=rfl
theorem JY{s:Nat}{a:Bool}:AK.key (.dH s a)=none:=rfl
theorem EY{s:Nat}:AK.key (.et s)=none:=rfl
theorem Mq{s:Nat}:AK.key (.qn s)=none:=rfl
theorem EZ{s:List PV}:AK.key (.fR s)=none:=rfl
theorem JZ{s b:Nat}{a:Bool}{z:List PV}:AK.key (.lh s b a z)=none:=rfl
theorem BB{s b:Nat}{ag:Bool}:AK.key (.dN s b ag)=none:=rfl
theorem E_{s b:Nat}:AK.key (.append s b)=none:=rfl
theorem J0{g:Nat}:AK.key (.aH g)=none:=rfl
theorem Fa{g:Nat}:AK.key (.dd g)=none:=rfl
theorem J3{g:Nat}{o:List Nat}:AK.key (.aY g o)=none:=rfl
theorem J4{sz bytes:Nat}:(AK.clone sz bytes).key=none:=rfl
theorem J5:AK.key .gD=none:=rfl
theorem bind_none{f:Nat->Option (List AV)}:(none:Option Nat).bind f=none:=rfl
theorem bind_some{f:Nat->Option (List AV)}{n:Nat}:(some n).bind f=f n:=rfl
theorem Fb{sz off:Nat}{cs:List AV}:bY true sz cs off=if off+sz<=cs.length then some (.agg ((cs.drop off).take sz))else none:=rfl
theorem BC{off:Nat}{cs:List AV}:bY false 1 cs off=if off+1<=cs.length then cs[off]? else none:=rfl
theorem BD{sz:Nat}{cs:List PV}:cH true sz cs=if sz<=cs.length then some (.pv (.agg (cs.take sz)))else none:=rfl
theorem yJ{c:PV}{cs:List PV}:cH false 1 (c::cs)=some (.pv c):=by simp[cH]
theorem aS{cs vs:List AV}{off:Nat}:a0 cs off vs=cs.take off++vs++cs.drop (off+vs.length):=rfl
theorem TJ{x:AV}:bw .mv [x]=some x:=rfl
theorem Mr{c:Bool}{a b:AV}:bw .pick [.pv (.bool c),a,b]=if c=true then some a else some b:=by cases c<;>rfl
theorem PQ{i:Nat}{vs:List AV}:bw (.ext i) [.qj vs]=vs[i]?:=rfl
theorem Fe{off sz:Nat}{ag:Bool}{cs:List PV}:bw (.field off sz ag) [.pv (.agg cs)]=cH ag sz (cs.drop off):=rfl
theorem Ff{off d o:Nat}:bw (.iF off) [.au d o]=some (.au d (o+off)):=rfl
theorem Fg{off d o:Nat}:bw (.iF off) [.aI d o]=some (.aI d (o+off)):=rfl
theorem Fh{off:Nat}{cs:List PV}:bw (.iF off) [.dQ cs]=some (.dQ (cs.drop off)):=rfl
def yK(sz:Nat):Option PV->Option AV
 |some el=>if(a9 el).length=sz then some (.dQ (a9 el))else none
 |none=>none
theorem BE{sz:Nat}{el:PV}:yK sz (some el)=if(a9 el).length=sz then some (.dQ (a9 el))else none:=rfl
theorem J6{sz:Nat}{l:List PV}{k:IntKind}{i:Int}:bw (.eX sz) [.pv (.aq l),.pv (.int k i)]=if i<0 then none else yK sz l[i.toNat]?:=by
 show (if i<0 then none else _)=_;split
 ·rfl
 ·show(match l[i.toNat]? with|some el=>_|none=>_)=_;cases l[i.toNat]?<;>rfl
theorem Fj{sz:Nat}{l:List PV}{k:IntKind}{i:Int}:bw (.eX sz) [.cQ l,.pv (.int k i)]=if i<0 then none else yK sz l[i.toNat]?:=by
 show (if i<0 then none else _)=_;split
 ·rfl
 ·show(match l[i.toNat]? with|some el=>_|none=>_)=_;cases l[i.toNat]?<;>rfl
theorem Fl{sz τ:Nat}{l:List PV}{k:IntKind}{i:Int}:bw (.eX sz) [.own l τ,.pv (.int k i)]=if i<0 then none else yK sz l[i.toNat]?:=by
 show (if i<0 then none else _)=_;split
 ·rfl
 ·show(match l[i.toNat]? with|some el=>_|none=>_)=_;cases l[i.toNat]?<;>rfl
theorem Fm{sz b a n:Nat}{ag:Bool}{k:IntKind}{i:Int}:bw (.eX sz) [.bh b a n ag,.pv (.int k i)]=if i<0 then none else if sz=a∧i.toNat<n then some (.aI b (i.toNat*sz))else none:=rfl
def RF:Option UInt8->Option AV
 |some b=>some (.pv (.int .u8 b.toNat))
 |none=>none
theorem Fp{b:UInt8}:RF (some b)=some (.pv (.int .u8 b.toNat)):=rfl
theorem J7{s:List UInt8}{k:IntKind}{i:Int}:bw .index [.pv (.str s),.pv (.int k i)]=if i<0 then none else RF s[i.toNat]?:=by
 show (if i<0 then none else _)=_;cases s[i.toNat]?<;>rfl
def VT:Option (List AV)->Option AV
 |some cs=>some (.agg cs)
 |none=>none
theorem J8{cs:List AV}:VT (some cs)=some (.agg cs):=rfl
theorem J9{zero:List PV}{places:List (Nat×Nat)}:bw (.build zero places) vals=VT (mz (zero.map bw.zeroCell) places vals):=by
 show (mz _ _ _).map _=_;cases mz (zero.map bw.zeroCell) places vals<;>rfl
theorem J_{cs:List AV}:mz cs [] []=some cs:=rfl
theorem Fq{cs:List AV}{off sz:Nat}{ps:List (Nat×Nat)}{v:AV}{vs:List AV}:mz cs ((off,sz)::ps) (v::vs)=
   if (a6 v).length=sz∧off+sz<=cs.length∧(a6 v).all aZ=true then mz (a0 cs off (a6 v)) ps vs else none:=rfl
def VU(sz:Nat):Option (List PV)->Option AV
 |some els=>if els.all (fun e=>(a9 e).length == sz)then some (.cQ els)else none
 |none=>none
theorem J'{sz:Nat}{els:List PV}:VU sz (some els)=if els.all (fun e=>(a9 e).length == sz)then some (.cQ els)else none:=rfl
theorem Fs{sz:Nat}:bw (.dR sz) vals=VU sz (dx [] vals):=by
 show (dx [] vals).bind _=_;cases dx [] vals<;>rfl
theorem Ka{sz:Nat}{ag:Bool}{cs:List PV}:bw (.gC sz ag) [.dQ cs]=cH ag sz cs:=rfl
theorem PR{l:List PV}:bw .len [.pv (.aq l)]=some (.pv (.int .i64 l.length)):=rfl
theorem Ms{l:List PV}:bw .len [.cQ l]=some (.pv (.int .i64 l.length)):=rfl
theorem Mu{l:List PV}{τ:Nat}:bw .len [.own l τ]=some (.pv (.int .i64 l.length)):=rfl
theorem Mv{a b n:Nat}{d:Bool}:bw .len [.bh a b n d]=some (.pv (.int .i64 n)):=rfl
theorem Mw{s:List UInt8}:bw .CW [.pv (.str s)]=some (.pv (.int .i64 s.length)):=rfl
theorem Mx{a b:Nat}:bw .qm [.aI a b]=some (.aI a b):=rfl
theorem TK{k k':IntKind}{x y:Int}:bw .mn [.pv (.int k x),.pv (.int k' y)]=if k=k' then some (.pv (.int k (if y<x then y else x)))else none:=rfl
theorem TN{k k':IntKind}{x y:Int}:bw .mx [.pv (.int k x),.pv (.int k' y)]=if k=k' then some (.pv (.int k (if y > x then y else x)))else none:=rfl
theorem My{g:Nat}:bw (.sF g) vals=some (.fn g vals):=by cases vals<;>rfl
theorem Mz{k k':IntKind}{n:Int}:bw (.conv k) [.pv (.int k' n)]=some (.pv (.int k (k.wrap n))):=rfl
theorem PS{b:Bool}:bw (.un .not) [.pv (.bool b)]=some (.pv (.bool !b)):=rfl
theorem PT{k:IntKind}{n:Int}:bw (.un .neg) [.pv (.int k n)]=some (.pv (.int k (k.wrap (0-n)))):=rfl
theorem PU{a b:Bool}:bw (.beq false) [.pv (.bool a),.pv (.bool b)]=some (.pv (.bool (a == b))):=rfl
theorem PW{a b:Bool}:bw (.beq true) [.pv (.bool a),.pv (.bool b)]=some (.pv (.bool !(a == b))):=rfl
theorem PX{k:IntKind}{a b:Int}:bw (.bin .add) [.pv (.int k a),.pv (.int k b)]=some (.pv (.int k (k.wrap (a+b)))):=by simp[bw,cG]
theorem PY{k:IntKind}{a b:Int}:bw (.bin .sub) [.pv (.int k a),.pv (.int k b)]=some (.pv (.int k (k.wrap (a-b)))):=by simp[bw,cG]
theorem PZ{k:IntKind}{a b:Int}:bw (.bin .rem) [.pv (.int k a),.pv (.int k b)]=if b=0 then none else some (.pv (.int k (a.tmod b))):=by simp[bw,cG]
theorem P0{k:IntKind}{a b:Int}:bw (.bin .eql) [.pv (.int k a),.pv (.int k b)]=some (.pv (.bool (a == b))):=by simp[bw,cG]
theorem P1{k:IntKind}{a b:Int}:bw (.bin .neq) [.pv (.int k a),.pv (.int k b)]=some (.pv (.bool (a != b))):=by simp[bw,cG]
theorem P2{k:IntKind}{a b:Int}:bw (.bin .lss) [.pv (.int k a),.pv (.int k b)]=some (.pv (.bool (decide (a<b)))):=by simp[bw,cG]
theorem P3{k:IntKind}{a b:Int}:bw (.bin .leq) [.pv (.int k a),.pv (.int k b)]=some (.pv (.bool (decide (a<=b)))):=by simp[bw,cG]
theorem P4{k:IntKind}{a b:Int}:bw (.bin .gtr) [.pv (.int k a),.pv (.int k b)]=some (.pv (.bool (decide (a > b)))):=by simp[bw,cG]
theorem P5{k:IntKind}{a b:Int}:bw (.bin .geq) [.pv (.int k a),.pv (.int k b)]=some (.pv (.bool (decide (a>=b)))):=by simp[bw,cG]
theorem P6{k:IntKind}{a b:Int}:bw (.bin .and) [.pv (.int k a),.pv (.int k b)]=some (.pv (.int k (k.wrap (BitVec.ofInt k.bits a &&& BitVec.ofInt k.bits b).toNat))):=by simp[bw,cG]
theorem P7{k k':IntKind}{a b:Int}:bw (.bin .shr) [.pv (.int k a),.pv (.int k' b)]=if b<0 then none else some (.pv (.int k (a.fdiv (2 ^ (min b.toNat k.bits))))):=by simp[bw,cG]
theorem P8{a b:List UInt8}:bw (.bin .add) [.pv (.str a),.pv (.str b)]=if a.length+b.length<=9223372036854775807 then some (.pv (.str (a++b)))else none:=rfl
theorem MA{a b:List UInt8}:bw (.bin .eql) [.pv (.str a),.pv (.str b)]=some (.pv (.bool (a == b))):=rfl
theorem MB{a b:List UInt8}:bw (.bin .neq) [.pv (.str a),.pv (.str b)]=some (.pv (.bool (!(a == b)))):=rfl
theorem MC{a b:List UInt8}:bw (.bin .lss) [.pv (.str a),.pv (.str b)]=some (.pv (.bool (cG.ep a b))):=rfl
theorem MD{a b:List UInt8}:bw (.bin .gtr) [.pv (.str a),.pv (.str b)]=some (.pv (.bool (!(cG.ep a b || a == b)))):=rfl
theorem Kb{sz:Nat}{lo hi mx:Bool}{x:AV}{rest:List AV}:bw (.slice false sz lo hi mx) (x::rest)=cX false sz lo hi mx (x::rest):=rfl
theorem Ft{sz:Nat}{lo hi mx:Bool}{x:AV}{rest:List AV}:bw (.slice true sz lo hi mx) (x::rest)=cX true sz lo hi mx (x::rest):=rfl
def kY(aW ks:Bool)(a sh:Sh)(aa:aG):Option (List AV)->Option (List AV×Sh×aG)
 |some vs=>if(cp aW ks sh vs).all bE=true then
  some ((ct aa (cp aW ks sh vs) (if(cp aW ks sh vs).all (aK a.length)=true then(fF aW ks sh vs).take a.length else fF aW ks sh vs)).1,
    (ct aa (cp aW ks sh vs) (if(cp aW ks sh vs).all (aK a.length)=true then(fF aW ks sh vs).take a.length else fF aW ks sh vs)).2.1,
    (ct aa (cp aW ks sh vs) (if(cp aW ks sh vs).all (aK a.length)=true then(fF aW ks sh vs).take a.length else fF aW ks sh vs)).2.2.2)else none
 |none=>none
theorem BF{aW ks:Bool}{a:Sh}{vs:List AV}:kY aW ks a sh aa (some vs)=if(cp aW ks sh vs).all bE=true then
 some ((ct aa (cp aW ks sh vs) (if(cp aW ks sh vs).all (aK a.length)=true then(fF aW ks sh vs).take a.length else fF aW ks sh vs)).1,
   (ct aa (cp aW ks sh vs) (if(cp aW ks sh vs).all (aK a.length)=true then(fF aW ks sh vs).take a.length else fF aW ks sh vs)).2.1,
   (ct aa (cp aW ks sh vs) (if(cp aW ks sh vs).all (aK a.length)=true then(fF aW ks sh vs).take a.length else fF aW ks sh vs)).2.2.2)else none:=rfl
def fin(aW ks:Bool)(rs:List qo)(a:Sh):Option (aR×St)->Option (List AV×Sh×aG)
 |some (.ret,st)=>kY aW ks a st.sh st.aa (eC st rs)
 |some (.normal,st)=>kY aW ks a st.sh st.aa (eC st rs)
 |_=>none
theorem P9{aW ks:Bool}{rs:List qo}{a:Sh}{st:St}:fin aW ks rs a (some (.ret,st))=kY aW ks a st.sh st.aa (eC st rs):=rfl
theorem Fu{aW ks:Bool}{rs:List qo}{a:Sh}{st:St}:fin aW ks rs a (some (.normal,st))=kY aW ks a st.sh st.aa (eC st rs):=rfl
theorem P_{aW ks:Bool}{rs:List qo}{a:Sh}{c:Prop}[Decidable c]{x y:Option (aR×St)}:fin aW ks rs a (if c then x else y)=if c then fin aW ks rs a x else fin aW ks rs a y:=by split<;>rfl
theorem wU{aW:Bool}{af:aw}{a:Sh}{r:Option (aR×St)}:finish aW af a r=fin aW af.ks af.results a r:=by
 cases r with
 |none=>rfl
 |some q=>
  obtain⟨e,st⟩:=q;cases e with
  |ret=>simp only[finish,fin];cases eC st af.results<;>simp[kY]
  |normal=>simp only[finish,fin];cases eC st af.results<;>simp[kY]
  |exit id=>simp[finish,fin]
theorem Fv{st:St}:eC st []=some []:=rfl
theorem BG{st:St}{r:qo}{rs:List qo}:eC st (r::rs)=pM (rf st r) (eC st rs):=by
 simp only[eC];cases rf st r<;>cases eC st rs<;>rfl
theorem P'{st:St}{n:Nat}:rf st (.t n)=look st.env n:=rfl
def nH(key sz:Nat)(ag:Bool)(mem:List (Nat×List AV))(sh:Sh):Option AV->Option AV
 |some (.au d 0)=>yL key d sz ag (look mem key)
 |some (.aI s 0)=>um ag sz 0 sh[s]?
 |_=>none
where yL (key d sz:Nat) (ag:Bool):Option (List AV)->Option AV
 |some cs=>if d=key then bY ag sz cs 0 else none
 |none=>none
theorem Qa{st:St}{key sz:Nat}{ag:Bool}:rf st (.c key sz ag)=nH key sz ag st.mem st.sh (look st.env key):=by
 simp only[rf];unfold nH;split
 ·rename_i h;rw[h];rfl
 ·rename_i h;rw[h];rfl
 ·rename_i h1 h2;split
  ·rename_i d e;exact absurd e (h1 d)
  ·rename_i s e;exact absurd e (h2 s)
  ·rfl
theorem yM{key sz d:Nat}{ag:Bool}{mem:List (Nat×List AV)}:nH key sz ag mem sh (some (.au d 0))=nH.yL key d sz ag (look mem key):=rfl
theorem yN{key sz d:Nat}{ag:Bool}{cs:List AV}:nH.yL key d sz ag (some cs)=if d=key then bY ag sz cs 0 else none:=rfl
theorem BH{key sz s:Nat}{ag:Bool}{mem:List (Nat×List AV)}:nH key sz ag mem sh (some (.aI s 0))=um ag sz 0 sh[s]?:=rfl
theorem yP{vs:List AV}{ks:Bool}:cp false ks sh vs=vs.map (lr sh):=rfl
theorem BI{vs:List AV}:cp true false sh vs=vs.map (mG sh):=rfl
theorem Kc{vs:List AV}:cp true true sh vs=vs:=rfl
theorem BK{vs:List AV}{ks:Bool}:fF false ks sh vs=eN sh vs:=rfl
theorem Fw{vs:List AV}:fF true false sh vs=eN sh vs:=rfl
theorem ME{vs:List AV}:fF true true sh vs=sh:=rfl
def TO(v:AV):Option PV->AV
 |some p=>.pv p
 |none=>v
theorem Kd{v:AV}{p:PV}:TO v (some p)=.pv p:=rfl
theorem MF{v:AV}:lr sh v=TO v (ej sh v):=rfl
theorem MG{l:List PV}:mG sh (.cQ l)=.cQ l:=rfl
theorem MH{l:List PV}{τ:Nat}:mG sh (.own l τ)=.own l τ:=rfl
theorem MI{cs:List AV}:mG sh (.agg cs)=.agg (cs.map (qq sh)):=rfl
theorem Qb{p:PV}:mG sh (.pv p)=.pv p:=rfl
theorem Ke{a b:Nat}:mG sh (.aI a b)=.aI a b:=rfl
theorem Qc{a:Nat}{b:List AV}:mG sh (.fn a b)=.fn a b:=rfl
theorem Kf:mG sh .ic=.ic:=rfl
theorem MJ{l:List PV}:qq sh (.cQ l)=.cQ l:=rfl
theorem MK{l:List PV}{τ:Nat}:qq sh (.own l τ)=.pv (.aq l):=rfl
theorem Kg{b:Bool}:qq sh (.pv (.bool b))=.pv (.bool b):=rfl
theorem ML{k:IntKind}{n:Int}:qq sh (.pv (.int k n))=.pv (.int k n):=rfl
theorem MM{s:List UInt8}:qq sh (.pv (.str s))=.pv (.str s):=rfl
theorem MN{l:List PV}:qq sh (.pv (.aq l))=.pv (.aq l):=rfl
theorem Kh{a b c:Nat}{d:Bool}:qq sh (.bh a b c d)=TO (.bh a b c d) (ej sh (.bh a b c d)):=rfl
theorem Fx{vs:List AV}:eN sh vs=kill sh (vs.flatMap gN):=rfl
theorem MO:kill sh []=sh:=rfl
theorem Ki{b:Nat}{l:List Nat}:kill sh (b::l)=kill (sh.set b none) l:=rfl
theorem Kj{a b c:Nat}{d:Bool}:gN (.bh a b c d)=[a]:=rfl
theorem Qd{p:PV}:gN (.pv p)=[]:=rfl
theorem MP{l:List PV}{τ:Nat}:gN (.own l τ)=[]:=rfl
theorem MQ{l:List PV}:gN (.cQ l)=[]:=rfl
theorem Kk{a b:Nat}:gN (.aI a b)=[]:=rfl
theorem Qe{a:Nat}{b:List AV}:gN (.fn a b)=[]:=rfl
theorem Kl:gN .ic=[]:=rfl
def rV:AV->List Nat
 | .bh b _ _ _=>[b]
 |_=>[]
theorem MR{cs:List AV}:gN (.agg cs)=cs.flatMap rV:=by
 show cs.flatMap _=cs.flatMap rV;congr 1
theorem Fy{a b c:Nat}{d:Bool}:rV (.bh a b c d)=[a]:=rfl
theorem MS{p:PV}:rV (.pv p)=[]:=rfl
theorem Km{l:List PV}{τ:Nat}:rV (.own l τ)=[]:=rfl
theorem Ko{l:List PV}:rV (.cQ l)=[]:=rfl
theorem Fz:fp []=some []:=rfl
theorem BL{p:PV}{r:List AV}:fp (.pv p::r)=pM (some p) (fp r):=by
 simp only[fp];cases fp r<;>rfl
def jG:Option (List AV×Sh×aG)->Option (List PV)
 |some (rs,_,_)=>fp rs
 |none=>none
theorem yQ{rs:List AV}{t:aG}:jG (some (rs,sh,t))=fp rs:=rfl
theorem BM{c:Prop}[Decidable c]{x y:Option (List AV×Sh×aG)}:jG (if c then x else y)=if c then jG x else jG y:=by split<;>rfl
theorem l_{g:Nat}{af:aw}{x:List PV}(a:AP g=some af)(h1:x.length=af.nparams)(h2:af.nparams<=af.ntmps)(hp:af.qp=none:=by rfl):
   (aC AP).p g x=jG (fin false af.ks af.results [] (cl AP af.body ⟨bK 0 (x.map .pv),[],[],[]⟩)):=by
 rw[RC a hp h1 (by omega)];unfold ot jG;rw[wU];cases fin false af.ks af.results [] (cl AP af.body ⟨bK 0 (x.map .pv),[],[],[]⟩)<;>rfl
theorem eU{g:Nat}{af:aw}{x:List AV}{ts:aG}(a:AP g=some af)(h2:x.length<=af.ntmps):
   (aC AP).i g x sh ts=fin true af.ks af.results sh (cl AP af.body ⟨bK 0 x,[],sh,ts⟩):=by
 rw[RD a h2,<-wU];rfl
theorem az{g:Nat}(af:aw){x:List PV}(a:AP g=some af:=by rfl)(h1:x.length=af.nparams:=by rfl)(h2:af.nparams<=af.ntmps:=by decide)(hp:af.qp=none:=by rfl):
   (aC AP).p g x=jG (fin false af.ks af.results [] (cl AP af.body ⟨bK 0 (x.map .pv),[],[],[]⟩)):=l_ a h1 h2 hp
theorem aA{g:Nat}(af:aw){x:List AV}{ts:aG}(a:AP g=some af:=by rfl)(h2:Nat.ble x.length af.ntmps=true:=by rfl):
   (aC AP).i g x sh ts=fin true af.ks af.results sh (cl AP af.body ⟨bK 0 x,[],sh,ts⟩):=eU a (Nat.le_of_ble_eq_true h2)
end
attribute [simp] IJ A1 IK A3 Dw LF Iv AT Iw AU Dl ym Iy Dm Iz yn IA Dn IB IC Dp yp AW Dq Lz PB VM PC LA LB IF IG AY Dr Du II TB iL jb j8 mQ AZ rS A0 pL jc nA LD nv kH lT IS LH kI wg IT IU LQ I_ Ja DG A6 Jb oU DH A7 Jc LS LU DI eT DK A9 LY Jg Jh DL LZ DM Ji A_ DP DR Ba PG PH L5 qF DS Bb Jj DT PI TI PJ PK Jk PL DU Bc Be L6 yz L7 Jl L8 L9 L_ L' Ma Mb Jm ur Jn oV oW Jo DV Jp DW Jq Jr Bf Js D0 D4 D5 Me D6 PN Bi Ea Eb sN qG Ec Ed sO qH Ee Ju Mh Jv Eg Eh Mj Ei look_nil Jy Mk Jz JA JB JC gr Ek yB wh Em Bk Bl Eo Ep Er Es Et Bm Eu Bn Ew Ey Ez EA JD JE JF JG JH EB Ml EC JI ED JJ Mm JK EE EF EG Mn JL JO EK Mp JP JQ EL EM JR EN EO Bp Bq Bs JS EP Bt yC ER wT ES Bv JU Bw Bx EU rT rU wj yF yG yH Bz EV yI BA EW uu VS JV EX JW PO JY EY Mq EZ JZ E_ J0 Fa J3 J5 DJ LV A8 LW Jd LX Je b2sO_some bind_none bind_some Fb BC BD yJ aS TJ Mr PQ Fe Ff Fg Fh BE J6 Fj Fl Fm Fp J7 J8 J9 J_ Fq J' Fs Ka PR Ms Mu Mv Mw Mx TK TN My Mz PS PT PU PW PX PY PZ P0 P1 P2 P3 P4 P5 P6 P7 P8 MA MB MC MD Kb Ft BF P9 Fu P_ Fv BG P' Qa yM yN BH yP BI Kd MF MG MH MI Qb Ke Qc Kf MJ MK Kg ML MM MN Kh Fx MO Ki Kj Qd MP MQ Kk Qe Kl MR Fy MS Km Ko Fz BL yQ BM DN D7 D9 Ej EH By PD LG IL oJ yu we Dx IM IN J4 Jf Bg yA DY Bh Jt Md DZ Ef Bj Mi Jw EI Bo JM Mo JN EJ yE wi ET JT Bu Kc BK Fw ME IV Dy lU A4 LJ LK IW PE LP I0 I2 I6 I7 IY DA IZ LO IX DB DC Tv BB I8 A5 yx yy DE I9 DD DF Tz Pw Px Tw Lx List.getElem?_cons_zero
theorem ah{n:Int}(h1:-9223372036854775808<=n)(h2:n<=9223372036854775807):IntKind.i64.wrap n=n:=by
 simp[IntKind.wrap,IntKind.bits,IntKind.signed];omega
end Go.Ab.Ev
namespace Go.Ab
open Ev
structure pN(P:Program)(ns:Names)(f sz:Nat)(ag:Bool) where
 fn:Func
 A:mA
 o0:Array Oper
 o1:Array Oper
 o2:Array Oper
 m0:Oper
 RG:List Oper
 y:Oper
 nt:Oper
 r0:Nat
 r1:Nat
 r2:Nat
 r3:Nat
 b0:Nat
 b1:Nat
 types:Array TypeId
 tb:TypeId
 hf:P.funcs[f]?=some fn
 uv:fn.body=some (.seq (.region r0 o0 false) (.block b0 (.loop (.seq (.seq (.region r1 o1 false) (.cond (.tmp 8) .skip (.exit b0)))
   (.seq (.block b1 (.seq (.region r3 (m0::RG++[y,nt]).toArray false) (.cond (.tmp 18) .ret .skip))) (.region r2 o2 false))))))
 ie:fn.results=#[]
 hN:fn.ntmps=19
 c0:dm (gK P ns A 19 o0) o0.toList=some [⟨some 4,none,[.t 1],.v (.gC 1 false)⟩,⟨some 5,none,[.t 4],.v .len⟩,⟨some 6,none,[.t 5,.c (.pv (.int .i64 1))],.v (.bin .sub)⟩,⟨some 3,none,[.t 6],.v .mv⟩]
 c1:dm (gK P ns A 19 o1) o1.toList=some [⟨some 7,none,[.t 3],.v .mv⟩,⟨some 8,none,[.t 7,.c (.pv (.int .i64 0))],.v (.bin .geq)⟩]
 c2:dm (gK P ns A 19 o2) o2.toList=some [⟨some 9,none,[.t 3],.v .mv⟩,⟨some 10,none,[.t 9,.c (.pv (.int .i64 1))],.v (.bin .sub)⟩,⟨some 3,none,[.t 10],.v .mv⟩]
 h0:m0.op=.move (.tmp 0)∧m0.dst=some 11∧m0.guard=none
 c3:dm (gK P ns A 19 (m0::RG++[y,nt]).toArray) RG=some [⟨some 12,none,[.t 3],.v .mv⟩,⟨some 13,none,[.t 1],.v (.gC 1 false)⟩,⟨some 14,none,[.t 3],.v .mv⟩,⟨some 15,none,[.t 13,.t 14],.v (.eX sz)⟩,⟨some 16,none,[.t 15],.v (.gC sz ag)⟩]
 hy:y.op=.call {callee:=.value (.tmp 11),args:=#[.tmp 12,.tmp 16],argTypes:=types}∧y.dst=some 17∧y.guard=none
 hn:nt.op=.unOp .not tb (.tmp 17)∧nt.dst=some 18∧nt.guard=none
section
variable {P:Program} {ns:Names}
theorem iN{n0:Nat}{ro:Option Nat}{n:Nat}(D:iM P ns){orc:eZ}(f:kJ P ns orc){A:mA}{N:Nat}{ops:Array Oper}{Q:Exit->Act->World->Prop}{rest:List Oper}:∀{l:List Oper}{as:List dI}{st c:St}{G:Gh}{a:Act}{w:World},
   dm (gK P ns A N ops) l=some as->ik (num ns) n0 N G st a w->br orc as st=some c->
   (∀G' q w',ik (num ns) n0 N G' c q w'->bL G w G' w'->q.defers=a.defers->(∀t,(∀p∈as,p.dst≠some t)->q.tmps[t]?=a.tmps[t]?)->wpListIn (sX ro) n P ops Q rest q w')->wpListIn (sX ro) n P ops Q (l++rest) a w
 |[],as,st,c,G,a,w,g,hs,b,u=>by
  simp[dm]at g;subst g;simp[br]at b;subst b;exact u G a w hs (bL.refl G w) rfl (fun _ _=>rfl)
 |o::l,as,st,c,G,a,w,g,hs,b,u=>by
  simp only[dm]at g;split at g
  ·rename_i p J h1 h2;simp at g;subst g;simp only[br]at b;split at b
   ·simp at b
   ·rename_i E j;rw[za5];unfold wpListIn;have hd:p.dst=o.dst:=by obtain⟨_,_,_,h,_⟩:=l7 h1;exact h
    have m:∀(a:Act)(v:Value) t,p.dst≠some t->(a.put o.dst v).tmps[t]?=a.tmps[t]?:=by
     intro a v t i;rw[hd]at i;cases F:o.dst with
     |none=>rfl
     |some d=>
      rw[F]at i;simp only[Act.put];rw[zay];intro e;exact i (by rw[e])
    exact yl D f h1 hs j (fun G' v w' s I=>iN D f h2 s b (fun C B r k x y H=>u C B r k (I.trans x) (y.trans (put_defers _ _ _)) (fun t i=>by
     rw[H t (fun z h=>i z (by simp[h]))];exact m a v t (i p (by simp)))))
  ·simp at g
theorem qI{F:Fence}{n:Nat}{ops:Array Oper}{Q:Exit->Act->World->Prop}{rest:List Oper}{o:Oper}{x:Operand}{a:Act}{w:World}(g:∀f,F.fn f)(b:o.op=.move x)(d:o.guard=none)
   (h:wpListIn F n P ops Q rest (a.put o.dst (a.eval x)) w):wpListIn F n P ops Q (o::rest) a w:=by
 unfold wpListIn;have hw:Region.wanted o (yielded ops a.tmps)=true:=by simp[Region.wanted,d]
 rw[zak hw];refine⟨fun _ _=>g _,?_⟩;rw[zca _ _ _ (by intro c e;rw[b]at e;cases e)]
 have hr:(execOp a.eval o).run P w=.ok (.value (a.eval x)) w:=by
  obtain⟨dst,op,type,pos,after,guard⟩:=o;simp only at b;subst b;simp[execOp]
 rw[hr];exact h
theorem FB{F:Fence}{n l:Nat}{ops:Array Oper}{Q:Exit->Act->World->Prop}{rest:List Oper}{o:Oper}{types:Array TypeId}{a:Act}{w:World}{x y:Value}(r:∀f,F.fn f)(hd:F.depth=none)
   (b:o.op=.call {callee:=.value (.tmp 11),args:=#[.tmp 12,.tmp 16],argTypes:=types}) (p:o.guard=none) (i:a.tmps[11]?=some (.func (.yield l) #[] #[])) (g:a.tmps[12]?=some x) (d:a.tmps[16]?=some y)
   (h:YieldAt F (n-1) P l #[x,y] w fun e w'=>∃v,e=.returned v∧wpListIn F n P ops Q rest (a.put o.dst v) w'):wpListIn F n P ops Q (o::rest) a w:=by
 unfold wpListIn;have hw:Region.wanted o (yielded ops a.tmps)=true:=by simp[Region.wanted,p]
 rw[zak hw];refine⟨fun _ _=>r _,?_⟩;rw[zca _ _ _ (by intro c e;rw[b]at e;cases e)];obtain⟨fn,tmps,assign,body,hy,q⟩:=h;have m:a.eval (.tmp 11)=.func (.yield l) #[] #[]:=by simp[Act.eval,i]
 have k:a.eval (.tmp 12)=x:=by simp[Act.eval,g]
 have j:a.eval (.tmp 16)=y:=by simp[Act.eval,d]
 have hr:(execOp a.eval o).run P w=.ok (.round l fn tmps assign body) w:=by
  obtain⟨dst,op,type,pos,after,guard⟩:=o;simp only at b;subst b;simp only[execOp,resolve,zau,m,Deferred.ofValue,zaB,zag,invoke,callFunc];simp[k,j,hy]
 rw[hr];refine⟨fun e=>by rw[hd]at e;simp at e,q.mono ?_⟩
 rintro e w' ⟨v,rfl,h⟩
 exact h
theorem BN{F:Fence}{n:Nat}{ops:Array Oper}{Q:Exit->Act->World->Prop}{rest:List Oper}{o:Oper}{t:TypeId}{b:Bool}{a:Act}{w:World}(j:∀f,F.fn f)(g:o.op=.unOp .not t (.tmp 17))(i:o.guard=none)
   (d:a.tmps[17]?=some (.bool b)) (h:wpListIn F n P ops Q rest (a.put o.dst (.bool !b)) w):wpListIn F n P ops Q (o::rest) a w:=by
 unfold wpListIn;have hw:Region.wanted o (yielded ops a.tmps)=true:=by simp[Region.wanted,i]
 rw[zak hw];refine⟨fun _ _=>j _,?_⟩;rw[zca _ _ _ (by intro c e;rw[g]at e;cases e)];have k:a.eval (.tmp 17)=.bool b:=by simp[Act.eval,d]
 have hr:(execOp a.eval o).run P w=.ok (.value (.bool !b)) w:=by
  obtain⟨dst,op,type,pos,after,guard⟩:=o;simp only at g;subst g;simp[execOp,d,go_sem,Op.unary]
 rw[hr];exact h
structure rW(L:List PV)(bx l:Nat)(k:Nat)(a:Act):Prop where
 size:a.tmps.size=19
 defers:a.defers=[]
 t0:a.tmps[0]?=some (.func (.yield l) #[] #[])
 t1:a.tmps[1]?=some (.pointer (some ⟨bx,0,none⟩))
 t3:a.tmps[3]?=some (.int .i64 ((L.length:Int)-1-k))
theorem rW.Yi{L:List PV}{bx l k:Nat}{a:Act}{st:St}{G:Gh}{W:World}(h:rW L bx l k a)(hi:Inv (num ns) G W st.mem st.sh st.aa)(b:aD (num ns) G (.dQ [.aq L]) (.pointer (some ⟨bx,0,none⟩))):
   ik (num ns) 0 19 G {env:=[(1,.dQ [.aq L]),(3,.pv (.int .i64 ((L.length:Int)-1-k)))],mem:=st.mem,sh:=st.sh,aa:=st.aa} a W:=by
 refine⟨⟨h.size,fun t x hx=>?_⟩,hi,zci _,[],by simpa using h.defers,by simp,by simp⟩;simp only[look]at hx;split at hx
 ·rename_i e;subst e;cases hx;exact⟨_,h.t1,b⟩
 ·split at hx
  ·rename_i e;subst e;cases hx;exact⟨_,h.t3,by simp[aD,Rel,R]⟩
  ·cases hx
section
variable {orc:eZ} {mem:List (Nat×List AV)} {sh:Sh} {aa:aG} {L:List PV}
theorem ZS(a:L.length<4611686018427387904):br orc [⟨some 4,none,[.t 1],.v (.gC 1 false)⟩,⟨some 5,none,[.t 4],.v .len⟩,⟨some 6,none,[.t 5,.c (.pv (.int .i64 1))],.v (.bin .sub)⟩,⟨some 3,none,[.t 6],.v .mv⟩]
   {env:=[(1,.dQ [.aq L])],mem,sh,aa}=some {env:=[(1,.dQ [.aq L]),(4,.pv (.aq L)),(5,.pv (.int .i64 L.length)),(6,.pv (.int .i64 ((L.length:Int)-1))),(3,.pv (.int .i64 ((L.length:Int)-1)))],mem,sh,aa}:=by
 simp (disch:=omega) [ah]
theorem Zj{i:Int}:br orc [⟨some 7,none,[.t 3],.v .mv⟩,⟨some 8,none,[.t 7,.c (.pv (.int .i64 0))],.v (.bin .geq)⟩]
   {env:=[(1,.dQ [.aq L]),(3,.pv (.int .i64 i))],mem,sh,aa}=some {env:=[(1,.dQ [.aq L]),(3,.pv (.int .i64 i)),(7,.pv (.int .i64 i)),(8,.pv (.bool (decide (0<=i))))],mem,sh,aa}:=by
 simp (disch:=omega) [ah]
theorem ZT{i:Int}(h0:-4611686018427387904<i)(h1:i<4611686018427387904):br orc [⟨some 9,none,[.t 3],.v .mv⟩,⟨some 10,none,[.t 9,.c (.pv (.int .i64 1))],.v (.bin .sub)⟩,⟨some 3,none,[.t 10],.v .mv⟩]
   {env:=[(1,.dQ [.aq L]),(3,.pv (.int .i64 i))],mem,sh,aa}=some {env:=[(1,.dQ [.aq L]),(3,.pv (.int .i64 (i-1))),(9,.pv (.int .i64 i)),(10,.pv (.int .i64 (i-1)))],mem,sh,aa}:=by
 simp (disch:=omega) [ah]
theorem ZU{i sz:Nat}{ag:Bool}{el:PV}{x:AV}(hi:L[i]?=some el)(hx:sK sz ag el=some x):∃p,br orc [⟨some 12,none,[.t 3],.v .mv⟩,⟨some 13,none,[.t 1],.v (.gC 1 false)⟩,⟨some 14,none,[.t 3],.v .mv⟩,⟨some 15,none,[.t 13,.t 14],.v (.eX sz)⟩,⟨some 16,none,[.t 15],.v (.gC sz ag)⟩]
   {env:=[(1,.dQ [.aq L]),(3,.pv (.int .i64 i))],mem,sh,aa}=some {env:=[(1,.dQ [.aq L]),(3,.pv (.int .i64 i)),(12,.pv (.int .i64 i)),(13,.pv (.aq L)),(14,.pv (.int .i64 i)),(15,p),(16,x)],mem,sh,aa}:=by
 refine⟨.dQ (a9 el),?_⟩;have c:=(zaa.1 hi).1;unfold sK at hx;simp only[zab]at hx;obtain⟨a,hx⟩:=hx;have b:¬((i:Int)<0):=by omega
 simp (disch:=omega) [-getElem?_pos,hi,b,a,hx]
end
theorem Qf{orc:eZ}(hB:iM P ns)(n:kJ P ns orc){f sz:Nat}{ag:Bool}(D:pN P ns f sz ag){L:List PV}(hL:L.length<4611686018427387904){bx l:Nat}{J:Nat->St->Gh->World->Prop}{Jx:World->Prop}
   (q:∀{k st G W},J k st G W->Inv (num ns) G W st.mem st.sh st.aa)
   (r:∀{k st G W G' c},J k st G W->Inv (num ns) G' c st.mem st.sh st.aa->bL G W G' c->J k st G' c)
   (o:∀{k st G W},J k st G W->aD (num ns) G (.dQ [.aq L]) (.pointer (some ⟨bx,0,none⟩)))
   (ak:∀{k st G W},J k st G W->k<L.length->∃el x,L[L.length-1-k]?=some el∧sK sz ag el=some x)
   (hY:∀{k st G W el x v},J k st G W->k<L.length->L[L.length-1-k]?=some el->sK sz ag el=some x->aD (num ns) G x v->
     YieldAt Fence.wide 0 P l #[.int .i64 ((L.length-1-k:Nat):Int),v] W fun e c=>(e=.returned (.bool true)∧∃d G',J (k+1) d G' c)∨(e=.returned (.bool false)∧Jx c))
   {st:St} {G:Gh} {W:World} (h0:J 0 st G W):
   CallsIn Fence.wide 0 P f #[.func (.yield l) #[] #[],.pointer (some ⟨bx,0,none⟩)] W fun e c=>(∃v,e=.returned v)∧((∃d G',J L.length d G' c)∨Jx c):=by
 have hF:∀f,Fence.wide.fn f:=fun _=>trivial
 have fin:∀(a:Act)(c:World),a.defers=[]->((∃d G',J L.length d G' c)∨Jx c)->a.defers=[]∧∃v,(results D.fn a.tmps).run P c=.ok v c∧((∃u,Ending.returned v=.returned u)∧((∃d G',J L.length d G' c)∨Jx c)):=by
  intro a c hd h;refine⟨hd,.tuple #[],?_,⟨_,rfl⟩,h⟩;simp[results,D.ie]
 refine callsIn_of_wp D.hf D.uv trivial ?_ rfl;rw[D.hN];refine zbQ (zbf ?_)
 have ac:ik (num ns) 0 19 G {env:=[(1,.dQ [.aq L])],mem:=st.mem,sh:=st.sh,aa:=st.aa} {tmps:=#[.func (.yield l) #[] #[],.pointer (some ⟨bx,0,none⟩)]++Array.replicate (19-(#[.func (.yield l) #[] #[],.pointer (some ⟨bx,0,none⟩)]:Array Value).size) undef,defers:=[]} W:=by
  have i0:=q h0;refine⟨⟨by simp,fun t x hx=>?_⟩,i0,zci _,[],rfl,by simp,by simp⟩;simp only[look]at hx;split at hx
  ·rename_i e;subst e;cases hx;exact⟨_,by simp,o h0⟩
  ·cases hx
 rw[<-zaM D.o0.toList];refine iN (ro:=none) hB n D.c0 ac (ZS hL) fun G1 s N i E F m=>?_
 change (Code.block D.b0 _).wpIn Fence.wide 0 P _ s N
 have J1:J 0 st G1 N:=r h0 i.inv E
 have ai:rW L bx l 0 s:=by
  refine⟨i.env.size,F,?_,?_,?_⟩
  ·rw[m 0 (by simp)];simp
  ·rw[m 1 (by simp)];simp
  ·obtain⟨v,h1,h2⟩:=i.env.env 3 _ rfl;simp[aD,Rel,R]at h2;rw[h1,h2];simp
 refine wpIn_block (wpIn_loop_rounds (L.length+1) ?_)
 have round:∀(j k:Nat)(a:Act)(st:St)(G:Gh)(W:World),L.length-k=j->k<=L.length->rW L bx l k a->J k st G W->
     Code.roundsIn Fence.wide 0 P (.seq (.seq (.region D.r1 D.o1 false) (.cond (.tmp 8) .skip (.exit D.b0))) (.seq (.block D.b1 (.seq (.region D.r3 (D.m0::D.RG++[D.y,D.nt]).toArray false) (.cond (.tmp 18) .ret .skip))) (.region D.r2 D.o2 false)))
       (Exit.inBlock D.b0 (bodyPost P D.fn fun e c=>(∃v,e=.returned v)∧((∃d G',J L.length d G' c)∨Jx c))) (j+1) a W:=by
   intro j;induction j with
   |zero=>
    intro k a st G W hj hk C T;rw[roundsIn_succ];refine zbQ (zbQ (zbf ?_));rw[<-zaM D.o1.toList];refine iN (ro:=none) hB n D.c1 (C.Yi (q T) (o T)) Zj fun G1 s N i E F m=>?_
    change (Code.cond (.tmp 8) .skip (.exit D.b0)).wpIn Fence.wide 0 P _ s N
    obtain⟨v8,h8,V⟩:=i.env.env 8 _ rfl;have z:=r T i.inv E;have aW:rW L bx l k s:=⟨i.env.size,F.trans C.defers,by rw[m 0 (by simp)];exact C.t0,by rw[m 1 (by simp)];exact C.t1,by rw[m 3 (by simp)];exact C.t3⟩;simp[aD,Rel,R]at V;have I:k=L.length:=by omega
    subst I;have hc:s.eval (.tmp 8)=.bool false:=by simp[Act.eval,h8,V];omega
    refine zc2 hc (wpIn_exit ?_);simp only[Exit.then,Exit.inBlock,za0];exact fin s N aW.defers (.inl ⟨_,_,z⟩)
   |succ j ih=>
    intro k a st G W hj hk C T;rw[roundsIn_succ];refine zbQ (zbQ (zbf ?_));rw[<-zaM D.o1.toList];refine iN (ro:=none) hB n D.c1 (C.Yi (q T) (o T)) Zj fun G1 s N i E F m=>?_
    change (Code.cond (.tmp 8) .skip (.exit D.b0)).wpIn Fence.wide 0 P _ s N
    obtain⟨v8,h8,V⟩:=i.env.env 8 _ rfl;have z:=r T i.inv E;have aW:rW L bx l k s:=⟨i.env.size,F.trans C.defers,by rw[m 0 (by simp)];exact C.t0,by rw[m 1 (by simp)];exact C.t1,by rw[m 3 (by simp)];exact C.t3⟩;simp[aD,Rel,R]at V;have I:k<L.length:=by omega
    have hc:s.eval (.tmp 8)=.bool true:=(by simp[Act.eval,h8,V];omega);refine wpIn_cond_true hc (wpIn_skip ?_)
    change (Code.seq (.block D.b1 _) (.region D.r2 D.o2 false)).wpIn Fence.wide 0 P _ s N
    refine zbQ (wpIn_block (zbQ (zbf ?_)));have ad:((D.m0::D.RG++[D.y,D.nt]).toArray).toList=D.m0::(D.RG++[D.y,D.nt]):=by simp
    rw[ad];refine qI hF D.h0.1 D.h0.2.2 ?_;have e0:s.eval (.tmp 0)=.func (.yield l) #[] #[]:=by simp[Act.eval,aW.t0]
    rw[D.h0.2.1,e0]
    have g:rW L bx l k (s.put (some 11) (.func (.yield l) #[] #[])):=by
     refine⟨by simp[Act.put,aW.size],aW.defers,?_,?_,?_⟩
     ·simp only[Act.put];rw[zay (by decide)];exact aW.t0
     ·simp only[Act.put];rw[zay (by decide)];exact aW.t1
     ·simp only[Act.put];rw[zay (by decide)];exact aW.t3
    obtain⟨el,x,hi,hx⟩:=ak z I;have i3:(L.length:Int)-1-k=((L.length-1-k:Nat):Int):=by omega
    obtain⟨p,aj⟩:=ZU (orc:=orc) (mem:=st.mem) (sh:=st.sh) (aa:=st.aa) hi hx;have Y:=g.Yi (q z) (o z);rw[i3]at Y;refine iN (ro:=none) hB n D.c3 Y aj fun G3 M W3 H am ao K=>?_
    have ay:=r z H.inv am;obtain⟨b7,b2,X⟩:=H.env.env 12 _ rfl;obtain⟨b6,aO,a2⟩:=H.env.env 16 _ rfl;simp[aD,Rel,R]at X;subst X;have b3:M.tmps[11]?=some (.func (.yield l) #[] #[]):=(by rw[K 11 (by simp)];simp[Act.put,aW.size]);have h3:M.tmps[3]?=some (.int .i64 ((L.length:Int)-1-k)):=(by rw[K 3 (by simp)];exact g.t3);have b5:M.tmps[0]?=some (.func (.yield l) #[] #[]):=(by rw[K 0 (by simp)];exact g.t0);have b4:M.tmps[1]?=some (.pointer (some ⟨bx,0,none⟩)):=(by rw[K 1 (by simp)];exact g.t1);have B:=H.env.size;refine FB hF rfl D.hy.1 D.hy.2.2 b3 b2 aO ?_;obtain⟨fn,tmps,assign,body,a4,hR⟩:=hY ay I hi hx a2;refine⟨fn,tmps,assign,body,a4,hR.mono ?_⟩;have A:∀v,(M.put D.y.dst v).tmps[17]?=some v:=by intro v;rw[D.hy.2.1];simp[Act.put,B]
    have O:∀b u,rW L bx l k ((M.put D.y.dst u).put D.nt.dst (.bool b))∧((M.put D.y.dst u).put D.nt.dst (.bool b)).tmps[18]?=some (.bool b):=by
     intro b u;rw[D.hy.2.1,D.hn.2.1];refine⟨⟨by simp[Act.put,B],ao.trans g.defers,?_,?_,?_⟩,by simp[Act.put,B]⟩
     ·simp only[Act.put];rw[zay (by decide),zay (by decide)];exact b5
     ·simp only[Act.put];rw[zay (by decide),zay (by decide)];exact b4
     ·simp only[Act.put];rw[zay (by decide),zay (by decide)];exact h3
    rintro e c (⟨rfl,d,G',S⟩|⟨rfl,ab⟩)
    ·refine⟨_,rfl,BN hF D.hn.1 D.hn.2.2 (A _) ?_⟩;obtain⟨w,U⟩:=O false (.bool true)
     change (Code.cond (.tmp 18) .ret .skip).wpIn Fence.wide 0 P _ ((M.put D.y.dst (.bool true)).put D.nt.dst (.bool false)) c
     refine zc2 (by simp[Act.eval,U]) (wpIn_skip ?_)
     change (Code.region D.r2 D.o2 false).wpIn Fence.wide 0 P _ _ c
     refine zbf ?_;rw[<-zaM D.o2.toList];refine iN (ro:=none) hB n D.c2 (w.Yi (q S) (o S)) (ZT (by omega) (by omega)) fun G5 a5 W5 Q al an Z=>?_;have ax:=r S Q.inv al
     obtain⟨v3,g3,s3⟩:=Q.env.env 3 _ rfl;simp[aD,Rel,R]at s3;refine ih (k+1) a5 d G5 W5 (by omega) (by omega) ⟨Q.env.size,an.trans w.defers,by rw[Z 0 (by simp)];exact w.t0,by rw[Z 1 (by simp)];exact w.t1,?_⟩ ax;rw[g3,s3];congr 2;omega
    ·refine⟨_,rfl,BN hF D.hn.1 D.hn.2.2 (A _) ?_⟩;obtain⟨w,U⟩:=O true (.bool false)
     change (Code.cond (.tmp 18) .ret .skip).wpIn Fence.wide 0 P _ ((M.put D.y.dst (.bool false)).put D.nt.dst (.bool true)) c
     refine wpIn_cond_true (by simp[Act.eval,U]) (zcQ ?_);exact fin _ c w.defers (.inr ab)
 exact round L.length 0 s st G1 N (by omega) (by omega) ai J1
theorem Inv.mc{G:Gh}{w:World}{mem:List (Nat×List AV)}{sh:Sh}{aa:aG}{l:Nat}{r:Loop}(hi:Inv (num ns) G w mem sh aa)(hl:w.heap[l]?=some (.loop r))(o':Obj):
   Inv (num ns) G (w.putObj l o') mem sh aa:=by
 have a:∀{b:Nat}{c:Array Value}{t:TypeId},w.heap[b]?=some (.cells c t (0,0))->(w.putObj l o').heap[b]?=some (.cells c t (0,0)):=by
  intro b c t h;rw[zaF]
  ·exact h
  ·rintro rfl;rw[hl]at h;cases h
 have e:(w.putObj l o').heap.size=w.heap.size:=by simp[World.putObj]
 refine {hi with known:=?_,fresh:=?_,cV:=?_,dU:=?_,dp:=?_,nZ:=?_}
 ·intro b o v d;have h:=hi.known b o v d;rw[<-h];have:b≠l:=by rintro rfl;simp[World.cell?,hl]at h
  simp only[World.cell?,zaF this]
 ·intro b g;exact hi.fresh b (by omega)
 ·intro k cs d;obtain⟨b,e1,⟨e2,c,t,e3,e4⟩,e5⟩:=hi.cV k cs d;exact⟨b,e1,⟨e2,c,t,a e3,e4⟩,e5⟩
 ·intro k cs d;obtain⟨b,e1,⟨e2,o,e3,e4⟩,e5⟩:=hi.dU k cs d;refine⟨b,e1,⟨e2,o,?_,e4⟩,e5⟩;rw[zaF]
  ·exact e3
  ·rintro rfl
   rw[hl]at e3;cases e3;rcases e4 with⟨_,_,_,_,h,_⟩|⟨_,_,_,h,_⟩<;>cases h
 ·intro τ n hn;obtain⟨t,e1,e2,e3⟩:=hi.dp τ n hn;refine⟨t,e1,e2,e3.cap,e3.zero,fun f=>?_⟩;obtain⟨b,o,c,ty,f1,f2,f3,i,f5⟩:=e3.spare f;exact⟨b,o,c,ty,f1,f2,a f3,i,f5⟩
 ·intro b c g;obtain⟨h1,t',z,h2⟩:=hi.nZ b c g;refine⟨h1,t',z,?_⟩;rw[zaF]
  ·exact h2
  ·rintro rfl;rw[hl]at h2;cases h2
theorem bL.putObj{G G':Gh}{w w':World}{l:Nat}(a:bL G w G' w')(hl:w.heap.size<=l)(o':Obj):bL G w G' (w'.putObj l o'):=
 { a with
  size:=by simpa[World.putObj]using a.size
  os:=by simpa[World.putObj]using a.os
  tape:=by simpa[World.putObj]using a.tape
  output:=by simpa[World.putObj]using a.output
  d9:=fun b c hr=>by
   obtain⟨h1,h2⟩:=a.d9 b c hr;exact⟨h1,by rw[zaF (by omega)];exact h2⟩}
theorem Inv.uw{G:Gh}{w:World}{mem:List (Nat×List AV)}{sh:Sh}{aa:aG}(hi:Inv (num ns) G w mem sh aa)(o:Obj):Inv (num ns) G (w.alloc o) mem sh aa:=by
 have d:∀{b:Nat}{x:Obj},w.heap[b]?=some x->(w.alloc o).heap[b]?=some x:=by
  intro b x h;have a:=(zaE.1 h).1;rw[zbz _ _ _ a];exact h
 have f:(w.alloc o).heap.size=w.heap.size+1:=zb9 _ _;refine {hi with known:=?_,fresh:=?_,cV:=?_,dU:=?_,dp:=?_,nZ:=?_}
 ·intro b o' v e;have h:=hi.known b o' v e;rw[<-h]
  have a:b<w.heap.size:=by
   rcases zbv b w.heap.size with h'|h'
   ·exact h'
   ·simp[World.cell?,zcw h']at h
  simp only[World.cell?,zbz _ _ _ a]
 ·intro b g;exact hi.fresh b (by omega)
 ·intro k cs e;obtain⟨b,e1,⟨e2,c,t,e3,e4⟩,e5⟩:=hi.cV k cs e;exact⟨b,e1,⟨e2,c,t,d e3,e4⟩,e5⟩
 ·intro k cs e;obtain⟨b,e1,⟨e2,o',e3,e4⟩,e5⟩:=hi.dU k cs e;exact⟨b,e1,⟨e2,o',d e3,e4⟩,e5⟩
 ·intro τ n hn;obtain⟨t,e1,e2,e3⟩:=hi.dp τ n hn;refine⟨t,e1,e2,e3.cap,e3.zero,fun a=>?_⟩;obtain⟨b,o,c,ty,f1,f2,f3,i,f5⟩:=e3.spare a;exact⟨b,o,c,ty,f1,f2,d f3,i,f5⟩
 ·intro b c g;obtain⟨h1,t',z,h2⟩:=hi.nZ b c g;exact⟨h1,t',z,d h2⟩
theorem bL.uw{G G':Gh}{w w':World}(a:bL G w G' w')(o:Obj):bL G w G' (w'.alloc o):=
 { a with
  size:=by rw[zb9];exact Nat.le_succ_of_le a.size
  os:=a.os
  tape:=a.tape
  output:=a.output
  d9:=fun b c hr=>by
   obtain⟨h1,h2⟩:=a.d9 b c hr;exact⟨h1,by rw[zbz _ _ _ (zbr c a.size)];exact h2⟩}
theorem BO{L:List PV}{k:Nat}(b:k<L.length):∃el,L[L.length-1-k]?=some el∧L.zipIdx.reverse.drop k=(el,L.length-1-k)::L.zipIdx.reverse.drop (k+1):=by
 have a:L.length-1-k<L.length:=by omega
 refine⟨L[L.length-1-k],za4 a,?_⟩;have hl:k<L.zipIdx.reverse.length:=by simp;exact b
 rw[zc3 hl];congr 1;simp
def ly(fn:FuncId)(tmps:Array Value)(ps:Array Tmp)(x y:Code)(D:Nat)(s:LoopState)(a:Option Code):Loop:={state:=s,pending:=a,fn,tmps,params:=ps,assign:=x,body:=y,defers:=D}
def TS:aR->Code
 | .normal=>.skip
 | .ret=>.ret
 | .exit id=>.exit id
structure BJ(ns:Names)(Gs:Gh)(w:World)(F:St->Option (aR×St))(live:List Nat)(pi px sz:Nat)(ag:Bool)(env0:List (Nat×AV))(L:List PV)(bx:Nat)(l D:Nat)(rec:Loop)(res:aR×St)(k:Nat)(st:St)(G:Gh)(W:World):Prop where
 inv:Inv (num ns) G W st.mem st.sh st.aa
 zL:bL Gs w G W
 FC:W.heap[l]?=some (.loop rec)
 rl:G.role l=.d9
 VV:W.heap[D]?=some (.deferred (some []))
 rd:G.role D=.d9
 box:aD (num ns) G (.dQ [.aq L]) (.pointer (some ⟨bx,0,none⟩))
 rest:hU F live pi px sz ag env0 (L.zipIdx.reverse.drop k) st=some res
theorem wV{G G':Gh}{cs:List PV}{v:Value}(hK:G.K.le G'.K)(h:aD (num ns) G (.dQ cs) v):aD (num ns) G' (.dQ cs) v:=by
 simp only[aD]at h⊢;obtain⟨b,o,vs,e,f,r⟩:=h;exact⟨b,o,vs,e,f.mono hK,dJ.mono hK _ _ r⟩
theorem BJ.go{Gs:Gh}{w:World}{F:St->Option (aR×St)}{live:List Nat}{pi px sz:Nat}{ag:Bool}{env0:List (Nat×AV)}{L:List PV}{bx l D:Nat}{rec:Loop}{res:aR×St}{k:Nat}{st:St}{G G':Gh}{W b:World}
   (h:BJ ns Gs w F live pi px sz ag env0 L bx l D rec res k st G W) (hi:Inv (num ns) G' b st.mem st.sh st.aa) (a:bL G W G' b):BJ ns Gs w F live pi px sz ag env0 L bx l D rec res k st G' b:=by
 have hl:=(zaE.1 h.FC).1;have hd:=(zaE.1 h.VV).1;obtain⟨e,d⟩:=a.d9 l hl h.rl;obtain⟨b1,c⟩:=a.d9 D hd h.rd;exact⟨hi,h.zL.trans a,d.trans h.FC,e,c.trans h.VV,b1,wV a.K h.box,h.rest⟩
theorem BJ.el{Gs:Gh}{w:World}{F:St->Option (aR×St)}{live:List Nat}{pi px sz:Nat}{ag:Bool}{env0:List (Nat×AV)}{L:List PV}{bx l D:Nat}{rec:Loop}{res:aR×St}{k:Nat}{st:St}{G:Gh}{W:World}
   (h:BJ ns Gs w F live pi px sz ag env0 L bx l D rec res k st G W) (a:k<L.length):∃el x,L[L.length-1-k]?=some el∧sK sz ag el=some x:=by
 obtain⟨el,h1,h2⟩:=BO a;have hr:=h.rest;rw[h2]at hr;simp only[hU]at hr;cases hx:sK sz ag el with
 |none=>rw[hx]at hr;simp at hr
 |some x=>exact⟨el,x,h1,hx⟩
def ke:aR->Exit
 | .normal=>.normal
 | .ret=>.ret
 | .exit id=>.exit id
theorem Marks.mc{n0:Nat}{G:Gh}{a:Act}{w:World}{l:Nat}{r:Loop}(h:Marks n0 G a w)(hl:w.heap[l]?=some (.loop r))(o':Obj):Marks n0 G a (w.putObj l o'):=by
 obtain⟨e0,Ds,e1,e2,e3⟩:=h;refine⟨by simpa[World.putObj]using e0,Ds,e1,e2,fun D b=>?_⟩;obtain⟨c,f1,f2,f3⟩:=e3 D b;refine⟨c,by simpa[World.putObj]using f1,f2,?_⟩;rw[zaF]
 ·exact f3
 ·rintro rfl;rw[hl]at f3;cases f3
def JX(ns:Names)(Gs:Gh)(w:World)(env0:List (Nat×AV))(l D:Nat)(rec:Option Code->Loop)(res:aR×St)(W':World):Prop:=
 ∃(e:aR)(a:St)(G':Gh),e≠.normal∧res=(e,{a with env:=env0})∧Inv (num ns) G' W' a.mem a.sh a.aa∧bL Gs w G' W' ∧
   W'.heap[l]?=some (.loop (rec (some (TS e))))∧W'.heap[D]?=some (.deferred (some []))∧G'.role D=.d9
theorem BJ.round{N:Nat}{cx B:Code}{H M:St->Option (aR×St)}{l:Nat}
   (hX:∀{st c:St}{e:aR}{G:Gh}{a:Act}{w:World}{Q:Exit->Act->World->Prop},H st=some (e,c)->ik (num ns) 0 N G st a w->(∀G' J w',ik (num ns) 0 N G' c J w'->bL G w G' w'->Q (ke e) J w')->cx.wpIn (sX (some l)) 0 P Q a w)
   (hY:∀{st c:St}{e:aR}{G:Gh}{a:Act}{w:World}{Q:Exit->Act->World->Prop},M st=some (e,c)->ik (num ns) 0 N G st a w->(∀G' J w',ik (num ns) 0 N G' c J w'->bL G w G' w'->Q (ke e) J w')->B.wpIn (sX (some l)) 0 P Q a w)
   {Gs:Gh} {w:World} {live:List Nat} {pi px sz:Nat} {ag:Bool} {env0:List (Nat×AV)} {L:List PV} {bx D:Nat} {fn:FuncId} {a:Act} {res:aR×St} {k:Nat} {st:St} {G:Gh} {W:World}
   (F:∀t x,look env0 t=some x->bq x=true∧∃v,a.tmps[t]?=some v∧aD (num ns) Gs x v) (hN:a.tmps.size=N) (Z:pi<N) (Y:px<N) (hl:w.heap.size<=l) (hD:w.heap.size<=D) (i:l≠D)
   (h:BJ ns Gs w (andThen H M) live pi px sz ag env0 L bx l D (ly fn a.tmps #[pi,px] cx B D .ready none) res k st G W) (hk:k<L.length) {el:PV} {x:AV} {v:Value} (hi:L[L.length-1-k]?=some el) (hx:sK sz ag el=some x) (hv:aD (num ns) G x v):
   YieldAt Fence.wide 0 P l #[.int .i64 ((L.length-1-k:Nat):Int),v] W fun e W'=>(e=.returned (.bool true)∧∃c G',BJ ns Gs w (andThen H M) live pi px sz ag env0 L bx l D (ly fn a.tmps #[pi,px] cx B D .ready none) res (k+1) c G' W')∨
     (e=.returned (.bool false)∧JX ns Gs w env0 l D (ly fn a.tmps #[pi,px] cx B D .done) res W'):=by
 obtain⟨ab,h1,h2⟩:=BO hk;rw[hi]at h1;cases h1;have hr:=h.rest;rw[h2]at hr;simp only[hU,hx]at hr;refine⟨fn,(a.tmps.setIfInBounds pi (.int .i64 ((L.length-1-k:Nat):Int))).setIfInBounds px v,cx,B,by rw[run_yield h.FC rfl];simp[ly],roundIn_of_wpIn trivial ?_⟩
 have X:ik (num ns) 0 N G {st with env:=cN (cN env0 pi (.pv (.int .i64 ((L.length-1-k:Nat):Int)))) px x} {tmps:=(a.tmps.setIfInBounds pi (.int .i64 ((L.length-1-k:Nat):Int))).setIfInBounds px v,defers:=[]} W:=by
  refine⟨⟨by simp[hN],fun t y hy=>?_⟩,h.inv,zci _,[],rfl,by simp,by simp⟩;by_cases e1:px=t
  ·subst e1;rw[b_]at hy;cases hy;exact⟨v,by simp[hN,Y],hv⟩
  ·rw[bM _ _ _ _ e1]at hy;by_cases e2:pi=t
   ·subst e2;rw[b_]at hy;cases hy;refine⟨.int .i64 ((L.length-1-k:Nat):Int),?_,by simp[aD,Rel,R]⟩;rw[zay e1];simp[hN,Z]
   ·rw[bM _ _ _ _ e2]at hy;obtain⟨f1,u,f2,f3⟩:=F t y hy;exact⟨u,by rw[zay e1,zay e2];exact f2,h_ h.zL.K h.zL.sm f1 f3⟩
 obtain⟨G0,V,a3⟩:=X.head live;cases hf:andThen H M (norm (restrict live {st with env:=cN (cN env0 pi (.pv (.int .i64 ((L.length-1-k:Nat):Int)))) px x}))with
 |none=>rw[hf]at hr;simp at hr
 |some q=>
  obtain⟨e,n⟩:=q;rw[hf]at hr;unfold andThen at hf;cases z:H (norm (restrict live {st with env:=cN (cN env0 pi (.pv (.int .i64 ((L.length-1-k:Nat):Int)))) px x}))with
  |none=>rw[z]at hf;simp at hf
  |some q=>
   obtain⟨e1,a5⟩:=q;rw[z]at hf;cases e1 with
   |ret=>simp at hf
   |exit id=>simp at hf
   |normal=>
    simp only at hf;refine hX z V fun G2 a2 W2 s a1=>?_;have d:=a3.trans a1
    have ll:=(zaE.1 h.FC).1;have ld:=(zaE.1 h.VV).1;obtain⟨S,f⟩:=d.d9 l ll h.rl;obtain⟨T,A⟩:=d.d9 D ld h.rd;rw[h.FC]at f;rw[h.VV]at A;have E:=(zaE.1 f).1;have U:=(zaE.1 A).1;refine⟨_,run_beginRound f rfl,?_⟩;refine hY hf ⟨s.env,s.inv.mc f _,s.marks.mc f _⟩ fun G4 a4 W4 r j=>?_
    have I:=(h.zL.trans d).putObj hl (.loop {ly fn a.tmps #[pi,px] cx B D .ready none with state:=.busy});have g:=I.trans j;have C:(W2.putObj l (.loop {ly fn a.tmps #[pi,px] cx B D .ready none with state:=.busy})).heap.size=W2.heap.size:=(by simp[World.putObj]);obtain⟨O,b⟩:=j.d9 l (by rw[C];exact E) S;obtain⟨o,m⟩:=j.d9 D (by rw[C];exact U) T;rw[zb3 E]at b;rw[zaF (zbK i),A]at m;have p:=(zaE.1 b).1;cases e with
    |normal=>
     refine⟨_,_,run_endRound none b,.inl ⟨rfl,n,G4,r.inv.mc b _,g.putObj hl _,?_,O,?_,o,wV (bo.le_trans (bo.le_trans d.K (bo.le_refl _)) j.K) h.box,hr⟩⟩
     ·rw[zb3 p];rfl
     ·rw[zaF (zbK i)];exact m
    |ret=>
     refine⟨_,_,run_endRound (some .ret) b,.inr ⟨rfl,.ret,n,G4,by simp,(zcT hr).symm,r.inv.mc b _,g.putObj hl _,?_,?_,o⟩⟩
     ·rw[zb3 p];rfl
     ·rw[zaF (zbK i)];exact m
    |exit id=>
     refine⟨_,_,run_endRound (some (.exit id)) b,.inr ⟨rfl,.exit id,n,G4,by simp,(zcT hr).symm,r.inv.mc b _,g.putObj hl _,?_,?_,o⟩⟩
     ·rw[zb3 p];rfl
     ·rw[zaF (zbK i)];exact m
theorem FD{orc:eZ}(hB:iM P ns)(F:kJ P ns orc){gb sz:Nat}{ag:Bool}(M:∀f,ns.of f=some gb->Nonempty (pN P ns f sz ag)){N:Nat}{cx o:Code}{fx fy:St->Option (aR×St)}
   (hX:∀{l:Nat}{st c:St}{e:aR}{G:Gh}{a:Act}{w:World}{Q:Exit->Act->World->Prop},fx st=some (e,c)->ik (num ns) 0 N G st a w->(∀G' p w',ik (num ns) 0 N G' c p w'->bL G w G' w'->Q (ke e) p w')->cx.wpIn (sX (some l)) 0 P Q a w)
   (hY:∀{l:Nat}{st c:St}{e:aR}{G:Gh}{a:Act}{w:World}{Q:Exit->Act->World->Prop},fy st=some (e,c)->ik (num ns) 0 N G st a w->(∀G' p w',ik (num ns) 0 N G' c p w'->bL G w G' w'->Q (ke e) p w')->o.wpIn (sX (some l)) 0 P Q a w)
   {t pi px:Nat} {live:List Nat} (Z:pi<N) (Y:px<N) {st c:St} {e:aR} {n0:Nat} {G:Gh} {a:Act} {w:World} {Q:Exit->Act->World->Prop}
   (d:e8 (andThen fx fy) (look st.env t) gb pi px sz ag live st=some (e,c)) (hs:ik (num ns) n0 N G st a w)
   (hq:∀G' p w',ik (num ns) n0 N G' c p w'->bL G w G' w'->Q (ke e) p w'):(Code.rangeFunc (.tmp t) #[pi,px] cx o).wpIn Fence.wide 0 P Q a w:=by
 unfold e8 at d;split at d
 ·rename_i g s u;split at d
  ·rename_i hg;subst hg;split at d
   ·rename_i L X;split at d
    ·rename_i hL;obtain⟨fv,a2,m⟩:=hs.env.env t _ u;simp only[aD,aB]at m;obtain⟨f,vs,I,rfl,ptr,r0,rfl,⟨⟨bx,nx⟩,V,rfl⟩,rfl⟩:=m;obtain⟨D⟩:=M f I;obtain⟨G1,U,k2,k3,k4,k5⟩:=Inv.kill [s] hs.inv;obtain⟨b',a5,e1,e2,e3⟩:=k4 s (by simp) _ X rfl;rw[V]at e1;cases e1
     have O:aD (num ns) G1 (.dQ [.aq L]) (.pointer (some ⟨bx,0,none⟩)):=by
      simp only[aB,aD]at e3;obtain⟨v,r,rfl,e4,rfl⟩:=e3;simp only[aD];exact⟨bx,0,[v],rfl,e2,by simp only[dJ];exact⟨v,[],rfl,e4,rfl⟩⟩
     have n:∀t x,look (ir live st.env) t=some x->bq x=true∧∃v,a.tmps[t]?=some v∧aD (num ns) G1 x v:=by
      intro t x hx;have hm:=pB hx;simp only[ir,List.mem_filter]at hm;obtain⟨h1,h2⟩:=ff hm.1;obtain⟨v,h3,h4⟩:=hs.env.env t x h1;exact⟨hm.2,v,h3,h4.mono k2⟩
     refine wpIn_rangeFunc ?_;intro fn _;obtain⟨W1,i⟩:∃W1,(w.alloc (.deferred (some []))).alloc (.loop (ly fn a.tmps #[pi,px] cx o w.heap.size .ready none))=W1:=⟨_,rfl⟩;have s0:(w.alloc (.deferred (some []))).heap.size=w.heap.size+1:=zb9 _ _;have s1:W1.heap.size=w.heap.size+1+1:=by rw[<-i,zb9,s0]
     have a3:W1.heap[w.heap.size+1]?=some (.loop (ly fn a.tmps #[pi,px] cx o w.heap.size .ready none)):=by
      rw[<-i];have:=World.alloc_heap_new (w.alloc (.deferred (some []))) (.loop (ly fn a.tmps #[pi,px] cx o w.heap.size .ready none));rwa [zb9]at this
     have a4:W1.heap[w.heap.size]?=some (.deferred (some [])):=by
      rw[<-i,zbz _ _ _ (by omega)];exact World.alloc_heap_new w _
     have i1:Inv (num ns) G1 W1 st.mem (kill st.sh [s]) st.aa:=(by rw[<-i];exact(U.uw _).uw _);have v1:bL G1 w G1 W1:=by rw[<-i];exact((bL.refl G1 w).uw _).uw _
     have z:=Qf hB F D hL (bx:=bx) (l:=w.heap.size+1) (J:=fun k b G2 W2=>BJ ns G1 w (andThen fx fy) live pi px sz ag (ir live st.env) L bx (w.heap.size+1) w.heap.size (ly fn a.tmps #[pi,px] cx o w.heap.size .ready none) (e,c) k b G2 W2)
       (Jx:=JX ns G1 w (ir live st.env) (w.heap.size+1) w.heap.size (ly fn a.tmps #[pi,px] cx o w.heap.size .done) (e,c))
       (fun h=>h.inv) (fun h hi he=>h.go hi he) (fun h=>h.box) (fun h hk=>h.el hk) (fun h hk hi hx hv=>h.round hX hY n hs.env.size Z Y (by omega) (zaj _) (by omega) hk hi hx hv)
       (st:={st with sh:=kill st.sh [s]}) (G:=G1) (W:=W1) ⟨i1,v1,a3,U.fresh _ (by omega),a4,U.fresh _ (zaj _),O,by rw[zar];exact d⟩
     have q:CallsIn Fence.wide (0-1) P f (#[.func (.yield (w.heap.size+1)) #[] #[]]++#[.pointer (some ⟨bx,0,none⟩)]) W1 (rangePost Fence.wide 0 P (w.heap.size+1) Q {a with defers:=[{target:=.collected w.heap.size,args:=#[]}]++a.defers}):=by
      refine CallsIn.mono z ?_
      have fin:∀(b:St)(G2:Gh)(W2:World)(r:Loop),Inv (num ns) G2 W2 b.mem b.sh b.aa->bL G1 w G2 W2->W2.heap[w.heap.size+1]?=some (.loop r)->W2.heap[w.heap.size]?=some (.deferred (some []))->G2.role w.heap.size=.d9->c={b with env:=ir live st.env}->
          Q (ke e) {a with defers:=[{target:=.collected w.heap.size,args:=#[]}]++a.defers} (W2.putObj (w.heap.size+1) (.loop {r with state:=.exhausted})):=by
        intro b G2 W2 r S B E C R q6;have T:=k3.trans (B.putObj (zbo _) (.loop {r with state:=.exhausted}));refine hq G2 _ _ ?_ T;subst q6;refine⟨⟨hs.env.size,fun t x hx=>?_⟩,S.mc E _,?_⟩
        ·obtain⟨f1,v,f2,f3⟩:=n t x hx;exact⟨v,f2,h_ B.K B.sm f1 f3⟩
        ·obtain⟨m0,Ds,m1,m2,m3⟩:=hs.marks;refine⟨zaR m0 T.size,w.heap.size::Ds,by simp[m1],?_,?_⟩
         ·rw[zcy];refine⟨fun hm=>?_,m2⟩;exact absurd (m3 _ hm).2.1 (Nat.lt_irrefl _)
         ·intro D M;rcases zah.1 M with rfl|M
          ·have hd:=(zaE.1 C).1;refine⟨m0,by simpa[World.putObj]using hd,R,?_⟩;rw[zaF (by omega)];exact C
          ·obtain⟨f0,f1,f2,f3⟩:=m3 D M;obtain⟨g1,g2⟩:=T.d9 D f1 f2;exact⟨f0,zbr f1 T.size,g1,g2.trans f3⟩
      rintro _ W' ⟨⟨v,rfl⟩,(⟨b,G2,A⟩|⟨e2,b,G2,a1,ie,S,B,E,C,R⟩)⟩
      ·have hr:=A.rest;rw[zaX (by simp)]at hr;simp only[hU,zae,zav]at hr;obtain⟨rfl,h2⟩:=hr;exact⟨_,_,run_endLoop A.FC (by simp[ly]),fin b G2 W' _ A.inv A.zL A.FC A.VV A.rd h2.symm⟩
      ·simp only[zav]at ie;obtain⟨rfl,h2⟩:=ie;refine⟨_,_,run_endLoop E (by simp[ly]),?_⟩;cases e with
       |normal=>exact absurd rfl a1
       |ret=>exact zcQ (fin b G2 W' _ S B E C R h2)
       |exit id=>exact wpIn_exit (fin b G2 W' _ S B E C R h2)
     have j:(Instr.enterLoop fn a.tmps #[pi,px] cx o Fence.wide.round).run P w=.ok (w.heap.size+1,[{target:=.collected w.heap.size,args:=#[]}]) W1:=by rw[<-i];exact run_enterLoop_outer _ _ _ _ _
     have ie:(resolve a.eval (rangeCall (.tmp t) (w.heap.size+1)) 0).run P W1=.ok {target:=.fn (.func f) #[.pointer (some ⟨bx,0,none⟩)],args:=#[.func (.yield (w.heap.size+1)) #[] #[]]} W1:=by
      have y:a.eval (.tmp t)=.func (.func f) #[] #[.pointer (some ⟨bx,0,none⟩)]:=(by simp[Act.eval,a2]);simp only[resolve,rangeCall,y];simp[go_sem]
     have H:(invoke (.fn (.func f) #[.pointer (some ⟨bx,0,none⟩)]) #[.func (.yield (w.heap.size+1)) #[] #[]]).run P W1=.ok (.enter f (#[.func (.yield (w.heap.size+1)) #[] #[]]++#[.pointer (some ⟨bx,0,none⟩)])) W1:=by
      simp only[invoke];exact lV hB I _
     exact⟨_,_,W1,_,W1,f,_,W1,j,ie,fun _ _=>trivial,H,fun h=>absurd h (by simp[Fence.wide]),q⟩
    ·simp at d
   ·simp at d
  ·simp at d
 ·simp at d
end
end Go.Ab
namespace Go.Ab
open Ev
structure lz(P:Program)(ns:Names)(f sz bytes:Nat) where
 fn:Func
 A:mA
 t:TypeId
 el:TypeId
 ty:TypeId
 o0:Oper
 m:Oper
 e:Oper
 o2:Oper
 b:Oper
 m3:Oper
 ap:Oper
 A2:mA
 ag:Bool
 fi:Oper
 r0:Nat
 r1:Nat
 r2:Nat
 r3:Nat
 hf:P.funcs[f]?=some fn
 uv:fn.body=some (.seq (.region r0 #[o0] false) (.seq (.seq (.region r1 #[m,e] false) (.cond (.tmp 4) (.seq (.region r2 #[o2] false) .ret) .skip)) (.seq (.region r3 #[b,m3,ap,fi] false) .ret))):=by kernel_rfl
 ie:fn.results=#[.tmp 2]:=by kernel_rfl
 hN:fn.ntmps=8:=by kernel_rfl
 h0:o0.op=.assign (.const (.slice none 0 0))∧o0.dst=some 2∧o0.guard=none:=by refine⟨?_,?_,?_⟩<;>kernel_rfl
 h1:m.op=.move (.tmp 0)∧m.dst=some 3∧m.guard=none:=by refine⟨?_,?_,?_⟩<;>kernel_rfl
 h2:e.op=.binOp .eql t (.tmp 3) (.const (.slice none 0 0)) ty∧e.dst=some 4∧e.guard=none:=by refine⟨?_,?_,?_⟩<;>kernel_rfl
 hu:P.underlying t=some (.slice el):=by kernel_rfl
 h3:o2.op=.assign (.const (.slice none 0 0))∧o2.dst=some 2∧o2.guard=none:=by refine⟨?_,?_,?_⟩<;>kernel_rfl
 h4:bS P ns A b.dst b.op=some (.v (.dR sz),[])∧b.dst=some 5∧b.guard=none:=by refine⟨?_,?_,?_⟩<;>kernel_rfl
 h5:m3.op=.move (.tmp 0)∧m3.dst=some 6∧m3.guard=none:=by refine⟨?_,?_,?_⟩<;>kernel_rfl
 h6:bS P ns A ap.dst ap.op=some (.append sz bytes,[.tmp 5,.tmp 6])∧ap.dst=some 7∧ap.guard=none:=by refine⟨?_,?_,?_⟩<;>kernel_rfl
 h8:bS P ns A2 ap.dst ap.op=some (.dN sz bytes ag,[.tmp 5,.tmp 6]):=by kernel_rfl
 h7:fi.op=.assign (.tmp 7)∧fi.dst=some 2∧fi.guard=none:=by refine⟨?_,?_,?_⟩<;>kernel_rfl
section
variable {P:Program} {ns:Names}
theorem kM{F:Fence}{n:Nat}{ops:Array Oper}{Q:Exit->Act->World->Prop}{rest:List Oper}{o:Oper}{x:Operand}{a:Act}{w:World}(g:∀f,F.fn f)(b:o.op=.assign x)(d:o.guard=none)
   (h:wpListIn F n P ops Q rest (a.put o.dst (a.eval x)) w):wpListIn F n P ops Q (o::rest) a w:=by
 unfold wpListIn;have hw:Region.wanted o (yielded ops a.tmps)=true:=by simp[Region.wanted,d]
 rw[zak hw];refine⟨fun _ _=>g _,?_⟩;rw[zca _ _ _ (by intro c e;rw[b]at e;cases e)]
 have hr:(execOp a.eval o).run P w=.ok (.value (a.eval x)) w:=by
  obtain⟨dst,op,type,pos,after,guard⟩:=o;simp only at b;subst b;simp[execOp]
 rw[hr];exact h
theorem oX{G:Gh}{A:mA}{n:Nat}{ops:Array Oper}{Q:Exit->Act->World->Prop}{rest:List Oper}{o:Oper}{k:AK}{args:List Operand}{a:Act}{w:World}(l:o.guard=none){orc:eZ}(g:bS P ns A o.dst o.op=some (k,args))(j:k.calls=false)
   {vals:List AV} {out:Out} {mem:List (Nat×List AV)} {sh:Sh} {aa:aG} (b:k.key=none) (hr:aB (num ns) G vals (args.map a.eval)) (hi:Inv (num ns) G w mem sh aa) (h:exec orc k vals none sh aa=some out)
   (hn:∀v w' G',aD (num ns) G' out.val v->Inv (num ns) G' w' mem out.sh out.aa->G.le G'->bL G w G' w'->wpListIn Fence.wide n P ops Q rest (a.put o.dst v) w'):wpListIn Fence.wide n P ops Q (o::rest) a w:=by
 unfold wpListIn;have hw:Region.wanted o (yielded ops a.tmps)=true:=by simp[Region.wanted,l]
 rw[zak hw];have d:∀c,o.op≠.defer c:=by intro c e;rw[e]at g;simp[bS]at g
 refine GA (ro:=none) d ?_;obtain⟨m,v,w',G',g1,g2,i,g4,g5,g6⟩:=rJ (orc:=orc) (mem:=mem) g j hr hi (by rw[b];exact h);have f:Inv (num ns) G' w' mem out.sh out.aa:=by rw[b]at g4;exact g4
 unfold Oper.wp;rw[g1];rcases g2 with rfl|⟨rfl,rfl⟩
 ·exact hn v w' G' i f g5 g6
 ·exact hn undef w' G' i f g5 g6
theorem FE{F:Fence}{n:Nat}{ops:Array Oper}{Q:Exit->Act->World->Prop}{rest:List Oper}{o:Oper}{t el ty:TypeId}{a:Act}{w:World}{base:Option Addr}{len cap:Nat}(j:∀f,F.fn f)
   (b:o.op=.binOp .eql t (.tmp 3) (.const (.slice none 0 0)) ty) (g:o.guard=none) (hu:P.underlying t=some (.slice el)) (h3:a.tmps[3]?=some (.slice base len cap))
   (h:wpListIn F n P ops Q rest (a.put o.dst (.bool base.isNone)) w):wpListIn F n P ops Q (o::rest) a w:=by
 unfold wpListIn;have hw:Region.wanted o (yielded ops a.tmps)=true:=by simp[Region.wanted,g]
 rw[zak hw];refine⟨fun _ _=>j _,?_⟩;rw[zca _ _ _ (by intro c e;rw[b]at e;cases e)];have e3:a.eval (.tmp 3)=.slice base len cap:=by simp[Act.eval,h3]
 have k:a.eval (.const (.slice none 0 0))=.slice none 0 0:=rfl
 have i:(Op.equal t (.slice base len cap) (.slice none 0 0)).run P w=.ok base.isNone w:=by
  have h:∀d:Nat,(Op.equalIn (d+1) t (.slice base len cap) (.slice none 0 0)).run P w=.ok base.isNone w:=fun d=>by
   cases base<;>simp[Op.equalIn,zaK hu]
  exact h 9999
 have hr:(execOp a.eval o).run P w=.ok (.value (.bool base.isNone)) w:=by
  obtain⟨dst,op,type,pos,after,guard⟩:=o;simp only at b;subst b;simp only[execOp,e3,k];simp[eqGuard,binOp,i]
 rw[hr];exact h
theorem BP{f sz bytes:Nat}(D:lz P ns f sz bytes):Lo P ns f sz bytes:=by
 intro z G w mem sh sh' aa toks' x y v hi hx d;refine callsIn_wide (n:=0).1 ?_;refine callsIn_of_wp D.hf D.uv trivial ?_ rfl;rw[D.hN];have k:∀f,Fence.wide.fn f:=fun _=>trivial
 let orc:eZ:={p:=fun _ _=>none,i:=fun _ _ _ _=>none}
 have fin:∀(a:Act)(w':World)(u:Value)(G':Gh),a.defers=[]->a.tmps[2]?=some u->aD (num ns) G' y u->Inv (num ns) G' w' mem sh' toks'->G.le G'->bL G w G' w'->
     a.defers=[]∧∃v,(results D.fn a.tmps).run P w'=.ok v w'∧∃u G',Ending.returned v=.returned u∧aD (num ns) G' y u∧Inv (num ns) G' w' mem sh' toks'∧G.le G'∧bL G w G' w':=by
   intro a w' u G' hd h2 r1 r2 r3 I;refine⟨hd,u,?_,u,G',rfl,r1,r2,r3,I⟩;simp[results,D.ie,h2]
 obtain⟨els,g⟩:∃els,db x=some els:=by
  cases J:db x with
  |none=>cases z<;>simp[gI,bZ,J]at d
  |some els=>exact⟨els,rfl⟩
 obtain⟨base,cap,rfl⟩:=mP g hx;refine zbQ (zbf ?_);refine kM k D.h0.1 D.h0.2.2 ?_;rw[D.h0.2.1];simp only[wpListIn];refine zbQ (zbQ (zbf ?_));refine qI k D.h1.1 D.h1.2.2 ?_;rw[D.h1.2.1];refine FE (base:=base) (len:=els.length) (cap:=cap) k D.h2.1 D.h2.2.2 D.hu (by simp[Act.put,Act.eval]) ?_;rw[D.h2.2.1];simp only[wpListIn];cases base with
 |none=>
  refine wpIn_cond_true (by simp[Act.put,Act.eval]) ?_;refine zbQ (zbf ?_);refine kM k D.h3.1 D.h3.2.2 ?_;rw[D.h3.2.1];simp only[wpListIn];refine zcQ ?_
  have hn:els=[]:=by
   have:=fm g hx;obtain⟨b,l,c,e,_,e2⟩:=cq.1 this;cases e;rcases e2.2 with h|⟨_,_,_,h,_⟩
   ·exact h
   ·cases h
  subst hn
  obtain⟨rfl,rfl,rfl⟩:AV.cQ []=y∧sh=sh'∧aa=toks':=by
   cases z with
   |none=>simpa[gI,bZ,g,a7]using d
   |some ag=>simpa[gI,sI,g,a7]using d
  exact fin _ _ (.slice none 0 0) G (by simp[Act.put]) (by simp[Act.put,Act.eval]) (by simp only[aD];exact⟨none,0,rfl,rfl,.inl rfl⟩) hi G.le_refl (bL.refl G w)
 |some M=>
  refine zc2 (by simp[Act.put,Act.eval]) (wpIn_skip ?_);refine zbQ (zbf ?_);refine oX (orc:=orc) (out:=⟨.cQ [],none,sh,aa⟩) D.h4.2.2 D.h4.1 rfl rfl (vals:=[]) (by simp[aB]) hi (by rfl) fun L K G1 F E r C=>?_;rw[D.h4.2.1];refine qI k D.h5.1 D.h5.2.2 ?_;rw[D.h5.2.1];cases z with
  |none=>
   simp only[gI,zac,zav]at d;obtain⟨⟨s,ts'⟩,d,rfl,rfl,rfl⟩:=d;refine oX (orc:=orc) (out:=⟨s,none,sh,ts'⟩) D.h6.2.2 D.h6.1 rfl rfl (vals:=[.cQ [],x]) (mem:=mem) (sh:=sh) (aa:=aa) ?_ E (by simp only[exec,d,zaY]) fun t H B p1 p2 p3 p4=>?_
   ·simp only[zao,zbk,aB];refine⟨_,_,rfl,?_,_,_,rfl,?_,rfl⟩
    ·simpa[Act.put,Act.eval]using F
    ·simpa[Act.put,Act.eval]using hx.mono r
   rw[D.h6.2.1];refine kM k D.h7.1 D.h7.2.2 ?_;rw[D.h7.2.1];simp only[wpListIn];refine zcQ ?_;exact fin _ _ t B (by simp[Act.put]) (by simp[Act.put,Act.eval]) p1 p2 (Gh.le_trans r p3) (C.trans p4)
  |some ag=>
   simp only[gI,g]at d;rw[zab]at d;obtain⟨A,d⟩:=d;simp only[zac,zav]at d;obtain⟨⟨s,m⟩,d,rfl,rfl,rfl⟩:=d
   obtain⟨q,o,j⟩:∃q,sI sz bytes D.ag (.cQ []) els sh=some (q,m)∧∀G' u,aD (num ns) G' q u->aD (num ns) G' s u:=by
    unfold sI at d⊢;split at d
    ·rename_i h0;rw[zak h0];cases d;exact⟨_,rfl,fun _ _ h=>h⟩
    ·rename_i h0;rw[zad h0];simp only[zab,zae,zav]at d;obtain⟨h1,rfl,rfl⟩:=d;rw[zak h1];exact⟨_,rfl,fun _ _ h=>by simpa only[aD]using h⟩
   refine oX (orc:=orc) (out:=⟨q,none,m,aa⟩) D.h6.2.2 D.h8 rfl rfl (vals:=[.cQ [],x]) (mem:=mem) (sh:=sh) (aa:=aa) ?_ E (by simp only[exec,g,A,za0,sJ,o,zaY]) fun t H B p1 p2 p3 p4=>?_
   ·simp only[zao,zbk,aB];refine⟨_,_,rfl,?_,_,_,rfl,?_,rfl⟩
    ·simpa[Act.put,Act.eval]using F
    ·simpa[Act.put,Act.eval]using hx.mono r
   rw[D.h6.2.1];refine kM k D.h7.1 D.h7.2.2 ?_;rw[D.h7.2.1];simp only[wpListIn];refine zcQ ?_;exact fin _ _ t B (by simp[Act.put]) (by simp[Act.put,Act.eval]) (j _ _ p1) p2 (Gh.le_trans r p3) (C.trans p4)
end
end Go.Ab
namespace Go.Ab
section
variable {P:Program} {ns:Names} {G:Gh} {w:World}
end
section
variable {n0:Nat} {P:Program} {ns:Names} {ro:Option Nat} {n:Nat}
theorem wR{orc:eZ}{o:dI}{st a:St}(h:dT orc o st=some a){t:Nat}(b:o.dst≠some t):look a.env t=look st.env t:=by
 rw[dW,zac]at h;obtain⟨r,_,rfl⟩:=h;simp only[eE];rw[zad b]
end
end Go.Ab
