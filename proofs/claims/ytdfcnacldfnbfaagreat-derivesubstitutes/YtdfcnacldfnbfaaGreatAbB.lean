import Derived.Test.YtdfcnacldfnbfaaGreatAbA
import Derived.Orders
import Derived.Tactics
import Derived.OrdersIn
import Derived.TacticsIn
import Derived.LoopNIn
import Derived.RangeFuncCalls
import Derived.RangeFuncIn
import Derived.RangeFuncRecord
import Derived.RangeFuncSeq
/- The abstract machine, and that the code of the model does what its slim code says. -/
set_option linter.defProp false
set_option linter.unusedVariables false
set_option linter.unusedSimpArgs false
set_option linter.unnecessarySimpa false
set_option maxRecDepth 100000
set_option maxHeartbeats 8000000
namespace Go.Ab
def zbf:=@List.getElem?_eq_getElem
def zbc:=@List.map_nil
def zbq:=@Bool.true_and
def zbw:=@List.getElem?_cons_zero
def zaA:=@Array.getElem?_setIfInBounds_ne
def zbo:=@Bool.or_eq_true
def zcc:=@Bool.not_eq_true'
def zcJ:=@Go.mem_ready
def zck:=@Go.Oper.semAt_eq
def zbp:=@Go.wpIn_region_list
def zbj:=@Nat.le_max_right
def zbn:=@Nat.le_max_left
def zbB:=@Nat.zero_le
def zb3:=@Go.wpIn_seq
def zdn:=@Go.wpIn_cond_false
def zc9:=@Go.wpIn_ret
def zaL:=@Go.World.putObj_heap_other
def zcj:=@Go.World.size_alloc
def zdo:=@List.drop_eq_getElem_cons
def zce:=@Go.World.putObj_heap_same
def zdc:=@Option.some.inj
def zbI:=@List.mem_filter
def zar:=@List.drop_zero
def zcn:=@List.nodup_cons
def za6:=@List.drop_eq_nil_of_le
section
variable {P:Program} {ns:Names} {G:Gh} {w:World}
def Gh.freeze(G:Gh)(b:Nat)(c:Array Value):Gh:=
 {G with K:=fun k o=>if k=b then c[o]? else G.K k o,role:=fun k=>if k=b then .eM else G.role k}
variable{mem:List (Nat×List AV)}{sh:Sh}{aa:aH}{s b sz:Nat}{K:bA}{G':Gh}{ks:List Nat}{x:AV}{p:PV}{O:Value}
def Inv.freeze(hi:Inv (num ns) G w mem sh aa){cells:List AV}{c:Array Value}{t:TypeId}
   (hr:G.role b=.shr s) (x:w.heap[b]?=some (.cells c t (0,0))):
   Inv (num ns) (G.freeze b c) w mem (sh.set s none) aa/\G.le (G.freeze b c)/\bZ G w (G.freeze b c) w:=by
 have hK:G.K.le (G.freeze b c).K:=fun k o v a=>by
  simp only[Gh.freeze];rw[zad]
  .exact a
  .rintro rfl
   rcases hi.bn _ _ _ a with h|⟨τ,h⟩<;>rw[hr]at h<;>simp at h
 have m:G.le (G.freeze b c):=⟨hK,fun _ _ h=>h,fun _ _ h=>h,fun _ t h=>⟨t,h,⟨zal _,t.jA⟩,fun _=>rfl⟩⟩
 have f:∀k r,G.role k=r->r≠.shr s->(G.freeze b c).role k=r:=by
  intro k r a hn;simp only[Gh.freeze];rw[zad]
  .exact a
  .rintro rfl;exact hn (a.symm.trans hr)
 have l:bZ G w (G.freeze b c) w:={
           size:=zal _,os:=rfl,tape:=rfl,output:=rfl,K:=hK,sm:=fun _ _ h=>h,
           eM:=fun k _ a=>⟨f k _ a (by simp),rfl⟩
           kL:=fun k τ _ a=>.inr ⟨τ,f k _ a (by simp)⟩
           jK:=fun k o v _ a p=>by
            simp only[Gh.freeze]at p
            rwa [zad (by rintro rfl;rw[hr]at a;simp at a)]at p}
 refine⟨⟨?_,?_,?_,?_,hi.jJ,?_,?_,?_,hi.iE,hi.kM l⟩,m,l⟩
 .intro k o v a;simp only[Gh.freeze]at a;split at a
  .rename_i e;subst e;simp[World.cell?,x,a]
  .exact hi.known k o v a
 .intro k o v a;simp only[Gh.freeze]at a;split at a
  .rename_i e;subst e;left;simp[Gh.freeze]
  .rename_i e;simp only[Gh.freeze,zad e];exact hi.bn k o v a
 .intro k a;simp only[Gh.freeze];split
  .rfl
  .exact hi.fresh k a
 .intro d cs hd;obtain⟨i,e1,e2,e3⟩:=hi.dz d cs hd;exact⟨i,e1,e2.mono m ((f i _ e2.role (by simp)).trans e2.role.symm) rfl,e3⟩
 .intro s' cs g;rw[zax]at g;split at g
  .split at g<;>simp at g
  .rename_i q;obtain⟨i,e1,e2,e3⟩:=hi.eD s' cs g;exact⟨i,e1,e2.mono m ((f i.1 _ e2.role (by simp;exact fun h=>q h.symm)).trans e2.role.symm) rfl,e3⟩
 .intro s' i h;simpa using hi.ix s' i h
 .intro τ n hn;obtain⟨tk,e1,e2,e3⟩:=hi.dO τ n hn;refine⟨tk,e1,e2,e3.cap,e3.zero,fun u=>?_⟩;obtain⟨i,o,z,ty,f1,f2,f3,y,f5⟩:=e3.spare u;refine⟨i,o,z,ty,f1,f i _ f2 (by simp),f3,y,fun j v a=>f5 j v ?_⟩;simp only[Gh.freeze]at a
  rwa [zad (by rintro rfl;rw[hr]at f2;simp at f2)]at a
def kX(ns:Names)(G G':Gh)(sh:Sh)(ks:List Nat):Prop:=
 ∀s∈ks,∀cells,sh[s]?=some (some cells)->dR cells=false->∃b vs,G.sm s=some b/\At G'.K b.1 0 vs/\aA (num ns) G' cells vs
def Cg(h:∀cells,sh[s]?≠some (some cells)):sh.set s none=sh:=by
 apply zbW
 intro j;rw[zax];split
 .rename_i e;subst e;split
  .rename_i a;cases b:sh[s]with
   |none=>rw[zbf a,b]
   |some cells=>exact absurd (by rw[zbf a,b]) (h cells)
  .rename_i c;rw[zaX (by omega)]
 .rfl
def Inv.drop{G:Gh}(hi:Inv (num ns) G w mem sh aa)(s:Nat):Inv (num ns) G w mem (sh.set s none) aa:=
 { hi with
  eD:=fun s' cells hs=>by
   rw[zax]at hs;split at hs
   .split at hs<;>simp at hs
   .exact hi.eD s' cells hs
  ix:=fun s' b h=>by simpa using hi.ix s' b h}
def Inv.kill:∀(ks:List Nat){sh:Sh}{G:Gh},Inv (num ns) G w mem sh aa->
   ∃G',Inv (num ns) G' w mem (kill sh ks) aa/\G.le G'/\bZ G w G' w/\kX ns G G' sh ks/\G'.sm=G.sm
 |[],sh,G,hi=>⟨G,hi,G.le_refl,bZ.refl G w,fun s h=>by simp at h,rfl⟩
 |s::ks,sh,G,hi=>by
  have n:Go.Ab.kill sh (s::ks)=Go.Ab.kill (sh.set s none) ks:=rfl;by_cases hs:∃cells,sh[s]?=some (some cells)
  .obtain⟨cells,hs⟩:=hs;obtain⟨b,e1,e2,_⟩:=hi.eD s cells hs;cases l:dR cells with
   |true=>
    obtain⟨G',h1,h2,h3,h4,h5⟩:=Inv.kill ks (hi.drop s);refine⟨G',by rw[n];exact h1,h2,h3,?_,h5⟩;intro s' a cells' d f;by_cases g:s'=s
    .subst g;rw[hs]at d;cases d;rw[l]at f;cases f
    .simp only[zah]at a;exact h4 s' (a.resolve_left g) cells' (by rw[zax,zad (fun e=>g e.symm)];exact d) f
   |false=>
   obtain⟨hr,c,t,vs,suf,o,_,m,k⟩:=e2.cells l;obtain⟨g1,g2,p⟩:=hi.freeze (cells:=cells) hr o;obtain⟨G',h1,h2,h3,h4,h5⟩:=Inv.kill ks g1;refine⟨G',by rw[n];exact h1,Gh.le_trans g2 h2,p.trans h3,?_,h5⟩;intro s' a cells' d f;by_cases g:s'=s
   .subst g;rw[hs]at d;cases d;refine⟨b,vs,e1,?_,aA.mono (Gh.le_trans g2 h2) k⟩;intro j v hj;apply h2.K;simp only[Gh.freeze,za4,zbK];have:c.toList[j]?=some v:=by rw[m,zao (zaa.1 hj).1];exact hj
    simpa using this
   .simp only[zah]at a;have:=h4 s' (a.resolve_left g) cells' (by rw[zax,zad (fun e=>g e.symm)];exact d) f;exact this
  .have i:=Cg (sh:=sh) (s:=s) (fun cells h=>hs ⟨cells,h⟩);obtain⟨G',h1,h2,h3,h4,h5⟩:=Inv.kill ks hi;refine⟨G',by rw[n,i];exact h1,h2,h3,?_,h5⟩;intro s' a cells' d f;simp only[zah]at a;rcases a with rfl|a
   .exact absurd ⟨cells',d⟩ hs
   .exact h4 s' a cells' d f
theorem Kx{cs:List AV}{ps:List PV}(h:fM cs=some ps):dR cs=false:=by
 cases cs with
 |nil=>rfl
 |cons c cs=>cases c<;>first|rfl|simp[fM,jH]at h
def Ci:∀{cs:List AV}{ps:List PV}{vs:List Value},fM cs=some ps->cs.all a9=true->aA (num ns) G cs vs->d9 G.K ps vs
 |[],ps,vs,h,_,hr=>by simp[fM]at h;subst h;simp only[aA]at hr;simp[d9,hr]
 |c::cs,ps,vs,h,hl,hr=>by
  simp only[fM]at h;simp only[za1,zaj]at hl;split at h
  .rename_i p a h1 h2;simp at h;subst h;simp only[aA]at hr;obtain⟨v,r,rfl,e1,e2⟩:=hr;simp only[d9];exact⟨v,r,rfl,(qH h1 e1).NL (r_ h1 hl.1),Ci h2 hl.2 e2⟩
  .simp at h
def yA:∀(n:Nat){ps:List PV}{vs:List Value}{o:Nat},d9 K ps vs->ps.length=n*sz->At K b o vs->Row K b o sz ((chunk sz n ps).map .agg)
 |0,_,_,_,_,_,_=>by simp only[chunk,zbc,Row]
 |n+1,ps,vs,o,hr,hl,a=>by
  have c:=hr.length;rw[zaG]at hl;simp only[chunk,zan,Row];refine⟨⟨vs.take sz,by simp;omega,?_,?_⟩,yA n (d9.drop sz hr) (by simp;omega) ?_⟩
  .intro j v hj;rw[zbG]at hj;split at hj
   .exact a j v hj
   .simp at hj
  .simp only[R];exact⟨trivial,d9.take sz hr⟩
  .intro j v hj;rw[zb8]at hj;have:=a _ v hj
   rwa [<-zbD]at this
theorem qK:∀(n:Nat)(ps:List PV),(chunk sz n ps).length=n
 |0,_=>rfl
 |n+1,ps=>by simp[chunk,qK n]
def vO:∀{ps:List PV}{vs:List Value}{o:Nat},d9 K ps vs->At K b o vs->Row K b o 1 ps
 |[],_,_,_,_=>by simp only[Row]
 |p::ps,vs,o,hr,a=>by
  simp only[d9]at hr;obtain⟨v,r,rfl,e1,e2⟩:=hr;simp only[Row];refine⟨⟨[v],rfl,?_,R.top e1⟩,vO e2 ?_⟩
  .intro j u hj;cases j with
   |zero=>simp at hj;subst hj;exact a 0 v rfl
   |succ j=>simp at hj
  .intro j u hj;have:=a (j+1) u (by simpa using hj)
   rwa [show o+(j+1)=o+1+j from by omega]at this
def NU{l:List AV}(n:Nat)(h:l.all a9=true):(l.take n).all a9=true:=by
 rw[zas]at h⊢;exact fun x hx=>h x (zbh hx)
def qL(i:G.le G')(hf:kX ns G G' sh ks)(hl:∀(s:Nat)(cells:List AV),sh[s]?=some (some cells)->cells.all a9=true)
   (m:∀s∈iv x,s∈ks) (hx:∀cs,x≠.agg cs) (h:eG sh x=some p) (hr:aD (num ns) G x O):Rel G'.K p O:=by
 cases x with
 |bl s sz n ag=>
  simp only[eG]at h;split at h
  .rename_i cells k
   have key:∀ps els,fM (cells.take (n*sz))=some ps->dR cells=false->n*sz<=cells.length->ie sz ag n ps=some els->Rel G'.K (.ae els) O:=by
    intro ps els h1 d a h2;obtain⟨b,vs,e1,e2,e3⟩:=hf s (m s (by simp[iv])) cells k d;simp only[aD]at hr;obtain⟨o,cap,l,rfl,_⟩:=hr;rw[e1]at l;cases l;have e:aA (num ns) G' (cells.take (n*sz)) (vs.take (n*sz)):=e3.take _
    have f:At G'.K b.1 0 (vs.take (n*sz)):=by
     intro j u hj;rw[zbG]at hj;split at hj
     .exact e2 j u hj
     .simp at hj
    have c:=Ci h1 (NU _ (hl s cells k)) e;have g:ps.length=n*sz:=(by rw[<-c.length,e.length,zb2];omega);unfold ie at h2;split at h2
    .simp at h2;subst h2;refine cJ.2 ⟨_,_,_,rfl,by omega,by simp[qK],.inr ⟨b.1,0,sz,rfl,yA n c g f⟩⟩
    .simp only[zab,zag]at h2;obtain⟨rfl,rfl⟩:=h2;exact cJ.2 ⟨_,_,_,rfl,by omega,by omega,.inr ⟨b.1,0,1,rfl,vO c f⟩⟩
   split at h
   .rename_i a;simp only[zac,zau]at h;obtain⟨els,⟨ps,h1,h2⟩,rfl⟩:=h;exact key ps els (by rw[zaz (by omega)];exact h1) (Kx h1) (by omega) h2
   .simp only[zab,zac,zau]at h;obtain⟨⟨d,a⟩,els,⟨ps,h1,h2⟩,rfl⟩:=h;exact key ps els h1 d a h2
  .simp at h
 |agg cs=>exact absurd rfl (hx cs)
 |_=>simp only[eG]at h;exact(qH h hr).mono i.K
def x4(h:eG sh x=some p)(hl:a9 x=true):jI p=true:=by
 cases x with
 |bl s sz n ag=>
  simp only[eG]at h;split at h
  .split at h
   .simp only[zac]at h;obtain⟨els,_,rfl⟩:=h;rfl
   .simp only[zab,zac]at h;obtain⟨_,els,_,rfl⟩:=h;rfl
  .simp at h
 |_=>simp only[eG]at h;exact r_ h hl
def z_(h:a9 x=true):∀cs,x≠.agg cs:=by
 rintro cs rfl;simp[a9]at h
def pX(b:G.le G')(hf:kX ns G G' sh ks)(hl:∀(s:Nat)(cells:List AV),sh[s]?=some (some cells)->cells.all a9=true):
   ∀{cs:List AV}{ps:List PV}{vs:List Value},(∀s∈iv (.agg cs),s∈ks)->eY sh cs=some ps->aA (num ns) G cs vs->d9 G'.K ps vs
 |[],ps,vs,_,h,hr=>by simp[eY]at h;subst h;simp only[aA]at hr;simp[d9,hr]
 |c::cs,ps,vs,d,h,hr=>by
  simp only[eY,zab]at h;obtain⟨a,h⟩:=h;split at h
  .rename_i p e h1 h2;simp at h;subst h;simp only[aA]at hr;obtain⟨v,r,rfl,e1,e2⟩:=hr;simp only[d9];refine⟨v,r,rfl,(qL b hf hl ?_ (z_ a) h1 e1).NL (x4 h1 a),pX b hf hl ?_ h2 e2⟩
   .intro s hs;refine d s ?_;simp only[iv,zaq,zae];left;cases c<;>simp_all[iv,a9]
   .intro s hs;refine d s ?_;simp only[iv,zaq,zae]at hs⊢;exact .inr hs
  .simp at h
def vP(b:G.le G')(hf:kX ns G G' sh ks)(hl:∀(s:Nat)(cells:List AV),sh[s]?=some (some cells)->cells.all a9=true)
      (c:∀s∈iv x,s∈ks) (h:eQ sh x=some p) (hr:aD (num ns) G x O):Rel G'.K p O:=by
 by_cases hx:∃cs,x=.agg cs
 .obtain⟨cs,rfl⟩:=hx;simp only[eQ,zac]at h;obtain⟨ps,h1,rfl⟩:=h;simp only[aD]at hr;obtain⟨vs,rfl,hr⟩:=hr;simp only[Rel];exact⟨vs,rfl,pX b hf hl c h1 hr⟩
 .have a:∀cs,x≠.agg cs:=fun cs e=>hx ⟨cs,e⟩;have:eQ sh x=eG sh x:=by cases x<;>first|rfl|exact absurd rfl (a _)
  rw[this]at h;exact qL b hf hl c a h hr
def tE(a:G.le G')(hf:kX ns G G' sh ks)(hl:∀(s:Nat)(cells:List AV),sh[s]?=some (some cells)->cells.all a9=true):
   ∀{xs:List AV}{ps:List PV}{vs:List Value},(∀s∈xs.flatMap iv,s∈ks)->dS sh xs=some ps->aA (num ns) G xs vs->mL G'.K ps vs
 |[],ps,vs,_,h,hr=>by simp[dS]at h;subst h;simp only[aA]at hr;exact hr
 |c::cs,ps,vs,b,h,hr=>by
  simp only[dS]at h;split at h
  .rename_i p d h1 h2;simp at h;subst h;simp only[aA]at hr;obtain⟨v,r,rfl,e1,e2⟩:=hr;simp only[zaq,zae]at b;exact⟨v,r,rfl,vP a hf hl (fun s hs=>b s (.inl hs)) h1 e1,tE a hf hl (fun s hs=>b s (.inr hs)) h2 e2⟩
  .simp at h
def Inv.Aa(hi:Inv (num ns) G w mem sh aa):∀(s:Nat)(cells:List AV),sh[s]?=some (some cells)->cells.all a9=true:=by
 intro s cells hs;obtain⟨b,_,_,e3,_⟩:=hi.eD s cells hs;exact mQ e3
end
section
variable {ns:Names} {G:Gh} {w:World}
mutual
theorem iL{ρ:bV}{G':Gh}(hK:G.K.le G'.K)(hs:∀s b,G.sm s=some b->G'.sm s=some b):∀{x:AV}{v:Value},bB x=true->aD ρ G x v->aD ρ G' x v
 | .pv p,_,_,h=>by simp only[aD]at h⊢;exact h.mono hK
 | .un,_,_,h=>by simpa only[aD]using h
 | .dm _,_,_,h=>by simp only[aD]at h⊢;obtain⟨b,l,e,r⟩:=h;exact⟨b,l,e,r.mono hK⟩
 | .aL s o,_,_,h=>by simp only[aD]at h⊢;obtain⟨b,e,r⟩:=h;exact⟨b,hs _ _ e,r⟩
 | .bl s _ n _,_,_,h=>by simp only[aD]at h⊢;obtain⟨b,c,e,r⟩:=h;exact⟨b,c,hs _ _ e,r⟩
 | .et _,_,_,h=>by simp only[aD]at h⊢;obtain⟨b,o,vs,e,f,r⟩:=h;exact⟨b,o,vs,e,f.mono hK,d9.mono hK _ _ r⟩
 | .iN,_,_,h=>by simpa only[aD]using h
 | .kH s,_,_,h=>by simp only[aD]at h⊢;obtain⟨b,e,r⟩:=h;exact⟨b,hs _ _ e,r⟩
 | .rT s _ _,_,_,h=>by simp only[aD]at h⊢;obtain⟨b,x,c,e,r⟩:=h;exact⟨b,x,c,hs _ _ e,r⟩
 | .gA _,_,_,h=>by simp only[aD]at h
 | .fn g cap,_,hp,h=>by
  simp only[bB]at hp;simp only[aD]at h⊢;obtain⟨f,vs,e1,e2,r⟩:=h;exact⟨f,vs,e1,e2,oQ hK hs hp r⟩
 | .agg cs,_,hp,h=>by
  simp only[bB]at hp;simp only[aD]at h⊢;obtain⟨vs,e,r⟩:=h;exact⟨vs,e,oQ hK hs hp r⟩
 | .rQ cs,_,hp,h=>by
  simp only[bB]at hp;simp only[aD]at h⊢;obtain⟨vs,e,r⟩:=h;exact⟨vs,e,oQ hK hs hp r⟩
 | .own _ _,_,hp,_=>by simp[bB]at hp
 | .au _ _,_,hp,_=>by simp[bB]at hp
 | .ug _ _,_,hp,_=>by simp[bB]at hp
theorem oQ{ρ:bV}{G':Gh}(hK:G.K.le G'.K)(hs:∀s b,G.sm s=some b->G'.sm s=some b):∀{xs:List AV}{vs:List Value},bB.ep xs=true->aA ρ G xs vs->aA ρ G' xs vs
 |[],_,_,h=>by simpa only[aA]using h
 |x::xs,_,hp,h=>by
  simp only[bB.ep,zaj]at hp;simp only[aA]at h⊢;obtain⟨v,r,e,e1,e2⟩:=h;exact⟨v,r,e,iL hK hs hp.1 e1,oQ hK hs hp.2 e2⟩
end
mutual
theorem mY:∀{x:AV},bU x=true->bB x=true
 | .pv _,_=>rfl
 | .aL ..,_=>rfl
 | .bl ..,_=>rfl
 | .iN,_=>rfl
 | .kH _,_=>rfl
 | .gA _,_=>rfl
 | .rT ..,h=>by simp[bU]at h
 | .fn _ cap,h=>by simp only[bU]at h;simp only[bB];exact pY h
 | .un,h=>by simp[bU]at h
 | .dm _,h=>by simp[bB]
 | .own _ _,h=>by simp[bU]at h
 | .agg _,h=>by simp only[bU]at h;simp only[bB];exact pY h
 | .rQ _,h=>by simp[bU]at h
 | .au _ _,h=>by simp[bU]at h
 | .ug _ _,h=>by simp[bU]at h
 | .et _,h=>by simp[bU]at h
theorem pY:∀{xs:List AV},bU.ji xs=true->bB.ep xs=true
 |[],_=>rfl
 |x::xs,h=>by
  simp only[bU.ji,zaj]at h;simp only[bB.ep,zaj];exact⟨mY h.1,pY h.2⟩
end
variable{ρ:bV}{G':Gh}{x:AV}{O:Value}{live:List Nat}{mem:List (Nat×List AV)}
def Ky(hK:G.K.le G'.K)(hs:∀s b,G.sm s=some b->G'.sm s=some b)(ht:∀τ t,G.tk τ=some t->G'.tk τ=some t)(hf:pC x=true)(h:aD ρ G x O):aD ρ G' x O:=by
 cases x with
 |own l τ=>
  simp only[aD]at h⊢;obtain⟨t,e1,e2,e3,e4⟩:=h;exact⟨t,ht _ _ e1,e2,e3.mono hK,fun hl=>⟨(e4 hl).1,Sz (e4 hl).2 fun⟨b,o,e,r⟩=>⟨b,o,e,Row.mono hK _ _ _ _ r⟩⟩⟩
 |_=>exact iL hK hs (by simpa[pC]using hf) h
def pZ(hK:G.K.le G'.K)(hs:∀s b,G.sm s=some b->G'.sm s=some b)(ht:∀τ t,G.tk τ=some t->G'.tk τ=some t):∀{xs:List AV}{vs:List Value},iD xs=true->aA ρ G xs vs->aA ρ G' xs vs
 |[],_,_,h=>by simpa only[aA]using h
 |x::xs,_,hp,h=>by
  simp only[iD,zaj]at hp;simp only[aA]at h⊢;obtain⟨v,r,e,e1,e2⟩:=h;exact⟨v,r,e,Ky hK hs ht hp.1 e1,pZ hK hs ht hp.2 e2⟩
def vQ(h:a9 x=true):bB x=true\/∃l τ,x=.own l τ:=by
 cases x with
 |own l τ=>exact .inr ⟨l,τ,rfl⟩
 |fn g cap=>exact .inl (mY (by simpa[a9]using h))
 |pv p=>exact .inl rfl
 |dm _=>exact .inl rfl
 |aL _ _=>exact .inl rfl
 |bl _ _ _ _=>exact .inl rfl
 |iN=>exact .inl rfl
 |kH _=>exact .inl rfl
 |gA _=>exact .inl rfl
 |_=>simp[a9]at h
def dZ{env:List (Nat×AV)}:∀{l:List Nat}{t:Nat}{v:AV},look (bM live env l) t=some v->look env t=some v/\ia live v=true/\t∈l
 |[],t,v,h=>by simp[bM,look]at h
 |s::l,t,v,h=>by
  simp only[bM]at h;split at h
  .rename_i u hu;split at h
   .rename_i a;simp only[look]at h;split at h
    .rename_i e;subst e;cases h;exact⟨hu,a,by simp⟩
    .obtain⟨h1,h2,h3⟩:=dZ h;exact⟨h1,h2,by simp[h3]⟩
   .obtain⟨h1,h2,h3⟩:=dZ h;exact⟨h1,h2,by simp[h3]⟩
  .obtain⟨h1,h2,h3⟩:=dZ h;exact⟨h1,h2,by simp[h3]⟩
def d5:∀{l:List Nat}{t:Nat},look (bR mem l) t=if t∈l then look mem t else none
 |[],t=>by simp[bR,look]
 |s::l,t=>by
  simp only[bR];by_cases a:s=t
  .subst a;cases hm:look mem s with
   |none=>simp only[hm];rw[d5,hm];simp
   |some v=>simp[look]
  .have tF:t≠s:=fun e=>a e.symm;cases hm:look mem s with
   |none=>simp only[hm];rw[d5];simp[tF]
   |some v=>simp only[look,a,zbr];rw[d5];simp[tF]
def Gh.a6(G:Gh)(live:List Nat):Gh:={G with pm:=fun d=>if d∈live then G.pm d else none}
def Cj(a:ia live x=true)(h:aD ρ G x O):aD ρ (G.a6 live) x O:=by
 have flat:bB x=true->aD ρ (G.a6 live) x O:=fun hf=>iL (G:=G) (G':=G.a6 live) (bA.le_refl G.K) (fun _ _ h=>h) hf h;cases x with
 |au d o=>
  simp only[aD]at h⊢;obtain⟨b,e,r⟩:=h;simp[ia]at a;exact⟨b,by simp[Gh.a6,a,e],r⟩
 |ug d o=>
  simp only[aD]at h⊢;obtain⟨b,e,r⟩:=h;simp[ia]at a;exact⟨b,by simp[Gh.a6,a,e],r⟩
 |own l τ=>
  simp only[aD]at h⊢;exact h
 |agg cs=>
  simp only[aD]at h⊢;obtain⟨vs,e,r⟩:=h;exact⟨vs,e,pZ (G:=G) (G':=G.a6 live) (bA.le_refl G.K) (fun _ _ h=>h) (fun _ _ h=>h) (by simpa[ia]using a) r⟩
 |_=>exact flat (by simpa[ia]using a)
def Kz(hl:a9 x=true)(h:aD ρ G x O):aD ρ (G.a6 live) x O:=by
 rcases vQ hl with hf|⟨l,τ,rfl⟩
 .exact iL (G:=G) (G':=G.a6 live) (bA.le_refl G.K) (fun _ _ h=>h) hf h
 .simp only[aD]at h⊢;exact h
def nW:∀{xs:List AV}{vs:List Value},xs.all a9=true->aA ρ G xs vs->aA ρ (G.a6 live) xs vs
 |[],_,_,h=>by simpa only[aA]using h
 |x::xs,_,hl,h=>by
  simp only[za1,zaj]at hl;simp only[aA]at h⊢;obtain⟨v,r,e,e1,e2⟩:=h;exact⟨v,r,e,Kz hl.1 e1,nW hl.2 e2⟩
def Inv.a6{sh:Sh}{aa:aH}(hi:Inv (num ns) G w mem sh aa)(live:List Nat):Inv (num ns) (G.a6 live) w (bR mem live) sh aa where
 known:=hi.known
 bn:=hi.bn
 fresh:=hi.fresh
 dz:=fun d cells hd=>by
  rw[d5]at hd;split at hd
  .rename_i hl;obtain⟨b,e1,e2,e3⟩:=hi.dz d cells hd;obtain⟨hr,c,t,f,a⟩:=e2;exact⟨b,by simp[Gh.a6,hl,e1],⟨hr,c,t,f,nW e3 a⟩,e3⟩
  .simp at hd
 jJ:=fun d b hd=>by
  simp only[Gh.a6]at hd;split at hd
  .rename_i hl;rw[d5,zai hl];exact hi.jJ d b hd
  .simp at hd
 eD:=fun s cells hs=>by
  obtain⟨b,e1,e2,e3,e4⟩:=hi.eD s cells hs;obtain⟨hr,o,f,a⟩:=e2;exact⟨b,e1,⟨hr,o,f,a.to (fun _ _ _ h=>h) (fun _ e=>e) (fun _ r=>nW (mQ e3) r)⟩,e3,e4⟩
 ix:=hi.ix
 dO:=fun τ n hn=>by
  obtain⟨t,e1,e2,e3⟩:=hi.dO τ n hn;exact⟨t,e1,e2,e3.cap,e3.zero,e3.spare⟩
 iE:=hi.iE
 py:=hi.py
def bZ.a6(live:List Nat):bZ G w (G.a6 live) w:=
 {size:=zal _,os:=rfl,tape:=rfl,output:=rfl,K:=bA.le_refl G.K,sm:=fun _ _ h=>h,eM:=fun _ _ h=>⟨h,rfl⟩,kL:=fun _ τ _ h=>.inr ⟨τ,h⟩,jK:=fun _ _ _ _ _ h=>h}
def iU.restrict{n0 N:Nat}{st:St}{V:Act}(h:iU (num ns) n0 N G st V w)(live:List Nat):iU (num ns) n0 N (G.a6 live) (restrict live st) V w:=
 ⟨⟨h.env.size,fun t x hx=>by
  obtain⟨h1,h2,_⟩:=dZ hx;obtain⟨v,h3,h4⟩:=h.env.env t x h1;exact⟨v,h3,Cj h2 h4⟩⟩,h.inv.a6 live,h.marks.BI (bZ.a6 live) rfl⟩
end
section
variable {ns:Names} {G:Gh} {w:World}
structure NS(G:Gh)(aQ ts:aH)(m:Nat->Option Nat)(tks:List Tk):Prop where
 ts:ts=tks.map (·.len)
 map:∀τ k,m τ=some k->∃t,G.tk τ=some t/\tks[k]?=some t
 inj:∀τ σ k,m τ=some k->m σ=some k->τ=σ
 free:∀τ t,G.tk τ=some t->m τ=none->aQ[τ]?=some t.len
 used:∀τ t k,G.tk τ=some t->m τ=some k->aQ[τ]?=some (t.len+1)
 cap:∀k t,tks[k]?=some t->(∃τ,m τ=some k)\/(t.cap=t.len/\t.own=false)
def Gh.oK(G:Gh)(m:Nat->Option Nat)(tks:List Tk):Gh:=
 {G with tk:=fun k=>tks[k]?,role:=fun b=>match G.role b with| .tok τ=>(match m τ with|some k=>.tok k|none=>.eM)|r=>r}
variable{m:Nat->Option Nat}{tks:List Tk}{x:AV}{O:Value}{ts aQ aa:aH}{n:Nat}{mem:List (Nat×List AV)}{sh:Sh}
def XA{m':Nat->Option Nat}{ext:List Tk}:(G.oK m tks).le (G.oK m' (tks++ext)) where
 K:=bA.le_refl G.K
 pm:=fun _ _ h=>h
 sm:=fun _ _ h=>h
 tk:=fun k t h=>⟨t,by
  simp only[Gh.oK]at h⊢;rw[zao (zaa.1 h).1];exact h,⟨zal _,Tk.jA _⟩,fun _=>rfl⟩
def Cm{ρ:bV}(hf:bB x=true)(h:aD ρ G x O):aD ρ (G.oK m tks) x O:=
 iL (G:=G) (G':=G.oK m tks) (bA.le_refl G.K) (fun _ _ h=>h) hf h
def mZ{b τ:Nat}(h:G.role b=.tok τ):(G.oK m tks).role b=match m τ with|some k=>.tok k|none=>.eM:=by
 show (match G.role b with| .tok τ=>(match m τ with|some k=>pR.tok k|none=>.eM)|r=>r)=_;rw[h]
def nC:AV->Bool
 | .au ..| .ug ..| .own ..=>true
 | .agg cs=>iD cs
 |v=>bB v
structure KA(ns:Names)(G:Gh)(m:Nat->Option Nat)(tks:List Tk)(old' ts':aH)(m':Nat->Option Nat)(tks':List Tk):Prop where
 Cn:NS G old' ts' m' tks'
 ext:∃ext,tks'=tks++ext
def KA.le{m':Nat->Option Nat}{tks':List Tk}{ts':aH}(h:KA ns G m tks ts ts' m' tks'):(G.oK m tks).le (G.oK m' tks'):=by
 obtain⟨ext,e⟩:=h.ext;subst e;exact XA
theorem tG(hN:NS G aQ ts m tks)(hx:pC x=true)(h:aD (num ns) G x O):
   ∃m' tks',KA ns G m tks (eZ aQ ts x).2.1 (eZ aQ ts x).2.2 m' tks'/\aD (num ns) (G.oK m' tks') (eZ aQ ts x).1 O:=by
 have flat:bB x=true->eZ aQ ts x=(x,aQ,ts)->∃m' tks',KA ns G m tks (eZ aQ ts x).2.1 (eZ aQ ts x).2.2 m' tks'/\aD (num ns) (G.oK m' tks') (eZ aQ ts x).1 O:=by
  intro hf e;rw[e];exact⟨m,tks,⟨hN,[],by simp⟩,Cm hf h⟩
 cases x with
 |own l τ=>
  simp only[aD]at h;obtain⟨t,e1,e2,e3,e4⟩:=h;simp only[eZ];split
  .rename_i g
   have hm:m τ=none:=by
    cases hm:m τ with
    |none=>rfl
    |some k=>
     have:=hN.used τ t k e1 hm;rw[g]at this;simp at this;omega
   have b:l.length=t.len:=by
    have:=hN.free τ t e1 hm;rw[g]at this;simpa using this
   have i:ts.length=tks.length:=(by rw[hN.ts];simp);refine⟨fun σ=>if σ=τ then some tks.length else m σ,tks++[t],⟨⟨?_,?_,?_,?_,?_,?_⟩,[t],rfl⟩,?_⟩
   .rw[hN.ts,b];simp
   .intro σ k a;split at a
    .rename_i e;subst e;simp at a;subst a;exact⟨t,e1,by simp⟩
    .obtain⟨t',g1,g2⟩:=hN.map σ k a;exact⟨t',g1,by rw[zao (zaa.1 g2).1];exact g2⟩
   .intro σ f k h1 h2;split at h1
    .rename_i e;subst e;split at h2
     .rename_i d;exact d.symm
     .simp at h1;subst h1;obtain⟨t',_,g2⟩:=hN.map f _ h2;have:=(zaa.1 g2).1;omega
    .split at h2
     .rename_i d;subst d;simp at h2;subst h2;obtain⟨t',_,g2⟩:=hN.map σ _ h1;have:=(zaa.1 g2).1;omega
     .exact hN.inj σ f k h1 h2
   .intro σ t' h1 h2;split at h2
    .simp at h2
    .rename_i e;rw[zax,zad (fun d=>e d.symm)];exact hN.free σ t' h1 h2
   .intro σ t' k h1 h2;split at h2
    .rename_i e;subst e;rw[e1]at h1;cases h1;rw[zax,zai rfl,zai (zaa.1 g).1,b]
    .rename_i e;rw[zax,zad (fun d=>e d.symm)];exact hN.used σ t' k h1 h2
   .intro k t' a;rw[zbv]at a;split at a
    .rcases hN.cap k t' a with⟨σ,c⟩|n
     .left;refine⟨σ,?_⟩;rw[zad]
      .exact c
      .rintro rfl;rw[hm]at c;simp at c
     .exact .inr n
    .rename_i j;left;refine⟨τ,?_⟩
     have:k=tks.length:=by
      have:=(zaa.1 a).1;simp at this;omega
     simp[this]
   .simp only[aD];refine⟨t,by simp[Gh.oK,i],⟨by omega,e2.2⟩,e3,fun _=>e4 b⟩
  .exact⟨m,tks,⟨hN,[],by simp⟩,by simp only[aD];exact e3⟩
 |_=>exact flat (by simpa[pC]using hx) rfl
def qM:∀{xs:List AV}{vs:List Value}{aQ ts:aH}{m:Nat->Option Nat}{tks:List Tk},NS G aQ ts m tks->iD xs=true->aA (num ns) G xs vs->
   ∃m' tks',KA ns G m tks (cX aQ ts xs).2.1 (cX aQ ts xs).2.2 m' tks'/\aA (num ns) (G.oK m' tks') (cX aQ ts xs).1 vs
 |[],vs,aQ,ts,m,tks,hN,_,h=>⟨m,tks,⟨hN,[],by simp⟩,by simpa only[cX,aA]using h⟩
 |x::xs,vs,aQ,ts,m,tks,hN,hl,h=>by
  simp only[iD,zaj]at hl;simp only[aA]at h;obtain⟨v,r,e,e1,e2⟩:=h;subst e;obtain⟨m1,t1,g1,g2⟩:=tG hN hl.1 e1;obtain⟨m2,d,c,k2⟩:=qM g1.Cn hl.2 e2;refine⟨m2,d,⟨c.Cn,?_⟩,?_⟩
  .obtain⟨a,g⟩:=g1.ext;obtain⟨b,f⟩:=c.ext;exact⟨a++b,by rw[f,g,zaF]⟩
  .simp only[cX,aA];exact⟨v,r,rfl,g2.mono c.le,k2⟩
def nX(hN:NS G aQ ts m tks)(hx:nC x=true)(h:aD (num ns) G x O):
   ∃m' tks',KA ns G m tks (bz aQ ts x).2.1 (bz aQ ts x).2.2 m' tks'/\aD (num ns) (G.oK m' tks') (bz aQ ts x).1 O:=by
 have flat:bB x=true->bz aQ ts x=(x,aQ,ts)->∃m' tks',KA ns G m tks (bz aQ ts x).2.1 (bz aQ ts x).2.2 m' tks'/\aD (num ns) (G.oK m' tks') (bz aQ ts x).1 O:=by
  intro hf e;rw[e];exact⟨m,tks,⟨hN,[],by simp⟩,Cm hf h⟩
 cases x with
 |own l τ=>exact tG (x:=.own l τ) hN rfl h
 |dm l=>
  simp only[aD]at h;obtain⟨base,len,rfl,f⟩:=h;have i:ts.length=tks.length:=by rw[hN.ts];simp
  have c:=f.1
  obtain⟨sz,g⟩:∃sz,l=[]\/∃b o,base=some ⟨b,o,none⟩/\Row G.K b o sz l:=by
   rcases f.2 with h1|⟨b,o,sz,e,hr⟩
   .exact⟨0,.inl h1⟩
   .exact⟨sz,.inr ⟨b,o,e,hr⟩⟩
  let t:Tk:=⟨base,len,len,sz,false⟩
  refine⟨m,tks++[t],⟨⟨?_,?_,hN.inj,hN.free,hN.used,?_⟩,[t],rfl⟩,?_⟩
  .simp only[bz];rw[hN.ts];simp[t,c]
  .intro σ k a;obtain⟨t',g1,g2⟩:=hN.map σ k a;exact⟨t',g1,by rw[zao (zaa.1 g2).1];exact g2⟩
  .intro k t' a;rw[zbv]at a;split at a
   .exact hN.cap k t' a
   .right
    have:t'=t:=by
     have h1:=List.mem_of_getElem? a;simpa using h1
    rw[this];exact⟨rfl,rfl⟩
  .simp only[bz,aD];refine⟨t,by simp[Gh.oK,i],⟨by simp[t,c],t.uH⟩,cJ.2 ⟨_,_,_,rfl,zal _,f⟩,fun _=>⟨rfl,g⟩⟩
 |au d o=>
  simp only[bz];exact⟨m,tks,⟨hN,[],by simp⟩,by simp only[aD]at h⊢;exact h⟩
 |ug d o=>
  simp only[bz];exact⟨m,tks,⟨hN,[],by simp⟩,by simp only[aD]at h⊢;exact h⟩
 |pv p=>exact flat rfl rfl
 |un=>exact flat rfl rfl
 |aL _ _=>exact flat rfl rfl
 |bl _ _ _ _=>exact flat rfl rfl
 |et _=>exact flat rfl rfl
 |iN=>exact flat rfl rfl
 |fn _ _=>exact flat (by simpa[nC]using hx) rfl
 |agg cs=>
  by_cases hf:bB.ep cs=true
  .exact flat (by simpa[bB]using hf) (by simp only[bz];rw[zai hf])
  .simp only[aD]at h;obtain⟨vs,rfl,r⟩:=h;obtain⟨m',tks',g1,g2⟩:=qM hN (by simpa[nC]using hx) r;have e:bz aQ ts (.agg cs)=(.agg (cX aQ ts cs).1,(cX aQ ts cs).2.1,(cX aQ ts cs).2.2):=by simp only[bz];rw[zad hf]
   rw[e];exact⟨m',tks',g1,by simp only[aD];exact⟨vs,rfl,g2⟩⟩
 |rQ _=>exact flat (by simpa[nC]using hx) rfl
 |kH _=>exact flat rfl rfl
 |rT _ _ _=>exact flat rfl rfl
 |gA _=>simp only[aD]at h
def Fp(h:a9 x=true):nC x=true:=by
 rcases vQ h with hf|⟨l,τ,rfl⟩
 .cases x<;>simp_all[nC,bB,a9]
 .rfl
theorem Fq(h:a9 x=true):a9 (bz aQ ts x).1=true:=by
 cases x with
 |own l τ=>simp only[bz];split<;>rfl
 |dm l=>rfl
 |agg _=>simp[a9]at h
 |_=>exact h
def nY:∀{xs:List AV}{vs:List Value}{aQ ts:aH}{m:Nat->Option Nat}{tks:List Tk},NS G aQ ts m tks->xs.all a9=true->aA (num ns) G xs vs->
   ∃m' tks',KA ns G m tks (bo aQ ts xs).2.1 (bo aQ ts xs).2.2 m' tks'/\aA (num ns) (G.oK m' tks') (bo aQ ts xs).1 vs/\(bo aQ ts xs).1.all a9=true
 |[],vs,aQ,ts,m,tks,hN,_,h=>⟨m,tks,⟨hN,[],by simp⟩,by simpa only[bo,aA]using h,rfl⟩
 |x::xs,vs,aQ,ts,m,tks,hN,hl,h=>by
  simp only[za1,zaj]at hl;simp only[aA]at h;obtain⟨v,r,e,e1,e2⟩:=h;subst e;obtain⟨m1,t1,g1,g2⟩:=nX hN (Fp hl.1) e1;obtain⟨m2,d,c,k2,f⟩:=nY g1.Cn hl.2 e2;refine⟨m2,d,⟨c.Cn,?_⟩,?_,?_⟩
  .obtain⟨a,i⟩:=g1.ext;obtain⟨b,g⟩:=c.ext;exact⟨a++b,by rw[g,i,zaF]⟩
  .simp only[bo,aA];exact⟨v,r,rfl,g2.mono c.le,k2⟩
  .simp only[bo,za1,f,zcY];exact Fq hl.1
def tH{a:Act}:∀{env:List (Nat×AV)}{aQ ts:aH}{m:Nat->Option Nat}{tks:List Tk},NS G aQ ts m tks->
   (∀p∈env,nC p.2=true/\∃v,a.tmps[p.1]?=some v/\aD (num ns) G p.2 v)->
   ∃m' tks',KA ns G m tks (dL aQ ts env).2.1 (dL aQ ts env).2.2 m' tks'/\∀p∈(dL aQ ts env).1,∃v,a.tmps[p.1]?=some v/\aD (num ns) (G.oK m' tks') p.2 v
 |[],aQ,ts,m,tks,hN,_=>⟨m,tks,⟨hN,[],by simp⟩,by simp[dL]⟩
 |(t,x)::env,aQ,ts,m,tks,hN,h=>by
  obtain⟨hx,v,e,hr⟩:=h (t,x) (by simp);obtain⟨m1,t1,g1,g2⟩:=nX hN hx hr;obtain⟨m2,d,c,k2⟩:=tH (env:=env) (a:=a) g1.Cn (fun p hp=>h p (by simp[hp]));refine⟨m2,d,⟨c.Cn,?_⟩,?_⟩
  .obtain⟨a,g⟩:=g1.ext;obtain⟨b,f⟩:=c.ext;exact⟨a++b,by rw[f,g,zaF]⟩
  .intro p hp;simp only[dL,zah]at hp;rcases hp with rfl|hp
   .exact⟨v,e,g2.mono c.le⟩
   .exact k2 p hp
def XB(ns:Names)(G:Gh)(w:World)(d:Nat)(cells:List AV)(G':Gh):Prop:=
 ∃b c t,G.pm d=some b/\G.role b=.nO d/\w.heap[b]?=some (.cells c t (0,0))/\aA (num ns) G' cells c.toList/\cells.all a9=true
def tI:∀{mem:List (Nat×List AV)}{aQ ts:aH}{m:Nat->Option Nat}{tks:List Tk},NS G aQ ts m tks->
   (∀p∈mem,XB ns G w p.1 p.2 G)->
   ∃m' tks',KA ns G m tks (gH aQ ts mem).2.1 (gH aQ ts mem).2.2 m' tks'/\∀p∈(gH aQ ts mem).1,XB ns G w p.1 p.2 (G.oK m' tks')
 |[],aQ,ts,m,tks,hN,_=>⟨m,tks,⟨hN,[],by simp⟩,by simp[gH]⟩
 |(d,cells)::mem,aQ,ts,m,tks,hN,h=>by
  obtain⟨b,c,t,h1,h2,h3,h4,h5⟩:=h (d,cells) (by simp);obtain⟨m1,t1,g1,g2,j⟩:=nY hN h5 h4;obtain⟨m2,f,e,k2⟩:=tI (mem:=mem) g1.Cn (fun p hp=>h p (by simp[hp]));refine⟨m2,f,⟨e.Cn,?_⟩,?_⟩
  .obtain⟨a,i⟩:=g1.ext;obtain⟨b,g⟩:=e.ext;exact⟨a++b,by rw[g,i,zaF]⟩
  .intro p hp;simp only[gH,zah]at hp;rcases hp with rfl|hp
   .exact⟨b,c,t,h1,h2,h3,aA.mono e.le g2,j⟩
   .exact k2 p hp
def Fs(h:aN n x=true):aN n (eZ aQ ts x).1=true:=by
 unfold eZ;split
 .split<;>simp[aN]
 .exact h
theorem tJ:∀{xs:List AV}{aQ ts:aH},aN.cN n xs=true->aN.cN n (cX aQ ts xs).1=true
 |[],_,_,_=>rfl
 |x::xs,aQ,ts,h=>by
  simp only[aN.cN,zaj]at h;simp only[cX,aN.cN,Fs h.1,zbq];exact tJ h.2
def Ft(h:aN n x=true):aN n (bz aQ ts x).1=true:=by
 unfold bz;split
 .split<;>simp[aN]
 .simp[aN]
 .split
  .exact h
  .simp only[aN]at h⊢;exact tJ h
 .exact h
theorem vR:∀{xs:List AV}{aQ ts:aH},xs.all (aN n)=true->(bo aQ ts xs).1.all (aN n)=true
 |[],_,_,_=>rfl
 |x::xs,aQ,ts,h=>by
  simp only[za1,zaj]at h;simp only[bo,za1,Ft h.1,zbq];exact vR h.2
def lI:∀{sh:Sh}{aQ ts:aH}{m:Nat->Option Nat}{tks:List Tk}(R:Nat->Option (Obj×Nat)),NS G aQ ts m tks->
   (∀s cells,sh[s]?=some (some cells)->cells.all a9=true/\∃o,R s=some o/\Holds (num ns) G o.1 o.2 cells)->
   ∃m' tks',KA ns G m tks (bt aQ ts sh).2.1 (bt aQ ts sh).2.2 m' tks'/\(bt aQ ts sh).1.length=sh.length /\
     ∀s cells',(bt aQ ts sh).1[s]?=some (some cells')->∃cells,sh[s]?=some (some cells)/\(∃o,R s=some o/\Holds (num ns) (G.oK m' tks') o.1 o.2 cells')/\cells'.all a9=true/\∀n,cells.all (aN n)=true->cells'.all (aN n)=true
 |[],aQ,ts,m,tks,R,hN,_=>⟨m,tks,⟨hN,[],by simp⟩,rfl,fun s cells' h=>by simp[bt]at h⟩
 |none::sh,aQ,ts,m,tks,R,hN,h=>by
  obtain⟨m1,t1,g1,g2,f⟩:=lI (sh:=sh) (fun s=>R (s+1)) hN (fun s cells hs=>h (s+1) cells (by simpa using hs));refine⟨m1,t1,g1,by simp[bt,g2],fun s cells' hs=>?_⟩;cases s with
  |zero=>simp[bt]at hs
  |succ s=>
   obtain⟨cells,e,k2⟩:=f s cells' (by simpa[bt]using hs);exact⟨cells,by simpa using e,k2⟩
 |some cs::sh,aQ,ts,m,tks,R,hN,h=>by
  obtain⟨hl,o,r,hr⟩:=h 0 cs rfl
  obtain⟨m1,t1,g1,g2,f⟩:∃m' tks',KA ns G m tks (bo aQ ts cs).2.1 (bo aQ ts cs).2.2 m' tks'/\Holds (num ns) (G.oK m' tks') o.1 o.2 (bo aQ ts cs).1/\(bo aQ ts cs).1.all a9=true:=by
   rcases hr with⟨c,t,vs,suf,g,e3,e4,hr⟩|⟨u,d,kvs,g,rfl,hm⟩
   .obtain⟨m1,t1,g1,g2,f⟩:=nY hN hl hr;exact⟨m1,t1,g1,.inl ⟨c,t,vs,suf,g,e3,e4,g2⟩,f⟩
   .exact⟨m,tks,⟨hN,[],by simp⟩,.inr ⟨u,d,kvs,g,rfl,hm⟩,rfl⟩
  obtain⟨m2,i,e,k2,l⟩:=lI (sh:=sh) (fun s=>R (s+1)) g1.Cn (fun s cells hs=>h (s+1) cells (by simpa using hs));refine⟨m2,i,⟨e.Cn,?_⟩,by simp[bt,k2],fun s cells' hs=>?_⟩
  .obtain⟨a,q⟩:=g1.ext;obtain⟨b,p⟩:=e.ext;exact⟨a++b,by rw[p,q,zaF]⟩
  .cases s with
   |zero=>
    simp only[bt,zbw,zag]at hs;subst hs;exact⟨cs,rfl,⟨o,r,g2.mono e.le⟩,f,fun n hn=>vR hn⟩
   |succ s=>
    obtain⟨cells,k,j⟩:=l s cells' (by simpa[bt]using hs);exact⟨cells,by simpa using k,j⟩
def m4(G:Gh)(w:World)(s:Nat):Option (Obj×Nat):=(G.sm s).bind fun b=>(w.heap[b.1]?).map fun o=>(o,b.2)
def Inv.m4(hi:Inv (num ns) G w mem sh aa):∀s cells,sh[s]?=some (some cells)->cells.all a9=true/\∃o,Go.Ab.m4 G w s=some o/\Holds (num ns) G o.1 o.2 cells:=by
 intro s cells hs;obtain⟨b,e1,e2,e3,e4⟩:=hi.eD s cells hs;obtain⟨hr,o,c,a⟩:=e2;exact⟨e3,(o,b.2),by simp[Go.Ab.m4,e1,c],a⟩
def Inv.VP(hi:Inv (num ns) G w mem sh aa){sh':Sh}{G':Gh}(c:∀s,G'.sm s=G.sm s)(a:∀b s,G.role b=.shr s->G'.role b=.shr s)
   (h:∀s cells',sh'[s]?=some (some cells')->∃cells,sh[s]?=some (some cells)/\(∃o,Go.Ab.m4 G w s=some o/\Holds (num ns) G' o.1 o.2 cells')/\cells'.all a9=true/\∀n,cells.all (aN n)=true->cells'.all (aN n)=true):
   ∀s cells,sh'[s]?=some (some cells)->∃b,G'.sm s=some b/\zN (num ns) G' w b (.shr s) cells/\cells.all eo=true/\cells.all (aN (s+1))=true:=by
 intro s cells' hs;obtain⟨cells,h1,⟨o,h2,d⟩,h3,h4⟩:=h s cells' hs;obtain⟨b,e1,e2,e3,e4⟩:=hi.eD s cells h1;simp only[Go.Ab.m4,e1,za8,zac]at h2;obtain⟨o',h5,rfl⟩:=h2;exact⟨b,by rw[c];exact e1,⟨a b.1 s e2.role,o',h5,d⟩,h3,h4 _ e4⟩
def qN{α:Type}:∀{l:List (Nat×α)}{t:Nat}{x:α},look l t=some x->(t,x)∈l
 |[],_,_,h=>by simp[look]at h
 |(s,y)::l,t,x,h=>by
  simp only[look]at h;split at h
  .rename_i e;subst e;cases h;simp
  .exact List.mem_cons_of_mem _ (qN h)
def vS:∀{mem:List (Nat×List AV)}{aQ ts:aH}{d:Nat},(look mem d).isSome=true->(look (gH aQ ts mem).1 d).isSome=true
 |[],_,_,d,h=>by simp[look]at h
 |(s,y)::mem,aQ,ts,d,h=>by
  simp only[gH,look]at h⊢;split
  .rfl
  .rename_i a;rw[zad a]at h;exact vS h
def NS.start(hi:Inv (num ns) G w mem sh aa):NS G aa [] (fun _=>none) [] where
 ts:=rfl
 map:=by intro τ k h;simp at h
 inj:=by intro τ σ k h;simp at h
 free:=fun τ t h _=>hi.iE τ t h
 used:=by intro τ t k _ h;simp at h
 cap:=by intro k t h;simp at h
def fY{live:List Nat}{env:List (Nat×AV)}:∀{l:List Nat}{p:Nat×AV},p∈bM live env l->look env p.1=some p.2/\ia live p.2=true
 |[],p,h=>by simp[bM]at h
 |s::l,p,h=>by
  simp only[bM]at h;split at h
  .rename_i u hu;split at h
   .rename_i a;simp only[zah]at h;rcases h with rfl|h
    .exact⟨hu,a⟩
    .exact fY h
   .exact fY h
  .exact fY h
def jZ:∀{l:List Nat}{p:Nat×List AV},p∈bR mem l->look mem p.1=some p.2/\p.1∈l
 |[],p,h=>by simp[bR]at h
 |s::l,p,h=>by
  simp only[bR]at h;split at h
  .rename_i u hu;simp only[zah]at h;rcases h with rfl|h
   .exact⟨hu,by simp⟩
   .obtain⟨h1,h2⟩:=jZ h;exact⟨h1,by simp[h2]⟩
  .obtain⟨h1,h2⟩:=jZ h;exact⟨h1,by simp[h2]⟩
theorem iU.head{n0 N:Nat}{st:St}{V:Act}(h:iU (num ns) n0 N G st V w)(live:List Nat):∃G',iU (num ns) n0 N G' (norm (Go.Ab.restrict live st)) V w/\bZ G w G' w:=by
 have h0:=h.restrict live;have hi:=h0.inv
 have O:∀p∈(Go.Ab.restrict live st).env,nC p.2=true/\∃v,V.tmps[p.1]?=some v/\aD (num ns) (G.a6 live) p.2 v:=by
  intro p hp;obtain⟨h1,h2⟩:=fY hp;obtain⟨v,h3,h4⟩:=h.env.env p.1 p.2 h1;refine⟨?_,v,h3,Cj h2 h4⟩;cases A:p.2<;>rw[A]at h2<;>simp_all[nC,ia,bB]
 have M:∀p∈(Go.Ab.restrict live st).mem,XB ns (G.a6 live) w p.1 p.2 (G.a6 live):=by
  intro p hp;obtain⟨h1,h2⟩:=jZ hp
  have h3:look (Go.Ab.restrict live st).mem p.1=some p.2:=by
   show look (bR st.mem live) p.1=some p.2;rw[d5,zai h2,h1]
  obtain⟨b,e1,e2,e3⟩:=hi.dz p.1 p.2 h3;obtain⟨hr,c,t,J,l⟩:=e2;exact⟨b,c,t,e1,hr,J,l,e3⟩
 obtain⟨m1,t1,g1,g2⟩:=tH (NS.start hi) O;obtain⟨m3,t3,D,k2⟩:=tI (w:=w) g1.Cn M;obtain⟨m2,i,u,H,F⟩:=lI (m4 (G.a6 live) w) D.Cn hi.m4;have hN:=u.Cn;have m:=u.le;have C:=Gh.le_trans D.le u.le
 have f:∀b r,(G.a6 live).role b=r->(∀τ,r≠.tok τ)->((G.a6 live).oK m2 i).role b=r:=by
  intro b r hr hn;show(match(G.a6 live).role b with| .tok τ=>(match m2 τ with|some k=>pR.tok k|none=>.eM)|r=>r)=r;rw[hr];cases r with
  |tok τ=>exact absurd rfl (hn τ)
  |_=>rfl
 have g:bZ G w ((G.a6 live).oK m2 i) w:={
   size:=zal _,os:=rfl,tape:=rfl,output:=rfl,K:=bA.le_refl G.K,sm:=fun _ _ h=>h,
   eM:=fun b _ hr=>⟨f b _ hr (by simp),rfl⟩
   kL:=fun b τ _ hr=>by
    have z:(G.a6 live).role b=.tok τ:=hr;rw[mZ z];cases m2 τ with
    |none=>exact .inl rfl
    |some k=>exact .inr ⟨k,rfl⟩
   jK:=fun _ _ _ _ _ h=>h}
 refine⟨(G.a6 live).oK m2 i,⟨⟨h.env.size,fun t x hx=>?_⟩,?_,h.marks.BI g rfl⟩,g⟩
 .obtain⟨v,h1,h2⟩:=g2 (t,x) (qN hx);exact⟨v,h1,h2.mono C⟩
 .constructor
  .exact hi.known
  .intro b o v I;rcases hi.bn b o v I with h1|⟨τ,h1⟩
   .exact .inl (f b _ h1 (by simp))
   .rw[mZ h1];cases m2 τ with
    |none=>exact .inl rfl
    |some k=>exact .inr ⟨k,rfl⟩
  .intro b q;exact f b _ (hi.fresh b q) (by simp)
  .intro d cells hd;obtain⟨b,c,t,h1,h2,h3,h4,h5⟩:=k2 (d,cells) (qN hd);exact⟨b,h1,⟨f b _ h2 (by simp),c,t,h3,aA.mono m h4⟩,h5⟩
  .intro d b hd;exact vS (hi.jJ d b hd)
  .exact hi.VP (G':=(G.a6 live).oK m2 i) (fun _=>rfl) (fun b s hr=>f b _ hr (by simp)) F
  .intro s b hs;have:=hi.ix s b hs;have e:(norm (Go.Ab.restrict live st)).sh.length=(Go.Ab.restrict live st).sh.length:=H;omega
  .intro k n hn;have tF:(norm (Go.Ab.restrict live st)).aa=i.map (·.len):=hN.ts;rw[tF,zbb,zac]at hn;obtain⟨t,ht,rfl⟩:=hn;refine⟨t,ht,rfl,?_⟩;rcases hN.cap k t ht with⟨τ,j⟩|L
   .obtain⟨t',h1,h2⟩:=hN.map τ k j;rw[ht]at h2;cases h2;obtain⟨E,e1,e2,e3⟩:=hi.dO τ _ (hi.iE τ t h1);rw[h1]at e1;cases e1;refine⟨e3.cap,e3.zero,fun B=>?_⟩;obtain⟨b,o,c,ty,f1,f2,f3,P,f5⟩:=e3.spare B;refine⟨b,o,c,ty,f1,?_,f3,P,f5⟩;rw[mZ f2,j]
   .exact⟨by omega,fun h=>by omega,fun h=>h.elim (fun h=>by omega) (fun h=>by rw[L.2]at h;cases h)⟩
  .intro k t ht;have tF:(norm (Go.Ab.restrict live st)).aa=i.map (·.len):=hN.ts;rw[tF,zbb];have y:i[k]?=some t:=ht;rw[y];rfl
  .exact fun b c q=>⟨f b _ (hi.py b c q).1 (by simp),(hi.py b c q).2⟩
end
section
variable {P:Program} {ns:Names} {G:Gh} {w:World}
variable{x:AV}{aQ ts aa:aH}{cs rs vals:List AV}{m:Nat->Option Nat}{tks:List Tk}{b N n:Nat}{ρ:bV}{G' G1:Gh}{vs:List Value}{O:Value}{mem:List (Nat×List AV)}{sh sh':Sh}{W:World}{own:List Nat}{k:AK}{A:nA}{args:List Operand}{orc:fQ}{out:Out}
theorem Co(h:mg x=true):pC x=true:=by
 cases x with
 |own _ _=>rfl
 |_=>simpa[pC,mg]using mY (by simpa[mg]using h)
theorem m5:∀{xs:List AV},gF xs=true->iD xs=true
 |[],_=>rfl
 |x::xs,h=>by
  simp only[gF,zaj]at h;simp only[iD,Co h.1,m5 h.2,Bool.and_self]
theorem Cp(h:bQ x=true):nC x=true:=by
 cases x with
 |own _ _=>rfl
 |au _ _=>rfl
 |agg cs=>simp only[nC];exact m5 (by simpa[bQ]using h)
 |_=>simpa[nC,bQ]using mY (by simpa[bQ]using h)
def Cq(h:mg x=true):mg (eZ aQ ts x).1=true:=by
 unfold eZ;split
 .split<;>rfl
 .exact h
theorem tK:∀{xs:List AV}{aQ ts:aH},gF xs=true->gF (cX aQ ts xs).1=true
 |[],_,_,_=>rfl
 |x::xs,aQ,ts,h=>by
  simp only[gF,zaj]at h;simp only[cX,gF,Cq h.1,zbq];exact tK h.2
def Cr(h:bQ x=true):bQ (bz aQ ts x).1=true:=by
 unfold bz;split
 .split<;>rfl
 .rfl
 .split
  .exact h
  .simp only[bQ]at h⊢;exact tK h
 .exact h
theorem jO:∀{xs:List AV}{aQ ts:aH},xs.all bQ=true->(bo aQ ts xs).1.all bQ=true
 |[],_,_,_=>rfl
 |x::xs,aQ,ts,h=>by
  simp only[za1,zaj]at h;simp only[bo,za1,Cr h.1,zbq];exact jO h.2
theorem Cs(h:a9 x=true):bQ x=true:=by
 cases x with
 |own _ _=>rfl
 |fn g cap=>simpa[a9,bQ]using h
 |pv _=>rfl
 |dm _=>rfl
 |aL _ _=>rfl
 |bl _ _ _ _=>rfl
 |iN=>rfl
 |kH _=>rfl
 |gA _=>rfl
 |_=>simp[a9]at h
def kr(h:cs.all a9=true):cs.all bQ=true:=by
 rw[zas]at*;exact fun x hx=>Cs (h x hx)
def qO:∀{xs:List AV}{vs:List Value}{aQ ts:aH}{m:Nat->Option Nat}{tks:List Tk},NS G aQ ts m tks->xs.all bQ=true->aA (num ns) G xs vs->
   ∃m' tks',KA ns G m tks (bo aQ ts xs).2.1 (bo aQ ts xs).2.2 m' tks'/\aA (num ns) (G.oK m' tks') (bo aQ ts xs).1 vs
 |[],vs,aQ,ts,m,tks,hN,_,h=>⟨m,tks,⟨hN,[],by simp[bo]⟩,by simpa only[bo,aA]using h⟩
 |x::xs,vs,aQ,ts,m,tks,hN,hp,h=>by
  simp only[za1,zaj]at hp;simp only[aA]at h;obtain⟨v,r,e,e1,e2⟩:=h;subst e;obtain⟨m1,t1,g1,g2⟩:=nX hN (Cp hp.1) e1;obtain⟨m2,d,c,k2⟩:=qO g1.Cn hp.2 e2;refine⟨m2,d,⟨c.Cn,?_⟩,?_⟩
  .obtain⟨a,g⟩:=g1.ext;obtain⟨b,f⟩:=c.ext;exact⟨a++b,by rw[f,g,zaF]⟩
  .simp only[bo,aA];exact⟨v,r,rfl,g2.mono c.le,k2⟩
def KB:(eZ aQ ts x).2.1.length=aQ.length:=by
 unfold eZ;split
 .split<;>simp
 .rfl
theorem vT:∀{xs:List AV}{aQ ts:aH},(cX aQ ts xs).2.1.length=aQ.length
 |[],_,_=>rfl
 |x::xs,aQ,ts=>by simp only[cX];rw[vT,KB]
def KD:(bz aQ ts x).2.1.length=aQ.length:=by
 unfold bz;split
 .split<;>simp
 .rfl
 .split
  .rfl
  .exact vT
 .rfl
theorem sj:∀{xs:List AV}{aQ ts:aH},(bo aQ ts xs).2.1.length=aQ.length
 |[],_,_=>rfl
 |x::xs,aQ,ts=>by simp only[bo];rw[sj,KD]
theorem sk:∀{sh:Sh}{aQ ts:aH},(bt aQ ts sh).2.1.length=aQ.length
 |[],_,_=>rfl
 |none::sh,aQ,ts=>by simp only[bt];exact sk
 |some cs::sh,aQ,ts=>by simp only[bt];rw[sk,sj]
def Gh.to(G:Gh)(m:Nat->Option Nat)(tks:List Tk):Gh:=
 {K:=G.K,role:=fun b=>match G.role b with| .shr s=>.shr s| .tok τ=>(match m τ with|some k=>.tok k|none=>.eM)|_=>.eM,pm:=fun _=>none,sm:=G.sm,tk:=fun k=>tks[k]?}
def XC{s:Nat}(h:G.role b=.shr s):(G.to m tks).role b=.shr s:=by simp[Gh.to,h]
def Ac{τ k:Nat}(h:G.role b=.tok τ)(hm:m τ=some k):(G.to m tks).role b=.tok k:=by simp[Gh.to,h,hm]
def qP{τ:Nat}(h:G.role b=.tok τ)(hm:m τ=none):(G.to m tks).role b=.eM:=by simp[Gh.to,h,hm]
def nZ(h:G.role b=.eM):(G.to m tks).role b=.eM:=by simp[Gh.to,h]
def Ae{d:Nat}(h:G.role b=.nO d):(G.to m tks).role b=.eM:=by simp[Gh.to,h]
def Fu(hK:G.K.le G'.K)(hs:∀s b,G.sm s=some b->G'.sm s=some b)(ht:∀τ t,G.tk τ=some t->G'.tk τ=some t)(hp:gF cs=true)(h:aA ρ G cs vs):aA ρ G' cs vs:=
 pZ hK hs ht (m5 hp) h
def KE(hK:G.K.le G'.K)(hs:∀s b,G.sm s=some b->G'.sm s=some b)(ht:∀τ t,G.tk τ=some t->G'.tk τ=some t)(hp:bQ x=true)(h:aD ρ G x O):aD ρ G' x O:=by
 cases x with
 |own l τ=>
  simp only[aD]at h⊢;obtain⟨t,e1,e2,e3,e4⟩:=h;exact⟨t,ht _ _ e1,e2,e3.mono hK,fun hl=>⟨(e4 hl).1,Sz (e4 hl).2 fun⟨b,o,e,r⟩=>⟨b,o,e,Row.mono hK _ _ _ _ r⟩⟩⟩
 |agg cs=>
  simp only[aD]at h⊢;obtain⟨vs,e,r⟩:=h;exact⟨vs,e,Fu hK hs ht (by simpa[bQ]using hp) r⟩
 |_=>exact oP hK hs (by simpa[bQ]using hp) h
def kY(hK:G.K.le G'.K)(hs:∀s b,G.sm s=some b->G'.sm s=some b)(ht:∀τ t,G.tk τ=some t->G'.tk τ=some t):∀{xs:List AV}{vs:List Value},xs.all bQ=true->aA ρ G xs vs->aA ρ G' xs vs
 |[],_,_,h=>by simpa only[aA]using h
 |x::xs,_,hp,h=>by
  simp only[za1,zaj]at hp;simp only[aA]at h⊢;obtain⟨v,r,e,e1,e2⟩:=h;exact⟨v,r,e,KE hK hs ht hp.1 e1,kY hK hs ht hp.2 e2⟩
def Inv.Ki(hi:Inv (num ns) G w mem sh aa)(hp:cs.all bQ=true)(hr:aA (num ns) G cs vs):
   ∃m tks,NS G (cL aa cs sh).2.2.1 (cL aa cs sh).2.2.2 m tks/\Inv (num ns) (G.to m tks) w [] (cL aa cs sh).2.1 (cL aa cs sh).2.2.2/\aA (num ns) (G.to m tks) (cL aa cs sh).1 vs:=by
 obtain⟨m0,p,B,f⟩:=qO (NS.start hi) hp hr;obtain⟨m,tks,q,y,x⟩:=lI (Go.Ab.m4 G w) B.Cn hi.m4;have hN:=q.Cn;refine⟨m,tks,hN,?_,kY (G:=G.oK m tks) (G':=G.to m tks) (bA.le_refl _) (fun _ _ h=>h) (fun _ _ h=>h) (jO hp) (aA.mono q.le f)⟩;constructor
 .exact hi.known
 .intro b o v z;rcases hi.bn b o v z with h|⟨τ,h⟩
  .exact .inl (nZ h)
  .cases hm:m τ with
   |none=>exact .inl (qP h hm)
   |some k=>exact .inr ⟨k,Ac h hm⟩
 .intro b g;exact nZ (hi.fresh b g)
 .intro d cells h;simp[look]at h
 .intro d b h;simp[Gh.to]at h
 .refine hi.VP (G':=G.to m tks) (fun _=>rfl) (fun b s hr=>XC hr) fun s cells' hs=>?_;obtain⟨cells,h1,h2,h3,h4⟩:=x s cells' hs;obtain⟨o,h2,l⟩:=h2;exact⟨cells,h1,⟨o,h2,l.to (fun _ _ _ h=>h) (fun _ e=>e) (fun _ r=>kY (G:=G.oK m tks) (G':=G.to m tks) (bA.le_refl _) (fun _ _ h=>h) (fun _ _ h=>h) (kr h3) r)⟩,h3,h4⟩
 .intro s b hs;have:=hi.ix s b hs;have e:(cL aa cs sh).2.1.length=sh.length:=y;omega
 .intro k n hn;have tF:(cL aa cs sh).2.2.2=tks.map (·.len):=hN.ts;rw[tF,zbb,zac]at hn;obtain⟨t,ht,rfl⟩:=hn;refine⟨t,ht,rfl,?_⟩;rcases hN.cap k t ht with⟨τ,a⟩|A
  .obtain⟨t',h1,h2⟩:=hN.map τ k a;rw[ht]at h2;cases h2;obtain⟨u,e1,e2,e3⟩:=hi.dO τ _ (hi.iE τ t h1);rw[h1]at e1;cases e1;refine⟨e3.cap,e3.zero,fun j=>?_⟩;obtain⟨b,o,c,ty,f1,f2,f3,C,f5⟩:=e3.spare j;exact⟨b,o,c,ty,f1,Ac f2 a,f3,C,f5⟩
  .exact⟨by omega,fun h=>by omega,fun h=>h.elim (fun h=>by omega) (fun h=>by rw[A.2]at h;cases h)⟩
 .intro k t ht;have tF:(cL aa cs sh).2.2.2=tks.map (·.len):=hN.ts;rw[tF,zbb];have i:tks[k]?=some t:=ht;rw[i];rfl
 .exact fun b c g=>⟨nZ (hi.py b c g).1,(hi.py b c g).2⟩
def KF:(cL aa cs sh).2.2.1.length=aa.length:=by
 unfold cL;simp only[sk,sj]
def bZ.to(h:bZ G w G1 W)(m:Nat->Option Nat)(tks:List Tk):bZ G w (G1.to m tks) W where
 size:=h.size
 os:=h.os
 tape:=h.tape
 output:=h.output
 K:=h.K
 sm:=h.sm
 eM:=fun b a hr=>⟨nZ (h.eM b a hr).1,(h.eM b a hr).2⟩
 kL:=fun b τ a hr=>by
  rcases h.kL b τ a hr with h1|⟨τ',h1⟩
  .exact .inl (nZ h1)
  .cases hm:m τ' with
   |none=>exact .inl (qP h1 hm)
   |some k=>exact .inr ⟨k,Ac h1 hm⟩
 jK:=h.jK
def p6(N:Nat):pR->pR
 | .tok k=>.tok (k+N)
 | .shr s=>.shr s
 |_=>.eM
def Gh.back(G:Gh)(m:Nat->Option Nat)(G1:Gh)(n N:Nat):Gh:=
 { K:=G1.K,
   role:=fun b=>if b<n then(match G.role b with| .shr _=>p6 N (G1.role b)| .tok τ=>(match m τ with|some _=>p6 N (G1.role b)|none=>.tok τ)|r=>r)else p6 N (G1.role b),
   pm:=G.pm,sm:=G1.sm,
   tk:=fun τ=>if τ<N then(match G.tk τ with|some t=>(match m τ with|some _=>some {t with base:=none,len:=t.len+1,cap:=t.len+1,own:=false}|none=>some t)|none=>none)else G1.tk (τ-N)}
def vU(hK:G1.K.le G'.K)(hs:∀s b,G1.sm s=some b->G'.sm s=some b)(ht:∀τ t,G1.tk τ=some t->G'.tk (τ+N)=some t)(hp:mg x=true)(h:aD (num ns) G1 x O):aD (num ns) G' (jW N x) O:=by
 cases x with
 |own l τ=>
  simp only[jW,aD]at h⊢;obtain⟨t,e1,e2,e3,e4⟩:=h;exact⟨t,ht _ _ e1,e2,e3.mono hK,fun hl=>⟨(e4 hl).1,Sz (e4 hl).2 fun⟨b,o,e,r⟩=>⟨b,o,e,Row.mono hK _ _ _ _ r⟩⟩⟩
 |_=>
  simp only[jW];exact oP (G:=G1) (G':=G') hK hs (by simpa[mg]using hp) h
def tL(hK:G1.K.le G'.K)(hs:∀s b,G1.sm s=some b->G'.sm s=some b)(ht:∀τ t,G1.tk τ=some t->G'.tk (τ+N)=some t):∀{xs:List AV}{vs:List Value},gF xs=true->aA (num ns) G1 xs vs->aA (num ns) G' (xs.map (jW N)) vs
 |[],_,_,h=>by simpa only[zbc,aA]using h
 |x::xs,_,hp,h=>by
  simp only[gF,zaj]at hp;simp only[zan,aA]at h⊢;obtain⟨v,r,e,e1,e2⟩:=h;exact⟨v,r,e,vU hK hs ht hp.1 e1,tL hK hs ht hp.2 e2⟩
def yB(hK:G1.K.le G'.K)(hs:∀s b,G1.sm s=some b->G'.sm s=some b)(ht:∀τ t,G1.tk τ=some t->G'.tk (τ+N)=some t)(hp:bQ x=true)(h:aD (num ns) G1 x O):aD (num ns) G' (dj N x) O:=by
 cases x with
 |own l τ=>exact vU (x:=.own l τ) hK hs ht rfl h
 |agg cs=>
  simp only[dj];split
  .rename_i hf;exact iL (G:=G1) (G':=G') hK hs (by simpa[bB]using hf) h
  .simp only[aD]at h⊢;obtain⟨vs,e,r⟩:=h;exact⟨vs,e,tL hK hs ht (by simpa[bQ]using hp) r⟩
 |_=>
  simp only[dj];exact oP (G:=G1) (G':=G') hK hs (by simpa[bQ]using hp) h
def p7(hK:G1.K.le G'.K)(hs:∀s b,G1.sm s=some b->G'.sm s=some b)(ht:∀τ t,G1.tk τ=some t->G'.tk (τ+N)=some t):∀{xs:List AV}{vs:List Value},xs.all bQ=true->aA (num ns) G1 xs vs->aA (num ns) G' (xs.map (dj N)) vs
 |[],_,_,h=>by simpa only[zbc,aA]using h
 |x::xs,_,hp,h=>by
  simp only[za1,zaj]at hp;simp only[zan,aA]at h⊢;obtain⟨v,r,e,e1,e2⟩:=h;exact⟨v,r,e,yB hK hs ht hp.1 e1,p7 hK hs ht hp.2 e2⟩
def IS:∀τ t,G1.tk τ=some t->(G.back m G1 n N).tk (τ+N)=some t:=by
 intro τ t h;simp only[Gh.back];rw[zad (by omega),Nat.add_sub_cancel];exact h
def KH(hp:cs.all bQ=true)(h:aA (num ns) G1 cs vs):aA (num ns) (G.back m G1 n N) (cs.map (dj N)) vs:=
 p7 (G1:=G1) (G':=G.back m G1 n N) (N:=N) (bA.le_refl G1.K) (fun _ _ h=>h) IS hp h
theorem Ct(h:aN n x=true):aN n (jW N x)=true:=by
 cases x with
 |own _ _=>rfl
 |_=>exact h
theorem qQ:∀{xs:List AV},aN.cN n xs=true->aN.cN n (xs.map (jW N))=true
 |[],_=>rfl
 |x::xs,h=>by
  simp only[aN.cN,zaj]at h;simp only[zan,aN.cN,Ct h.1,qQ h.2,Bool.and_self]
theorem Cu(h:aN n x=true):aN n (dj N x)=true:=by
 cases x with
 |own _ _=>rfl
 |agg cs=>
  simp only[dj];split
  .exact h
  .simp only[aN]at h⊢;exact qQ h
 |_=>exact h
theorem Cv(h:a9 x=true):a9 (dj N x)=true:=by
 cases x with
 |own _ _=>rfl
 |agg _=>simp[a9]at h
 |_=>exact h
def Inv.back{ts':aH}(hi:Inv (num ns) G w mem sh aa)(hN:NS G aQ ts m tks)(O:aQ.length=aa.length)
   (h1:Inv (num ns) G1 W [] sh' ts') (g:bZ (G.to m tks) w G1 W):
   Inv (num ns) (G.back m G1 w.heap.size aa.length) W mem (gh aa.length sh') (aQ++ts')/\G.le (G.back m G1 w.heap.size aa.length)/\bZ G w (G.back m G1 w.heap.size aa.length) W:=by
 have M:∀τ t,G.tk τ=some t->τ<aa.length:=fun τ t h=>(zaa.1 (hi.iE τ t h)).1
 have p:∀τ t,G.tk τ=some t->m τ=none->(G.back m G1 w.heap.size aa.length).tk τ=some t:=by
  intro τ t h hm;simp only[Gh.back,zai (M τ t h),h,hm]
 have l:∀τ t k,G.tk τ=some t->m τ=some k->(G.back m G1 w.heap.size aa.length).tk τ=some {t with base:=none,len:=t.len+1,cap:=t.len+1,own:=false}:=by
  intro τ t k h hm;simp only[Gh.back,zai (M τ t h),h,hm]
 have P:G.le (G.back m G1 w.heap.size aa.length):=⟨g.K,fun _ _ h=>h,g.sm,fun τ t h=>by
  cases hm:m τ with
  |none=>exact⟨t,p τ t h hm,⟨zal _,Tk.jA _⟩,fun _=>rfl⟩
  |some k=>exact⟨_,l τ t k h hm,⟨by simp,fun _=>⟨rfl,by simp⟩,.inl ⟨rfl,by simp⟩⟩,fun e=>by simp at e⟩⟩
 have E:∀b,b<w.heap.size->G.role b=.eM->(G.back m G1 w.heap.size aa.length).role b=.eM:=by intro b a hr;simp only[Gh.back,zai a,hr]
 have H:∀b d,b<w.heap.size->G.role b=.nO d->(G.back m G1 w.heap.size aa.length).role b=.nO d:=by intro b d a hr;simp only[Gh.back,zai a,hr]
 have i:∀b τ,b<w.heap.size->G.role b=.tok τ->m τ=none->(G.back m G1 w.heap.size aa.length).role b=.tok τ:=by intro b τ a hr hm;simp only[Gh.back,zai a,hr,hm]
 have q:∀b τ k,b<w.heap.size->G.role b=.tok τ->m τ=some k->(G.back m G1 w.heap.size aa.length).role b=p6 aa.length (G1.role b):=by intro b τ k a hr hm;simp only[Gh.back,zai a,hr,hm]
 have C:∀b s,b<w.heap.size->G.role b=.shr s->(G.back m G1 w.heap.size aa.length).role b=p6 aa.length (G1.role b):=by intro b s a hr;simp only[Gh.back,zai a,hr]
 have u:∀b,¬b<w.heap.size->(G.back m G1 w.heap.size aa.length).role b=p6 aa.length (G1.role b):=by intro b a;simp only[Gh.back,zad a]
 have D:∀b,G1.role b≠.eM->(G.back m G1 w.heap.size aa.length).role b=p6 aa.length (G1.role b):=by
  intro b hn;by_cases a:b<w.heap.size
  .cases hr:G.role b with
   |shr s=>exact C b s a hr
   |eM=>exact absurd (g.eM b a (nZ hr)).1 hn
   |nO d=>exact absurd (g.eM b a (Ae hr)).1 hn
   |tok τ=>
    cases hm:m τ with
    |none=>exact absurd (g.eM b a (qP hr hm)).1 hn
    |some k=>exact q b τ k a hr hm
  .exact u b a
 have f:∀b o v,G1.K b o=some v->p6 aa.length (G1.role b)=.eM\/∃τ,p6 aa.length (G1.role b)=.tok τ:=by
  intro b o v J;rcases h1.bn b o v J with h|⟨τ,h⟩
  .left;rw[h];rfl
  .right;exact⟨τ+aa.length,by rw[h];rfl⟩
 have F:bZ G w (G.back m G1 w.heap.size aa.length) W:={
           size:=g.size,os:=g.os,tape:=g.tape,output:=g.output,K:=g.K,sm:=g.sm,
           eM:=fun b a hr=>⟨E b a hr,(g.eM b a (nZ hr)).2⟩
           kL:=fun b τ a hr=>by
            cases hm:m τ with
            |none=>exact .inr ⟨τ,i b τ a hr hm⟩
            |some k=>
             rw[q b τ k a hr hm];rcases g.kL b k a (Ac hr hm)with h|⟨τ',h⟩
             .left;rw[h];rfl
             .right;exact⟨τ'+aa.length,by rw[h];rfl⟩
           jK:=fun b o v a hr J=>g.jK b o v a (nZ hr) J}
 refine⟨⟨h1.known,?_,?_,?_,hi.jJ,?_,?_,?_,?_,hi.kM F⟩,P,F⟩
 .intro b o v J;have B:G1.K b o=some v:=J;by_cases a:b<w.heap.size
  .cases hr:G.role b with
   |shr s=>rw[C b s a hr];exact f b o v B
   |eM=>exact .inl (E b a hr)
   |tok τ=>
    cases hm:m τ with
    |none=>exact .inr ⟨τ,i b τ a hr hm⟩
    |some k=>rw[q b τ k a hr hm];exact f b o v B
   |nO d=>
    exfalso;have S:G.K b o=some v:=g.jK b o v a (Ae hr) B;rcases hi.bn b o v S with h|⟨τ,h⟩<;>rw[hr]at h<;>simp at h
  .rw[u b a];exact f b o v B
 .intro b a;have:=g.size;rw[u b (by omega),h1.fresh b a];rfl
 .intro d cs hd;obtain⟨b,e1,e2,e3⟩:=hi.dz d cs hd;obtain⟨hr,c,t,Q,z⟩:=e2;have a:=dv Q;exact⟨b,e1,⟨H b d a hr,c,t,((g.eM b a (Ae hr)).2).trans Q,aA.mono P z⟩,e3⟩
 .intro s U N;simp only[gh,zbb,zac]at N;obtain⟨o,hs,R⟩:=N;cases o with
  |none=>simp at R
  |some cs=>
   simp at R;subst R;obtain⟨b,e1,e2,e3,e4⟩:=h1.eD s cs hs;obtain⟨hr,o,Q,z⟩:=e2;refine⟨b,e1,⟨?_,o,Q,z.to (fun _ _ _ h=>h) (fun kvs e=>by subst e;rfl) (fun _ r=>KH (kr e3) r)⟩,?_,?_⟩
   .rw[D b.1 (by rw[hr];simp),hr];rfl
   .rw[zas];intro x hx;obtain⟨y,hy,rfl⟩:=zak.1 hx;exact Cv (zas.1 e3 y hy)
   .rw[zas];intro x hx;obtain⟨y,hy,rfl⟩:=zak.1 hx;exact Cu (zas.1 e4 y hy)
 .intro s b h;have:=h1.ix s b h;simp only[gh,zaD];exact this
 .intro τ n hn;by_cases A:τ<aa.length
  .rw[zao (by omega)]at hn;obtain⟨t,e1,e2,e3⟩:=hi.dO τ _ (zbf A);cases hm:m τ with
   |none=>
    have:=hN.free τ t e1 hm;rw[hn]at this;simp at this;refine⟨t,p τ t e1 hm,this.symm,e3.cap,e3.zero,fun I=>?_⟩;obtain⟨b,o,c,ty,f1,f2,f3,T,f5⟩:=e3.spare I;have a:=dv f3;exact⟨b,o,c,ty,f1,i b τ a f2 hm,((g.eM b a (qP f2 hm)).2).trans f3,T,fun j v J=>f5 j v (g.jK b j v a (qP f2 hm) J)⟩
   |some k=>
    have:=hN.used τ t k e1 hm;rw[hn]at this;simp at this;exact⟨_,l τ t k e1 hm,this.symm,⟨zal _,fun h=>by simp at h,fun h=>by simp at h⟩⟩
  .rw[zaN (by omega),O]at hn;obtain⟨t,e1,e2,e3⟩:=h1.dO _ n hn;refine⟨t,by simp only[Gh.back,zad A];exact e1,e2,e3.cap,e3.zero,fun I=>?_⟩;obtain⟨b,o,c,ty,f1,f2,f3,T,f5⟩:=e3.spare I;refine⟨b,o,c,ty,f1,?_,f3,T,f5⟩;rw[D b (by rw[f2];simp),f2];simp only[p6];rw[Nat.sub_add_cancel (by omega)]
 .intro τ t ht;simp only[Gh.back]at ht;split at ht
  .rename_i A;rw[zao (by omega)];split at ht
   .rename_i t0 h0;split at ht
    .rename_i k hm;simp at ht;subst ht;exact hN.used τ t0 k h0 hm
    .rename_i hm;simp at ht;subst ht;exact hN.free τ t0 h0 hm
   .simp at ht
  .rename_i A;rw[zaN (by omega),O];exact h1.iE _ t ht
def Af(hK:G1.K.le G'.K)(hs:∀s b,G1.sm s=some b->G'.sm s=some b)(ht:∀τ t,G1.tk τ=some t->G'.tk (τ+N)=some t)(hp:rs.all bQ=true)(h:dU (num ns) G1 rs O):dU (num ns) G' (rs.map (dj N)) O:=by
 unfold dU at h;split at h
 .rename_i r;simp only[za1,List.all_nil,zcY]at hp;simp only[zan,zbc,dU];exact yB hK hs ht hp h
 .rename_i hn;obtain⟨vs,e,h⟩:=h;unfold dU;split
  .rename_i r c;cases rs with
   |nil=>simp at c
   |cons a rs=>
    cases rs with
    |nil=>exact absurd rfl (hn a)
    |cons _ _=>simp at c
  .exact⟨vs,e,p7 hK hs ht hp h⟩
def Cx(hp:rs.all bQ=true)(h:dU (num ns) G1 rs O):dU (num ns) (G.back m G1 n N) (rs.map (dj N)) O:=
 Af (G1:=G1) (G':=G.back m G1 n N) (N:=N) (bA.le_refl G1.K) (fun _ _ h=>h) IS hp h
def yC{l:List PV}(h:nV G.K l O):aD (num ns) G (vB l) O:=by
 match l,h with
 |[r],h=>simp only[nV]at h;simp only[vB,aD];exact h
 |[],h=>simp only[nV]at h;simp only[vB,aD];obtain⟨vs,e,h⟩:=h;exact⟨vs,e,jB h⟩
 |_::_::_,h=>simp only[nV]at h;simp only[vB,aD];obtain⟨vs,e,h⟩:=h;exact⟨vs,e,jB h⟩
def KI(h:dU (num ns) G rs O):aD (num ns) G (ui rs) O:=by
 match rs,h with
 |[r],h=>simp only[dU]at h;simp only[ui];exact h
 |[],h=>simp only[dU]at h;simp only[ui,aD];exact h
 |_::_::_,h=>simp only[dU]at h;simp only[ui,aD];exact h
def KJ{v:AV}(h:aD (num ns) G v O):aD (num ns) G (mf v) O:=by
 unfold mf;split
 .rename_i p hp;simp only[aD];exact zR hp h
 .exact h
def vW:∀{i:Nat}{xs:List AV}{vs:List Value},aA (num ns) G xs vs->aA (num ns) G (eB own i xs) vs
 |_,[],_,h=>by simpa[eB,aA]using h
 |i,x::xs,_,h=>by
  simp only[aA]at h;obtain⟨v,r,rfl,e1,e2⟩:=h;simp only[eB,aA];refine⟨v,r,rfl,?_,vW e2⟩;split
  .exact e1
  .exact KJ e1
def NW{dst:Option Nat}{c:Call}(h:cp P ns A dst (.call c)=some (k,args))(b:k.calls=true):
   (∃f g,c.callee=.value (.func f)/\ns.of f=some g/\args=c.args.toList/\(k=.aJ g\/k=.dt g\/(∃own,k=.bg g own)\/(∃sz a,(k=.clone sz a\/∃ag,k=.kI sz a ag)/\look ns.cl g=some (sz,a))\/k=.vz g))\/
   (∃t,c.callee=.value (.tmp t)/\args=.tmp t::c.args.toList/\(k=.h_\/k=.gE)):=by
 obtain⟨callee,j,i⟩:=c;simp only[cp]at h;split at h
 .split at h<;>simp at h<;>(obtain⟨rfl,_⟩:=h;simp[AK.calls]at b)
 .split at h<;>simp at h;obtain⟨rfl,_⟩:=h;simp[AK.calls]at b
 .split at h<;>simp at h;obtain⟨rfl,_⟩:=h;simp[AK.calls]at b
 .split at h
  .split at h
   .rw[zab]at h;obtain⟨_,h⟩:=h;split at h
    .simp only[zac,zaw]at h;obtain⟨_,_,rfl,_⟩:=h;simp[AK.calls]at b
    .split at h<;>(simp at h;obtain⟨rfl,_⟩:=h;simp[AK.calls]at b)
   .simp at h
  .simp at h
 .split at h
  .split at h
   .split at h<;>simp at h
    obtain⟨rfl,_⟩:=h;simp[AK.calls]at b
   .simp at h
  .simp at h
 .split at h
  .split at h<;>simp at h
   obtain⟨rfl,_⟩:=h;simp[AK.calls]at b
  .simp at h
 .rename_i f;left;split at h
  .rename_i g d;split at h
   .rename_i sz a e;rw[zab]at h;obtain⟨_,h⟩:=h;split at h
    .split at h
     .simp only[zac,zaw]at h;obtain⟨ag,_,h1,h2⟩:=h;exact⟨f,g,rfl,d,h2.symm,.inr (.inr (.inr (.inl ⟨sz,a,.inr ⟨ag,h1.symm⟩,e⟩)))⟩
     .simp at h
    .simp only[zag,zaw]at h;exact⟨f,g,rfl,d,h.2.symm,.inr (.inr (.inr (.inl ⟨sz,a,.inl h.1.symm,e⟩)))⟩
   .split at h
    .simp at h;exact⟨f,g,rfl,d,h.2.symm,.inr (.inr (.inr (.inr h.1.symm)))⟩
    .split at h
     .simp at h;exact⟨f,g,rfl,d,h.2.symm,.inr (.inr (.inl ⟨_,h.1.symm⟩))⟩
     .split at h
      .simp at h;exact⟨f,g,rfl,d,h.2.symm,.inr (.inl h.1.symm)⟩
      .simp at h;exact⟨f,g,rfl,d,h.2.symm,.inl h.1.symm⟩
  .simp at h
 .rename_i t;right;split at h
  .simp at h;exact⟨t,rfl,h.2.symm,.inr h.1.symm⟩
  .simp at h;exact⟨t,rfl,h.2.symm,.inl h.1.symm⟩
 .simp at h
mutual
theorem IT:∀{a b:PV},xU a b=true->a=b
 | .bool a,b,h=>by cases b<;>simp[xU]at h;rw[h]
 | .int k n,b,h=>by cases b<;>simp[xU]at h;rw[h.1,h.2]
 | .str s,b,h=>by cases b<;>simp[xU]at h;rw[h]
 | .agg l,b,h=>by
  cases b with
  |agg q=>simp only[xU]at h;rw[vX h]
  |_=>simp[xU]at h
 | .ae l,b,h=>by
  cases b with
  |ae q=>simp only[xU]at h;rw[vX h]
  |_=>simp[xU]at h
theorem vX:∀{a b:List PV},vD a b=true->a=b
 |[],b,h=>by cases b with|nil=>rfl|cons _ _=>simp[vD]at h
 |x::r,b,h=>by
  cases b with
  |nil=>simp[vD]at h
  |cons y q=>
   simp only[vD,zaj]at h;rw[IT h.1,vX h.2]
end
def IU:∀{a b:List AV},xX a b=true->a=b
 |[],b,h=>by cases b with|nil=>rfl|cons _ _=>simp[xX]at h
 |x::r,b,h=>by
  cases b with
  |nil=>simp[xX]at h
  |cons y q=>
   simp only[xX,zaj]at h;rw[IU h.2];have h1:=h.1;cases x with
   |pv p=>cases y with
    |pv p'=>simp only[Z6]at h1;rw[IT h1]
    |_=>simp[Z6]at h1
   |_=>simp[Z6]at h1
def Ag:∀{a b:Sh},pq a b=true->a=b
 |[],b,h=>by cases b with|nil=>rfl|cons _ _=>simp[pq]at h
 |none::r,b,h=>by
  cases b with
  |nil=>simp[pq]at h
  |cons y q=>cases y with
   |none=>simp only[pq]at h;rw[Ag h]
   |some _=>simp[pq]at h
 |some x::r,b,h=>by
  cases b with
  |nil=>simp[pq]at h
  |cons y q=>cases y with
   |none=>simp[pq]at h
   |some y=>
    simp only[pq,zaj]at h;rw[IU h.1,Ag h.2]
def x5{cells:Option (List AV)}(h:exec orc .gE vals cells sh aa=some out):exec orc .h_ vals cells sh aa=some out:=by
 cases vals with
 |nil=>simp[exec]at h
 |cons f vals=>
  cases f with
  |fn g cap=>
   simp only[exec,zau]at h;obtain⟨⟨v,sh',ts⟩,h1,h2⟩:=h;simp only[roK,zab,zag]at h2;obtain⟨h3,rfl⟩:=h2;have:=Ag h3;subst this;simp[exec,h1]
  |_=>simp[exec]at h
def n_(b:lH P ns orc){f g:Nat}(o:ns.of f=some g)
   (hr:aA (num ns) G vals vs) (hi:Inv (num ns) G w mem sh aa) (h:eJ orc g own vals sh aa=some (x,sh',ts)):
   Calls P f vs.toArray w fun e w'=>∃v G',e=.returned v/\aD (num ns) G' x v/\Inv (num ns) G' w' mem sh' ts/\G.le G'/\bZ G w G' w':=by
 unfold eJ at h;simp only[zab,zac]at h;obtain⟨hp,⟨rs,j,d⟩,h1,h2⟩:=h;simp only[zaw]at h2;obtain⟨rfl,rfl,rfl⟩:=h2;obtain⟨hC,l⟩:=b.i g f _ _ rs _ j d o (jO hp) h1;obtain⟨m,tks,hN,k,a⟩:=hi.Ki hp (vW (own:=own) (i:=0) hr);refine(hC (G.to m tks) w vs k a).mono ?_
 rintro e w' ⟨v,G1,rfl,iQ,n,c⟩
 obtain⟨g1,g2,p⟩:=hi.back hN KF n c;exact⟨v,_,rfl,KI (Cx l iQ),g1,g2,p⟩
def SI(hB:jo P ns)(i:lH P ns orc){o:Oper}(Z:cp P ns A o.dst o.op=some (k,args)){a:Act}
      (hr:aA (num ns) G vals (args.map a.eval)) (hi:Inv (num ns) G w mem sh aa)
   (h:exec orc k vals (k.key.bind (look mem)) sh aa=some out) {next:Act->World->Prop} {Q:Exit->Act->World->Prop}
   (hn:∀v w' G',aD (num ns) G' out.val v->Inv (num ns) G' w' (gG mem k.key out.cells) out.sh out.aa->G.le G'->bZ G w G' w'->next (a.put o.dst v) w'):o.wp P a w next Q:=by
 cases hk:k.calls with
 |false=>
  obtain⟨n,v,w',G',g1,g2,l,g4,g5,g6⟩:=tD Z hk hr hi h;unfold Oper.wp;rw[g1];rcases g2 with rfl|⟨rfl,rfl⟩
  .exact hn v w' G' l g4 g5 g6
  .exact hn undef w' G' l g4 g5 g6
 |true=>
  obtain⟨dst,op,type,pos,after,guard⟩:=o;have E:∃c,op=.call c:=Fm (k:=k) (by cases k<;>simp_all[AK.calls]) Z;obtain⟨c,rfl⟩:=E;rcases NW Z hk with⟨f,g,j,C,rfl,X⟩|⟨t,j,rfl,J⟩
  .have d:(execOp a.eval ⟨dst,.call c,type,pos,after,guard⟩).run P w=.ok (.enter f ((c.args.toList.map a.eval).toArray)) w:=by
    obtain⟨callee,H,B⟩:=c;simp only at j;subst j;simp only[execOp,resolve,zav,Act.eval,Deferred.ofValue,zaC,zam,invoke];rw[mX hB C];congr 2;apply zbN;simp
   rcases X with rfl|rfl|⟨own,rfl⟩|⟨sz,N,z,Y⟩|rfl
   .-- for pure M
    simp only[exec]at h;split at h
    .rename_i eE hp;simp only[zac]at h;obtain⟨rs,h1,rfl⟩:=h;have hC:=i.p g f eE rs C h1 G.K w _ (fun b c F=>(hi.py b c F).2) hi.known (pS hp hr);unfold Oper.wp;rw[d];refine hC.mono ?_
     rintro e w' ⟨v,K',rfl,iQ,hK,m,D,F⟩
     obtain⟨g1,g2,l⟩:=hi.pure hK m D F;exact hn v w' _ (yC iQ) (by simpa[AK.key,gG]using g1) g2 l
    .simp at h
   .-- for pure M,U frozen
    simp only[exec]at h;split at h
    .rename_i eE hp;simp only[zac]at h;obtain⟨rs,h1,rfl⟩:=h;obtain⟨G1,W,k2,k3,k4,k5⟩:=Inv.kill (vals.flatMap iv) hi;have hC:=i.p g f eE rs C h1 G1.K w _ (fun b c F=>(W.py b c F).2) W.known (tE k2 k4 hi.Aa (fun s hs=>hs) hp hr);unfold Oper.wp;rw[d];refine hC.mono ?_
     rintro e w' ⟨v,K',rfl,iQ,hK,m,D,F⟩
     obtain⟨g1,g2,l⟩:=W.pure hK m D F;exact hn v w' _ (yC iQ) (by simpa[AK.key,gG,fu]using g1) (Gh.le_trans k2 g2) (k3.trans l)
    .simp at h
   .-- with the R S
    simp only[exec,zac]at h;obtain⟨⟨x,sh',ts'⟩,h1,rfl⟩:=h;have hC:=n_ i C hr hi h1;unfold Oper.wp;rw[d];refine hC.mono ?_
    rintro e w' ⟨v,G',rfl,g1,g2,l,g4⟩
    exact hn v w' G' g1 (by simpa[AK.key,gG]using g2) l g4
   .-- O.Clone
    have q:k.key=none:=by rcases z with rfl|⟨ag,rfl⟩<;>rfl
    rw[q]at hn;rcases vals with _|⟨x,_|⟨_,_⟩⟩
    .rcases z with rfl|⟨ag,rfl⟩<;>simp[exec]at h
    .obtain⟨V,y,sh',ts',h1,rfl⟩:∃V y sh' ts',ij V sz N x sh aa=some (y,sh',ts')/\out=⟨y,none,sh',ts'⟩:=by
      rcases z with rfl|⟨ag,rfl⟩
      .simp only[exec,zac]at h;obtain⟨⟨y,ts'⟩,h1,rfl⟩:=h;exact⟨none,y,sh,ts',by simp[ij,h1],rfl⟩
      .simp only[exec,zac]at h;obtain⟨⟨y,sh',ts'⟩,h1,rfl⟩:=h;exact⟨some ag,y,sh',ts',h1,rfl⟩
     have hl:=hr.length;obtain⟨v,T⟩:∃v,c.args.toList.map a.eval=[v]:=List.length_eq_one_iff.1 (by simpa using hl);rw[T]at hr;simp only[aA]at hr;obtain⟨v',r,e,hx,rfl⟩:=hr;cases e;have hC:=i.c g sz N f Y C V G w mem sh sh' aa ts' x y v hi hx h1;unfold Oper.wp;rw[d,T];refine hC.mono ?_
     rintro e w' ⟨u,G',rfl,g1,g2,l,g4⟩
     exact hn u w' G' g1 (by simpa[gG]using g2) l g4
    .rcases z with rfl|⟨ag,rfl⟩<;>simp[exec]at h
   .simp[exec]at h
  .-- a I value
   have q:k.key=none:=by rcases J with rfl|rfl<;>rfl
   replace h:exec orc .h_ vals none sh aa=some out:=by
    rcases J with rfl|rfl
    .exact h
    .exact x5 h
   rw[q]at hn;cases vals with
   |nil=>simp[aA]at hr
   |cons x0 vals=>
    simp only[zan,aA]at hr;obtain⟨fv,r,e,hf,hr⟩:=hr;simp only[zbz]at e;obtain⟨rfl,rfl⟩:=e;cases x0 with
    |fn g cap=>
     simp only[exec,zac]at h;obtain⟨⟨x,sh',ts'⟩,h1,rfl⟩:=h;simp only[aD]at hf;obtain⟨f,vs,C,T,L⟩:=hf
     have d:(execOp a.eval ⟨dst,.call c,type,pos,after,guard⟩).run P w=.ok (.enter f ((c.args.toList.map a.eval++vs).toArray)) w:=by
      obtain⟨callee,H,B⟩:=c;simp only at j;subst j;simp only[execOp,resolve,zav];rw[T];simp only[Deferred.ofValue,zaC,zam,invoke];rw[mX hB C];congr 2;apply zbN;simp
     have hC:=n_ i C (aA.append hr L) hi h1;unfold Oper.wp;rw[d];refine hC.mono ?_
     rintro e w' ⟨v,G',rfl,g1,g2,l,g4⟩
     exact hn v w' G' g1 (by simpa[AK.key,gG]using g2) l g4
    |_=>simp[exec]at h
end
section
variable {n0:Nat} {P:Program} {ns:Names} {G:Gh} {w:World}
variable{N:Nat}{env:List (Nat×AV)}{V:Act}{A:nA}{ops:Array Oper}{Y:Oper}{y:d8}
def nR.mono{G':Gh}(h:nR (num ns) G N env V)(b:G.le G'):nR (num ns) G' N env V:=
 ⟨h.size,fun t x hx=>let ⟨v,h1,h2⟩:=h.env t x hx;⟨v,h1,h2.mono b⟩⟩
def nR.put(h:nR (num ns) G N env V){dst:Option Nat}(hd:(dst.map (fun d=>decide (d<N))).getD true=true){x:AV}{O:Value}(hx:aD (num ns) G x O):
   nR (num ns) G N (ik env dst x) (V.put dst O):=by
 cases dst with
 |none=>exact h
 |some d=>
  simp at hd;refine⟨by simp[Act.put,h.size],fun t y hy=>?_⟩;simp only[ik]at hy;by_cases ht:d=t
  .subst ht;rw[cB]at hy;cases hy;exact⟨O,by simp[Act.put,h.size,hd],hx⟩
  .rw[b_ _ _ _ _ ht]at hy;obtain⟨u,h1,h2⟩:=h.env t y hy;exact⟨u,by simp only[Act.put];rw[zaA ht];exact h1,h2⟩
def put_defers(a:Act)(dst:Option Nat)(v:Value):(a.put dst v).defers=a.defers:=by cases dst<;>rfl
def m6(h:im P ns A N ops Y=some y):
   ∃args,cp P ns A Y.dst Y.op=some (y.op,args)/\dN (kh ns) args=some y.args/\y.dst=Y.dst/\(Y.dst.map (fun d=>decide (d<N))).getD true=true /\
     ((Y.guard=none/\y.guard=none)\/∃j b t,Y.guard=some (j,b)/\(ops[j]?).bind (·.dst)=some t/\y.guard=some (t,b)):=by
 unfold im at h;split at h
 .rename_i k args e;split at h
  .rename_i as f;simp only[zab]at h;obtain⟨hd,h⟩:=h;split at h
   .rename_i c;simp at h;subst h;exact⟨args,e,f,rfl,hd,.inl ⟨c,rfl⟩⟩
   .rename_i j b c;split at h
    .rename_i t ht;simp at h;subst h;exact⟨args,e,f,rfl,hd,.inr ⟨j,b,t,c,ht,rfl⟩⟩
    .simp at h
  .simp at h
 .simp at h
def qR(h:im P ns A N ops Y=some y)(e:nR (num ns) G N env V){r:Bool}
   (hw:gT env y.guard=some r):Region.wanted Y (yielded ops V.tmps)=r:=by
 obtain⟨_,_,_,_,_,g⟩:=m6 h;rcases g with⟨h1,h2⟩|⟨j,b,t,h1,h2,h3⟩
 .rw[h2]at hw;simp[gT]at hw;simp[Region.wanted,h1,hw]
 .rw[h3]at hw;simp only[gT]at hw;split at hw
  .rename_i c d;obtain⟨v,e1,e2⟩:=e.env t _ d;simp only[aD,kN]at e2;simp at hw;simp[Region.wanted,h1,yielded,h2,e1,e2,hw]
  .rename_i d;obtain⟨v,e1,e2⟩:=e.env t _ d;simp only[aD]at e2;simp at hw;simp[Region.wanted,h1,yielded,h2,e1,e2,undef,<-hw]
  .simp at hw
def Fv(i:jo P ns){orc:fQ}(d:lH P ns orc)(e:im P ns A N ops Y=some y)
   {st Z:St}  (hs:iU (num ns) n0 N G st V w) (b:eC orc y st=some Z) {next:Act->World->Prop} {Q:Exit->Act->World->Prop}
   (hn:∀G' v w',iU (num ns) n0 N G' Z (V.put Y.dst v) w'->bZ G w G' w'->next (V.put Y.dst v) w'):
   (Region.wanted Y (yielded ops V.tmps)=true/\Y.wp P V w next Q)\/(Region.wanted Y (yielded ops V.tmps)=false/\next (V.put Y.dst undef) w):=by
 obtain⟨args,h1,h2,h3,h4,_⟩:=m6 e;unfold eC at b;split at b
 .simp at b
 .rename_i hw;right;refine⟨qR e hs.env hw,?_⟩;simp at b;subst b;refine hn G _ w ⟨?_,hs.inv,hs.marks.BI (bZ.refl G w) (put_defers _ _ _)⟩ (bZ.refl G w);simp only[h3];exact hs.env.put h4 (by simp[aD])
 .rename_i hw;left;refine⟨qR e hs.env hw,?_⟩;split at b
  .simp at b
  .rename_i vals g;split at b
   .simp at b
   .rename_i out h;simp at b;subst b;have hr:=BX hs.env h2 g;refine SI i d h1 hr hs.inv h ?_;intro v w' G' g1 g2 j g4;refine hn G' _ w' ⟨?_,g2,hs.marks.BI g4 (put_defers _ _ _)⟩ g4;simp only[h3];exact(hs.env.mono j).put h4 g1
end
section
variable {orc:fQ}
def NX(E:Nat->Option AV):fp->Option AV
 | .t n=>E n
 | .c v=>some v
def mj(E:Nat->Option AV):List fp->Option (List AV)
 |[]=>some []
 |x::r=>match NX E x,mj E r with
  |some v,some vs=>some (v::vs)
  |_,_=>none
def oR(E:Nat->Option AV):Option (Nat×Bool)->Option Bool
 |none=>some true
 |some (t,b)=>match E t with
  |some (.pv (.bool c))=>some (c == b)
  |some .un=>some false
  |_=>none
def dw(orc:fQ)(o:d8)(E:Nat->Option AV)(M:Nat->Option (List AV))(sh:Sh)(aa:aH):Option Out:=
 match oR E o.guard with
 |none=>none
 |some false=>some ⟨.un,none,sh,aa⟩
 |some true=>match mj E o.args with
  |none=>none
  |some vals=>exec orc o.op vals (o.op.key.bind M) sh aa
theorem vY(env:List (Nat×AV)):∀l,eN env l=mj (look env) l
 |[]=>rfl
 |x::l=>by
  have:iJ env x=NX (look env) x:=by cases x<;>rfl
  simp only[eN,mj,this,vY env l];rfl
theorem eF(o:d8)(st:St):eC orc o st=(dw orc o (look st.env) (look st.mem) st.sh st.aa).map
   fun r=>{env:=ik st.env o.dst r.val,mem:=gG st.mem o.op.key r.cells,sh:=r.sh,aa:=r.aa}:=by
 unfold eC dw
 have hw:gT st.env o.guard=oR (look st.env) o.guard:=by
  cases o.guard with
  |none=>rfl
  |some g=>rfl
 rw[hw];cases oR (look st.env) o.guard with
 |none=>rfl
 |some b=>cases b with
  |false=>simp[gU]
  |true=>
   simp only[vY];cases mj (look st.env) o.args with
   |none=>rfl
   |some vals=>
    simp only;cases exec orc o.op vals (o.op.key.bind (look st.mem)) st.sh st.aa<;>rfl
variable{E:Nat->Option AV}{o y:d8}{M:Nat->Option (List AV)}{sh:Sh}{aa:aH}{op:AK}{vals:List AV}{cells:Option (List AV)}{r:Out}{a b:Nat}{g:Sh->Sh}
theorem oe{E':Nat->Option AV}:∀{l:List fp},(∀t∈l.filterMap (fun| .t n=>some n|_=>none),E t=E' t)->mj E l=mj E' l
 |[],_=>rfl
 | .c v::l,h=>by
  simp only[mj,NX];rw[oe (l:=l) (fun t ht=>h t (by simpa using ht))]
 | .t n::l,h=>by
  simp only[mj,NX];rw[oe (l:=l) (fun t ht=>h t (by simp only[List.filterMap_cons,zah];exact .inr ht)),h n (by simp)]
theorem iZ{E':Nat->Option AV}{a:Nat->Option (List AV)}(c:∀t∈o.looks,E t=E' t)(f:∀k,o.op.key=some k->M k=a k):
   dw orc o E M sh aa=dw orc o E' a sh aa:=by
 have h1:oR E o.guard=oR E' o.guard:=by
  cases e:o.guard with
  |none=>rfl
  |some g=>
   obtain⟨t,b⟩:=g;simp only[oR];rw[c t (by simp[d8.looks,e])]
 have h2:mj E o.args=mj E' o.args:=oe fun t ht=>c t (by simp only[d8.looks,zae];exact .inl ht)
 have h3:o.op.key.bind M=o.op.key.bind a:=by
  cases d:o.op.key with
  |none=>rfl
  |some k=>exact f k d
 unfold dw;rw[h1,h2,h3]
def XD(ht:op.jY=false)(h:exec orc op vals cells sh aa=some r):
   r.sh=sh/\∀sh',exec orc op vals cells sh' aa=some {r with sh:=sh'}:=by
 cases op with
 |v a=>
  simp only[exec,zac]at h⊢;obtain⟨x,h1,rfl⟩:=h;exact⟨rfl,fun sh'=>⟨x,h1,rfl⟩⟩
 |cD k o s ag=>
  obtain⟨cs,x,rfl,rfl,hx,rfl⟩:=jn h;exact⟨rfl,fun sh'=>by simp[exec,hx]⟩
 |bN k o s=>
  obtain⟨cs,v,rfl,rfl,h1,h2,h3,rfl⟩:=jM h;exact⟨rfl,fun sh'=>by simp[exec,h1,h2,h3]⟩
 |alloc k z=>
  obtain⟨rfl,rfl,rfl⟩:=kW h;exact⟨rfl,fun sh'=>by simp[exec]⟩
 |box k s=>
  obtain⟨v,rfl,rfl,h1,h2,rfl⟩:=nU h;exact⟨rfl,fun sh'=>by simp only[exec];rw[zai ⟨h1,h2⟩]⟩
 |append s b=>
  obtain⟨s,x,y,ts,rfl,h1,rfl⟩:=lG h;exact⟨rfl,fun sh'=>by simp[exec,h1]⟩
 |ei s b ag=>simp[AK.jY]at ht
 |iW s z=>simp[AK.jY]at ht
 |NF s=>simp[AK.jY]at ht
 |clone s b=>
  obtain⟨x,y,ts,rfl,h1,rfl⟩:=pW h;exact⟨rfl,fun sh'=>by simp[exec,h1]⟩
 |aJ g=>
  simp only[exec]at h⊢;split at h
  .rename_i eE hp;simp only[zac]at h;obtain⟨rs,h1,rfl⟩:=h;exact⟨rfl,fun sh'=>by simp[h1]⟩
  .simp at h
 |_=>first|(simp[AK.jY]at ht;done)|(simp[exec]at h;done)|(simp[exec]at e;done)|(simp[exec];done)
def XE(ht:op.ir=false)(h:exec orc op vals cells sh aa=some r):
   r.aa=aa/\∀ts,exec orc op vals cells sh ts=some {r with aa:=ts}:=by
 cases op with
 |v f=>
  simp only[exec,zac]at h⊢;obtain⟨x,h1,rfl⟩:=h;exact⟨rfl,fun ts=>⟨x,h1,rfl⟩⟩
 |cD k o s ag=>
  obtain⟨cs,x,rfl,rfl,hx,rfl⟩:=jn h;exact⟨rfl,fun ts=>by simp[exec,hx]⟩
 |bN k o s=>
  obtain⟨cs,v,rfl,rfl,h1,h2,h3,rfl⟩:=jM h;exact⟨rfl,fun ts=>by simp[exec,h1,h2,h3]⟩
 |alloc k z=>
  obtain⟨rfl,rfl,rfl⟩:=kW h;exact⟨rfl,fun ts=>by simp[exec]⟩
 |box k s=>
  obtain⟨v,rfl,rfl,h1,h2,rfl⟩:=nU h;exact⟨rfl,fun ts=>by simp only[exec];rw[zai ⟨h1,h2⟩]⟩
 |append s b=>simp[AK.ir]at ht
 |ei s b ag=>simp[AK.ir]at ht
 |zG s b=>simp[AK.ir]at ht
 |clone s b=>simp[AK.ir]at ht
 |kI s b ag=>
  rcases vals with _|⟨x,_|⟨_,_⟩⟩
  .simp[exec]at h
  .simp only[exec,ij]at h⊢;split at h
   .rename_i xs hx;split at h
    .rename_i d;simp only[Option.map_map,zac]at h;obtain⟨⟨y,sh'⟩,h1,rfl⟩:=h;refine⟨rfl,fun ts=>?_⟩;simp[hx,d,h1]
    .simp at h
   .simp at h
  .simp[exec]at h
 |iW s z=>
  obtain⟨x,sh',rfl,h1,rfl⟩:=tw h;exact⟨rfl,fun ts=>by simp[exec,h1]⟩
 |aJ g=>
  simp only[exec]at h⊢;split at h
  .rename_i eE hp;simp only[zac]at h;obtain⟨rs,h1,rfl⟩:=h;exact⟨rfl,fun ts=>by simp[h1]⟩
  .simp at h
 |dt g=>
  simp only[exec]at h⊢;split at h
  .rename_i eE hp;simp only[zac]at h;obtain⟨rs,h1,rfl⟩:=h;exact⟨rfl,fun ts=>by simp[h1]⟩
  .simp at h
 |bg g own=>simp[AK.ir]at ht
 |vz g=>simp[AK.ir]at ht
 |h_=>simp[AK.ir]at ht
 |gE=>simp[AK.ir]at ht
 |ej s ag=>
  obtain⟨p,x,rfl,rfl,c⟩:=mT h;refine⟨rfl,fun ts=>?_⟩;rcases c with⟨cs,rfl,hx⟩|⟨b,off,cs,rfl,a,hm,hx⟩
  .simp[exec,hx]
  .simp[exec,a,hm,hx]
 |eX s=>
  obtain⟨b,off,v,cs,rfl,a,h0,h1,h2,h3,h4,rfl⟩:=jN h;refine⟨rfl,fun ts=>?_⟩;simp only[exec,a];rw[zai ⟨h0,h1,h2,h3,h4⟩]
 |rV s=>
  obtain⟨v,rfl,h1,h2,h3,rfl⟩:=oN h;refine⟨rfl,fun ts=>?_⟩;simp only[exec];rw[zai ⟨h1,h2,h3⟩]
 |vw s=>
  obtain⟨v,rfl,h1,h2,h3,rfl⟩:=oO h;refine⟨rfl,fun ts=>?_⟩;simp only[exec];rw[zai ⟨h1,h2,h3⟩]
 |gD z=>
  obtain⟨rfl,rfl⟩:=lF h;exact⟨rfl,fun ts=>by simp[exec]⟩
 |mc s b ag z=>
  obtain⟨k,k',n,rfl,h1,h2,h3,h4,rfl⟩:=mU h;exact⟨rfl,fun ts=>by simp[exec,h1,h2,h3,h4]⟩
 |_=>first|(simp[exec]at h;done)|(simp[exec]at e;done)|(simp[exec];done)
def XF(ht:op.jw=false)(a:op.key≠none)(h:exec orc op vals cells sh aa=some r):r.cells=none:=by
 cases op with
 |cD k o s ag=>
  obtain⟨cs,x,rfl,rfl,hx,rfl⟩:=jn h;rfl
 |bN k o s=>simp[AK.jw]at ht
 |alloc k z=>simp[AK.jw]at ht
 |box k s=>simp[AK.jw]at ht
 |s6 d s b z=>simp[AK.jw]at ht
 |_=>simp[AK.key]at a
def x6{sz:Nat}{ag:Bool}(h:exec orc (.ej sz ag) vals cells sh aa=some r):r.sh=sh:=by
 obtain⟨p,x,rfl,rfl,_⟩:=mT h;rfl
def x7{c:CK}{ok:Bool}{z:PV}(h:exec orc (.BU c ok z) vals cells sh aa=some r):r.sh=sh:=by simp[exec]at h
def vZ(h:exec orc .gE vals cells sh aa=some r):r.sh=sh:=by
 cases vals with
 |nil=>simp[exec]at h
 |cons f vals=>
  cases f with
  |fn g cap=>
   simp only[exec,zau]at h;obtain⟨⟨v,sh',ts⟩,_,h2⟩:=h;simp only[roK,zab,zag]at h2;rw[<-h2.2]
  |_=>simp[exec]at h
def v5(ht:o.op.jY=false)(h:dw orc o E M sh aa=some r):
   r.sh=sh/\∀sh',dw orc o E M sh' aa=some {r with sh:=sh'}:=by
 unfold dw at*;split at h
 .simp at h
 .simp at h;subst h;exact⟨rfl,fun _=>rfl⟩
 .split at h
  .simp at h
  .exact XD ht h
def Cy(ht:o.op.yt=true)(h:dw orc o E M sh aa=some r):r.sh=sh:=by
 unfold dw at*;split at h
 .simp at h
 .simp at h;subst h;rfl
 .split at h
  .simp at h
  .rename_i vals _;cases a:o.op with
   |ej sz ag=>
    rw[a]at h;have hl:=x6 h;exact hl
   |BU c ok z=>
    rw[a]at h;exact x7 h
   |gE=>
    rw[a]at h;exact vZ h
   |_=>rw[a]at ht;simp[AK.yt]at ht
def qS(ht:o.op.ir=false)(h:dw orc o E M sh aa=some r):
   r.aa=aa/\∀ts,dw orc o E M sh ts=some {r with aa:=ts}:=by
 unfold dw at*;split at h
 .simp at h
 .simp at h;subst h;exact⟨rfl,fun _=>rfl⟩
 .split at h
  .simp at h
  .exact XE ht h
def qT(ht:o.op.jw=false)(a:o.op.key≠none)(h:dw orc o E M sh aa=some r):r.cells=none:=by
 unfold dw at h;split at h
 .simp at h
 .simp at h;subst h;rfl
 .split at h
  .simp at h
  .exact XF ht a h
structure lR(x y:St):Prop where
 env:∀t,look x.env t=look y.env t
 mem:∀t,look x.mem t=look y.mem t
 sh:x.sh=y.sh
 aa:x.aa=y.aa
def lR.refl(x:St):lR x x:=⟨fun _=>rfl,fun _=>rfl,rfl,rfl⟩
def lR.symm{x y:St}(h:lR x y):lR y x:=⟨fun t=>(h.env t).symm,fun t=>(h.mem t).symm,h.sh.symm,h.aa.symm⟩
def lR.trans{x y z:St}(h:lR x y)(k:lR y z):lR x z:=⟨fun t=>(h.env t).trans (k.env t),fun t=>(h.mem t).trans (k.mem t),h.sh.trans k.sh,h.aa.trans k.aa⟩
def fc(env:List (Nat×AV))(d:Option Nat)(v:AV)(t:Nat):look (ik env d v) t=if d=some t then some v else look env t:=by
 cases d with
 |none=>simp[ik]
 |some d=>
  simp only[ik,zag];by_cases h:d=t
  .subst h;rw[zai rfl,cB]
  .rw[zad h,b_ _ _ _ _ h]
def oS(mem:List (Nat×List AV))(k:Option Nat)(c:Option (List AV))(t:Nat):look (gG mem k c) t=if k=some t then(match c with|some cs=>some cs|none=>look mem t)else look mem t:=by
 cases c with
 |none=>rw[gU];split<;>rfl
 |some cs=>
  cases k with
  |none=>simp[gG]
  |some k=>
   simp only[gG,zag];by_cases h:k=t
   .subst h;rw[zai rfl,cB]
   .rw[zad h,b_ _ _ _ _ h]
def KK{x y b:St}(h:lR x y)(c:eC orc o x=some b):∃a,eC orc o y=some a/\lR b a:=by
 rw[eF,zac]at c;obtain⟨r,hr,rfl⟩:=c
 have:dw orc o (look y.env) (look y.mem) y.sh y.aa=some r:=by
  rw[<-h.sh,<-h.aa,<-hr];exact(iZ (fun t _=>h.env t) (fun t _=>h.mem t)).symm
 refine⟨{env:=ik y.env o.dst r.val,mem:=gG y.mem o.op.key r.cells,sh:=r.sh,aa:=r.aa},by rw[eF,this];rfl,⟨fun t=>?_,fun t=>?_,rfl,rfl⟩⟩
 .simp only[fc,h.env]
 .simp only[oS,h.mem]
def sq(h:indep o y=true):
   (∀d,o.dst=some d->d∉y.looks/\y.dst≠some d)/\(∀d,y.dst=some d->d∉o.looks)/\(o.op.jY=false\/y.op.jY=false\/(o.op.yt=true/\y.op.yt=true))/\(o.op.ir=false\/y.op.ir=false)/\
   (∀k,o.op.key=some k->y.op.key=some k->o.op.jw=false/\y.op.jw=false):=by
 simp only[indep,zaj,zbo,zcc,Bool.and_eq_false_iff]at h;obtain⟨⟨⟨⟨h1,h2⟩,h3⟩,h4⟩,h5⟩:=h;refine⟨fun d hd=>?_,fun d hd=>?_,h3.elim (fun h=>h.elim .inl fun h=>.inr (.inl h)) fun h=>.inr (.inr h),h4,fun k hx hy=>?_⟩
 .rw[hd]at h1;simp at h1;exact h1
 .rw[hd]at h2;simpa using h2
 .rw[hx,hy]at h5;simp at h5;exact h5
def SJ{x:d8}(h:indep x y=true){st Z m:St}(h1:eC orc x st=some Z)(h2:eC orc y Z=some m):
   ∃l j,eC orc y st=some l/\eC orc x l=some j/\lR j m:=by
 obtain⟨u,z,hS,hT,hK⟩:=sq h;rw[eF,zac]at h1 h2;obtain⟨r1,d,rfl⟩:=h1;obtain⟨r2,s,rfl⟩:=h2;simp only at s
 have b:dw orc y (look st.env) (look st.mem) r1.sh r1.aa=some r2:=by
  rw[<-s];refine iZ (fun t ht=>?_) (fun k w=>?_)
  .rw[fc,zad];intro e;exact(u t e).1 ht
  .rw[oS];split
   .rename_i e;have:=qT (hK k e w).1 (by rw[e];simp) d;rw[this]
   .rfl
 obtain⟨sh',ts',hy,g,tF⟩:∃sh' ts',dw orc y (look st.env) (look st.mem) st.sh st.aa=some {r2 with sh:=sh',aa:=ts'}/\
     ((x.op.jY=false/\sh'=r2.sh/\r1.sh=st.sh)\/(sh'=st.sh/\r2.sh=r1.sh))/\
     ((x.op.ir=false/\ts'=r2.aa/\r1.aa=st.aa)\/(y.op.ir=false/\ts'=st.aa/\r2.aa=r1.aa)):=by
   have c:∃sh',dw orc y (look st.env) (look st.mem) st.sh r1.aa=some {r2 with sh:=sh'}/\((x.op.jY=false/\sh'=r2.sh/\r1.sh=st.sh)\/(sh'=st.sh/\r2.sh=r1.sh)):=by
    rcases hS with hS|hS|⟨hS,A⟩
    .have e:=(v5 hS d).1;exact⟨r2.sh,by rw[<-e];exact b,.inl ⟨hS,rfl,e⟩⟩
    .obtain⟨e,f⟩:=v5 hS b;exact⟨st.sh,f st.sh,.inr ⟨rfl,e⟩⟩
    .have e:=Cy hS d;have e2:=Cy A b;exact⟨r2.sh,by rw[<-e];exact b,.inr ⟨e2.trans e,e2⟩⟩
   obtain⟨sh',o,g⟩:=c;rcases hT with hT|hT
   .have e:=(qS hT d).1;exact⟨sh',r2.aa,by rw[<-e];exact o,g,.inl ⟨hT,rfl,e⟩⟩
   .obtain⟨_,f⟩:=qS hT o;have e:=(qS hT b).1;exact⟨sh',st.aa,f st.aa,g,.inr ⟨hT,rfl,e⟩⟩
 refine⟨{env:=ik st.env y.dst r2.val,mem:=gG st.mem y.op.key r2.cells,sh:=sh',aa:=ts'},?_⟩
 have hx:dw orc x (look (ik st.env y.dst r2.val)) (look (gG st.mem y.op.key r2.cells)) st.sh st.aa=some r1:=by
  rw[<-d];refine iZ (fun t ht=>?_) (fun k w=>?_)
  .rw[fc,zad];intro e;exact z t e ht
  .rw[oS];split
   .rename_i e;have:=qT (hK k w e).2 (by rw[e];simp) b;rw[this]
   .rfl
 obtain⟨a,v,p,i,r,q⟩:∃a,dw orc x (look (ik st.env y.dst r2.val)) (look (gG st.mem y.op.key r2.cells)) sh' ts'=some a/\a.val=r1.val/\a.cells=r1.cells/\a.sh=r2.sh/\a.aa=r2.aa:=by
  have c:∃a,dw orc x (look (ik st.env y.dst r2.val)) (look (gG st.mem y.op.key r2.cells)) sh' st.aa=some a/\a.val=r1.val/\a.cells=r1.cells/\a.sh=r2.sh/\a.aa=r1.aa:=by
   rcases g with⟨hS,rfl,_⟩|⟨rfl,e⟩
   .exact⟨_,(v5 hS hx).2 r2.sh,rfl,rfl,rfl,rfl⟩
   .exact⟨r1,hx,rfl,rfl,e.symm,rfl⟩
  obtain⟨F,B,E,D,C,G⟩:=c;rcases tF with⟨hT,rfl,_⟩|⟨_,rfl,e⟩
  .exact⟨_,(qS hT B).2 r2.aa,E,D,C,rfl⟩
  .exact⟨F,B,E,D,C,G.trans e.symm⟩
 refine⟨{env:=ik (ik st.env y.dst r2.val) x.dst a.val,mem:=gG (gG st.mem y.op.key r2.cells) x.op.key a.cells,sh:=a.sh,aa:=a.aa},?_,?_,?_⟩
 .rw[eF,hy];rfl
 .rw[eF,v];rfl
 .refine⟨fun t=>?_,fun t=>?_,r,q⟩
  .simp only[fc,p];by_cases hx:x.dst=some t
   .rw[zai hx,zad (u t hx).2,zai hx]
   .rw[zad hx,zad hx]
  .simp only[oS,i];by_cases hx:x.op.key=some t
   .rw[zai hx,zai hx];by_cases hy:y.op.key=some t
    .rw[zai hy,zai hy];have e1:=qT (hK t hx hy).1 (by rw[hx];simp) d;have e2:=qT (hK t hx hy).2 (by rw[hy];simp) b;rw[e1,e2]
    .rw[zad hy,zad hy]
   .rw[zad hx,zad hx]
def Ah(h:o.addr=some a):∃r,o.args=.t a::r/\((∃sz ag,o.op=.ej sz ag)\/∃sz,o.op=.eX sz):=by
 unfold d8.addr at h;split at h
 .rename_i sz ag b r h1 h2;cases h;exact⟨r,h2,.inl ⟨sz,ag,h1⟩⟩
 .rename_i sz b r h1 h2;cases h;exact⟨r,h2,.inr ⟨sz,h1⟩⟩
 .cases h
def v7(h:o.addr=some a):a∈o.looks:=by
 obtain⟨r,h1,_⟩:=Ah h;simp[d8.looks,h1]
def Cz(h:o.addr=some a):o.op.key=none:=by
 obtain⟨r,_,h|h⟩:=Ah h
 .obtain⟨_,_,h⟩:=h;rw[h];rfl
 .obtain⟨_,h⟩:=h;rw[h];rfl
def KL(b:Nat)(g:Sh->Sh):Prop:=g=id\/∃x,g=fun s=>s.set b x
def KL.other(h:KL b g)(c:b≠a)(s:Sh):(g s)[a]?=s[a]?:=by
 rcases h with rfl|⟨x,rfl⟩
 .rfl
 .exact List.getElem?_set_ne c
def KL.comm{g':Sh->Sh}(h:KL b g)(h':KL a g')(c:b≠a)(s:Sh):g (g' s)=g' (g s):=by
 rcases h with rfl|⟨x,rfl⟩
 .rfl
 .rcases h' with rfl|⟨y,rfl⟩
  .rfl
  .exact(List.set_comm _ _ c.symm)
def tM(h:o.addr=some a){off:Nat}(k:E a=some (.aL b off))
   (hr:dw orc o E M sh aa=some r):r.cells=none/\r.aa=aa/\∃g,KL b g/\r.sh=g sh/\∀sh',sh'[b]?=sh[b]?->dw orc o E M sh' aa=some {r with sh:=g sh'}:=by
 obtain⟨rest,h1,h2⟩:=Ah h;unfold dw at hr⊢;split at hr
 .simp at hr
 .simp at hr;subst hr;exact⟨rfl,rfl,id,.inl rfl,rfl,fun sh' _=>rfl⟩
 .rw[h1]at hr⊢;simp only[mj,NX,k]at hr⊢;cases j:mj E rest with
  |none=>rw[j]at hr;simp at hr
  |some vs=>
   rw[j]at hr;simp only at hr⊢;rcases h2 with⟨sz,ag,h2⟩|⟨sz,h2⟩
   .rw[h2]at hr⊢;obtain⟨p,x,hp,rfl,e⟩:=mT hr;refine⟨rfl,rfl,id,.inl rfl,rfl,fun sh' hs=>?_⟩;cases vs with
    |cons _ _=>simp at hp
    |nil=>
     simp at hp;rcases e with⟨cs,rfl,hx⟩|⟨l,d,cs,rfl,c,hm,hx⟩
     .simp at hp
     .simp at hp;obtain⟨rfl,rfl⟩:=hp;simp[exec,hs,c,hm,hx]
   .rw[h2]at hr⊢;obtain⟨l,d,v,cs,hp,c,h0,i,f,h3,h4,rfl⟩:=jN hr;simp at hp;obtain⟨⟨rfl,rfl⟩,rfl⟩:=hp;refine⟨rfl,rfl,fun s=>s.set b (some (a_ cs off (cP v))),.inr ⟨_,rfl⟩,rfl,fun sh' hs=>?_⟩;simp only[exec,hs,c];rw[zai ⟨h0,i,f,h3,h4⟩]
def SK(F:Nat->Option AV)(x y:d8):Prop:=indep x y=true \/
 ((∀d,x.dst=some d->d∉y.looks/\y.dst≠some d)/\(∀d,y.dst=some d->d∉x.looks)/\∃a b,x.addr=some a/\y.addr=some b/\apart (F a) (F b)=true)
def yD{x y:Option AV}(h:apart x y=true):∃b o a o',x=some (.aL b o)/\y=some (.aL a o')/\b≠a:=by
 unfold apart at h;split at h
 .rename_i b o a o';exact⟨b,o,a,o',rfl,rfl,by simpa using h⟩
 .cases h
def NY{F:Nat->Option AV}{x:d8}(h:SK F x y){st Z o:St}(hx:∀a,x.addr=some a->look st.env a=F a)(hy:∀a,y.addr=some a->look Z.env a=F a)
   (h1:eC orc x st=some Z) (h2:eC orc y Z=some o):
   ∃c f,eC orc y st=some c/\eC orc x c=some f/\lR f o/\(∀a,y.addr=some a->look st.env a=F a)/\(∀a,x.addr=some a->look c.env a=F a):=by
 have i:(∀d,x.dst=some d->d∉y.looks/\y.dst≠some d)/\(∀d,y.dst=some d->d∉x.looks):=by
  rcases h with h|h
  .exact⟨(sq h).1,(sq h).2.1⟩
  .exact⟨h.1,h.2.1⟩
 have g:∀a,y.addr=some a->look st.env a=F a:=by
  intro a j;have h3:=hy a j;rw[eF,zac]at h1;obtain⟨r1,_,rfl⟩:=h1;rw[<-h3];simp only[fc];rw[zad];intro e;exact(i.1 a e).1 (v7 j)
 have l:∀c,eC orc y st=some c->∀a,x.addr=some a->look c.env a=F a:=by
  intro c h3 a j;rw[eF,zac]at h3;obtain⟨r1,_,rfl⟩:=h3;rw[<-hx a j];simp only[fc];rw[zad];intro e;exact i.2 a e (v7 j)
 rcases h with h|⟨u,B,a,b,j,C,D⟩
 .obtain⟨c,f,g1,g2,P⟩:=SJ h h1 h2;exact⟨c,f,g1,g2,P,g,l c g1⟩
 .obtain⟨T,M,S,L,R,Q,n⟩:=yD D;have G:look st.env a=some (.aL T M):=(hx a j).trans R;have E:look st.env b=some (.aL S L):=(g b C).trans Q;have O:=h1;rw[eF,zac]at h1 h2;obtain⟨r1,A,rfl⟩:=h1;obtain⟨r2,r,rfl⟩:=h2;obtain⟨c1,t1,H,tx,K,N⟩:=tM j G A;simp only at r
  have q:dw orc y (look st.env) (look st.mem) (H st.sh) st.aa=some r2:=by
   rw[<-r,K,t1];refine iZ (fun t ht=>?_) (fun k s=>?_)
   .rw[fc,zad];intro e;exact(u t e).1 ht
   .rw[Cz C]at s;cases s
  obtain⟨c2,I,v,ty,J,k2⟩:=tM C E q;have w:=k2 st.sh (tx.other n st.sh).symm
  have p:eC orc y st=some {env:=ik st.env y.dst r2.val,mem:=gG st.mem y.op.key r2.cells,sh:=v st.sh,aa:=r2.aa}:=by
   rw[eF,w];rfl
  have z:dw orc x (look (ik st.env y.dst r2.val)) (look (gG st.mem y.op.key r2.cells)) (v st.sh) r2.aa=some {r1 with sh:=H (v st.sh)}:=by
   rw[<-N (v st.sh) (ty.other (zcG n) st.sh),I];refine iZ (fun t ht=>?_) (fun k s=>?_)
   .rw[fc,zad];intro e;exact B t e ht
   .rw[Cz j]at s;cases s
  refine⟨_,{env:=ik (ik st.env y.dst r2.val) x.dst r1.val,mem:=gG (gG st.mem y.op.key r2.cells) x.op.key r1.cells,sh:=H (v st.sh),aa:=r1.aa},p,?_,?_,g,l _ p⟩
  .rw[eF,z];rfl
  .refine⟨fun t=>?_,fun t=>?_,?_,?_⟩
   .simp only[fc];by_cases hx:x.dst=some t
    .rw[zai hx,zad (u t hx).2,zai hx]
    .rw[zad hx,zad hx]
   .simp only[c1,c2,gU]
   .simp only[J];exact tx.comm ty n st.sh
   .simp only[t1,I]
variable {ops:Array Oper} {as:List d8} {R:St->Prop} {F:Nat->Option AV}
def CA(orc:fQ)(ops:Array Oper)(as:List d8)(F:Nat->Option AV)(R:St->Prop):Nat->Array Bool->St->Prop
 |0,b,st=>Region.ready .any ops b=[]/\R st
 |fuel+1,b,st=>(Region.ready .any ops b=[]->R st)/\
   ∀i∈Region.ready .any ops b,∃d c,as[i]?=some d/\(∀a,d.addr=some a->look st.env a=F a)/\eC orc d st=some c/\CA orc ops as F R fuel (b.setIfInBounds i true) c
def yE(c:∀x y,lR x y->R x->R y):∀{fuel:Nat}{b:Array Bool}{x y:St},lR x y->CA orc ops as F R fuel b x->CA orc ops as F R fuel b y
 |0,_,_,_,hl,h=>⟨h.1,c _ _ hl h.2⟩
 |fuel+1,_,_,_,hl,h=>⟨fun h0=>c _ _ hl (h.1 h0),fun i hi=>by
  obtain⟨g,e,h1,h6,h2,h3⟩:=h.2 i hi;obtain⟨d,h4,h5⟩:=KK hl h2;exact⟨g,d,h1,fun a f=>(hl.env a).symm.trans (h6 a f),h4,yE c h5 h3⟩⟩
def Down(ops:Array Oper)(a:Array Bool):Prop:=∀k o,ops[k]?=some o->a.getD k false=true->∀e∈o.after,Region.binds .any e=true->a.getD e.on false=true
def Down.step{a:Array Bool}(h:Down ops a){i:Nat}(hi:i∈Region.ready .any ops a):Down ops (a.setIfInBounds i true):=by
 intro k o f g e j l;by_cases c:i=k
 .subst c;obtain⟨_,o',b,d⟩:=zcJ.1 hi;rw[f]at b;cases b;exact getD_set_true (d e j l)
 .rw[getD_set_ne false c]at g;exact getD_set_true (h k o f g e j l)
variable{i:Nat}{a:Array Bool}{ds:List (Nat×Nat)}{o:d8}
theorem Fw(C:∀x y,lR x y->R x->R y){p:d8}(t:as[i]?=some p){waits:Nat->Bool}
   (o:∀(b:Array Bool),Down ops b->∀j∈Region.ready .any ops b,waits j=true->b.getD i false=true):
   ∀(fuel:Nat)(b:Array Bool)(st g:St),Down ops b->
     (∀j u,as[j]?=some u->j≠i->b.getD j true=false->waits j=false->SK F p u)->(∀a,p.addr=some a->look st.env a=F a)->
     i∈Region.ready .any ops b->eC orc p st=some g->CA orc ops as F R fuel (b.setIfInBounds i true) g->CA orc ops as F R (fuel+1) b st:=by
 intro fuel;induction fuel with
 |zero=>
  intro b st g f e c hi l H;refine⟨fun h=>(by rw[h]at hi;cases hi),fun j hj=>?_⟩;by_cases d:j=i
  .subst d;exact⟨p,g,t,c,l,H⟩
  .have:=ready_mono hj d;rw[H.1]at this;cases this
 |succ fuel A=>
  intro b st g f e c hi l H;refine⟨fun h=>(by rw[h]at hi;cases hi),fun j hj=>?_⟩;by_cases d:j=i
  .subst d;exact⟨p,g,t,c,l,H⟩
  .obtain⟨u,z,h1,h6,h2,h3⟩:=H.2 j (ready_mono hj d);obtain⟨r,_⟩:=zcJ.1 hj
   have hw:waits j=false:=by
    cases hw:waits j with
    |false=>rfl
    |true=>
     have h1:=o b f j hj hw;have h0:=(zcJ.1 hi).1;rcases zbL i b.size with h'|h'
     .simp[h']at h0 h1;rw[h0]at h1;cases h1
     .simp[zcI h']at h1
   obtain⟨m,q,g1,g2,D,g4,g5⟩:=NY (e j u h1 d r hw) c h6 l h2;refine⟨u,m,h1,g4,g1,A (b.setIfInBounds j true) m q (f.step hj) ?_ g5 (ready_mono hi (zcG d)) g2 ?_⟩
   .intro k E B w n v;refine e k E B w ?_ v;by_cases s:j=k
    .subst s;exact r
    .rw[getD_set_ne true s]at n;exact n
   .rw[Array.setIfInBounds_comm _ _ d];exact yE C D.symm h3
def qU(acc:List Nat)(i:Nat):∀(l:List Edge)(s:Nat),
   (l.foldl (fun s e=>if Region.binds .any e then s ||| 2 ^ e.on ||| acc.getD e.on 0 else s) s).testBit i=true->
   s.testBit i=true\/∃e∈l,Region.binds .any e=true/\(e.on=i\/(acc.getD e.on 0).testBit i=true)
 |[],s,h=>.inl h
 |e::l,s,h=>by
  simp only[zaO]at h;rcases qU acc i l _ h with h1|⟨b,h2,h3⟩
  .split at h1
   .rename_i a;rw[Nat.testBit_or,Nat.testBit_or,zbo,zbo]at h1;rcases h1 with(h1|h1)|h1
    .exact .inl h1
    .refine .inr ⟨e,by simp,a,.inl ?_⟩;rw[Nat.testBit_two_pow]at h1;simpa using h1
    .exact .inr ⟨e,by simp,a,.inr h1⟩
   .exact .inl h1
  .exact .inr ⟨b,by simp[h2],h3⟩
def v9:∀(l:List Oper)(acc:List Nat),(nP l acc).length=acc.length+l.length/\(∀j,j<acc.length->(nP l acc).getD j 0=acc.getD j 0)/\
   ∀k o,l[k]?=some o->∀i,((nP l acc).getD (acc.length+k) 0).testBit i=true->∃e∈o.after.toList,Region.binds .any e=true/\(e.on=i\/((nP l acc).getD e.on 0).testBit i=true)
 |[],acc=>⟨by simp[nP],fun j _=>rfl,fun k o h=>by simp at h⟩
 |o::l,acc=>by
  simp only[nP];obtain⟨h1,h2,h3⟩:=v9 l (acc++[o.after.toList.foldl (fun s e=>if Region.binds .any e then s ||| 2 ^ e.on ||| acc.getD e.on 0 else s) 0]);refine⟨by rw[h1];simp;omega,fun j hj=>?_,fun k o' a i hi=>?_⟩
  .rw[h2 j (by simp;omega)];simp[List.getD,zao hj]
  .cases k with
   |zero=>
    simp at a;subst a;rw[zb0,h2 acc.length (by simp)]at hi
    have:(acc++[o.after.toList.foldl (fun s e=>if Region.binds .any e then s ||| 2 ^ e.on ||| acc.getD e.on 0 else s) 0]).getD acc.length 0 =
        o.after.toList.foldl (fun s e=>if Region.binds .any e then s ||| 2 ^ e.on ||| acc.getD e.on 0 else s) 0:=by
      simp[List.getD]
    rw[this]at hi;rcases qU acc i _ _ hi with h|⟨e,h4,h5,h6⟩
    .simp at h
    .refine⟨e,h4,h5,Sz h6 fun h=>?_⟩
     have b:e.on<acc.length:=by
      rcases zbL e.on acc.length with h'|h'
      .exact h'
      .simp[List.getD,zaX h']at h
     rw[h2 e.on (by simp;omega)];simpa[List.getD,zao b]using h
   |succ k=>
    have:=h3 k o' (by simpa using a) i (by simpa[zbD,Nat.add_comm 1 k]using hi);exact this
def kZ:∀(l:List Oper)(i:Nat),jl i l=true->∀k o,l[k]?=some o->∀e∈o.after,Region.binds .any e=true->e.on<i+k
 |[],_,_,k,o,h,_,_,_=>by simp at h
 |o::l,i,hd,k,o',a,e,b,c=>by
  simp only[jl,zaj,zas]at hd;cases k with
  |zero=>
   simp at a;subst a;have:=hd.1 e (by simpa using b);simpa[c]using this
  |succ k=>
   have:=kZ l (i+1) hd.2 k o' (by simpa using a) e b c;omega
def Ai{l:List Oper}(hl:ops.toList=l)(hd:jl 0 l=true)(c:Down ops a)(i:Nat):∀(j:Nat)(o:Oper),ops[j]?=some o->
   (∀e∈o.after,Region.binds .any e=true->a.getD e.on false=true)->((nP l []).getD j 0).testBit i=true->a.getD i false=true:=by
 intro j;induction j using Nat.strongRecOn with
 |_ j q=>
  intro o p b h;have g:l[j]?=some o:=by rw[<-hl];simpa using p
  obtain⟨e,h1,h2,h3⟩:=(v9 l []).2.2 j o g i (by simpa using h);have m:e∈o.after:=by simpa using h1
  rcases h3 with h3|h3
  .rw[<-h3];exact b e m h2
  .have r:=kZ l 0 hd j o g e m h2;have f:e.on<j:=(by omega);have s:j<ops.size:=(zaK.1 p).1;have d:ops[e.on]?=some (ops[e.on]'(by omega)):=zb5 (by omega);exact q e.on f _ d (fun t k n=>c e.on _ d (b e m h2) t k n) h3
def qV{a:List Nat}:∀(l:List d8)(j:Nat),uG ds a i o j l=true->∀k y,l[k]?=some y->(a.getD (j+k) 0).testBit i=true\/(indep o y || BW ds o y)=true
 |[],_,_,k,y,h=>by simp at h
 |z::l,j,hp,k,y,hy=>by
  simp only[uG,zaj,zbo]at hp;cases k with
  |zero=>simp at hy;subst hy;simpa[or_assoc]using hp.1
  |succ k=>
   have:=qV l (j+1) hp.2 k y (by simpa using hy)
   rwa [show j+1+k=j+(k+1) from by omega]at this
def pF{a:List Nat}:∀(l:List d8)(i:Nat),nQ ds a i l=true->∀k m x y,k<m->l[k]?=some x->l[m]?=some y->(a.getD (i+m) 0).testBit (i+k)=true\/(indep x y || BW ds x y)=true
 |[],_,_,k,m,x,y,_,h,_=>by simp at h
 |z::l,i,hp,k,m,x,y,b,hx,hy=>by
  simp only[nQ,zaj]at hp;cases m with
  |zero=>omega
  |succ m=>
   cases k with
   |zero=>
    simp at hx;subst hx;have:=qV l (i+1) hp.1 m y (by simpa using hy)
    rwa [show i+1+m=i+(m+1) from by omega]at this
   |succ k=>
    have:=pF l (i+1) hp.2 k m x y (by omega) (by simpa using hx) (by simpa using hy)
    rwa [show i+1+m=i+(m+1) from by omega,show i+1+k=i+(k+1) from by omega]at this
def uu{n:Nat}(hd:jl 0 ops.toList=true){k:Nat}{Y:Oper}(hs:a.size=n)(hl:∀j,j<n->a[j]?=some (decide (j<k)))(hn:ops.size=n)(b:ops[k]?=some Y):
   k∈Region.ready .any ops a:=by
 have f:k<ops.size:=(zaK.1 b).1;rw[zcJ];refine⟨by simp[hl k (by omega)],Y,b,fun e c d=>?_⟩;have:=kZ _ 0 hd k Y (by simpa using b) e c d;simp[hl e.on (by omega)];omega
def KM{y:d8}(h:BW ds o y=true):
   (∀d,o.dst=some d->d∉y.looks/\y.dst≠some d)/\(∀d,y.dst=some d->d∉o.looks)/\∃a b,o.addr=some a/\y.addr=some b/\(a,b)∈ds:=by
 simp only[BW,zaj]at h;obtain⟨⟨h1,h2⟩,h3⟩:=h;refine⟨fun d hd=>?_,fun d hd=>?_,?_⟩
 .rw[hd]at h1;simp at h1;exact h1
 .rw[hd]at h2;simpa using h2
 .split at h3
  .rename_i a b e c;exact⟨a,b,e,c,by simpa using h3⟩
  .cases h3
def v_{env:List (Nat×AV)}:∀{ds:List (Nat×Nat)},jX env ds=true->∀a b,(a,b)∈ds->apart (look env a) (look env b)=true
 |[],_,a,b,h=>by simp at h
 |(d,c)::r,h,a,b,hm=>by
  simp only[jX,zaj]at h;simp only[zah,zaw]at hm;rcases hm with⟨rfl,rfl⟩|hm
  .exact h.1
  .exact v_ h.2 a b hm
def wc{t:Nat}:∀{l:List d8}{st a:St},l.all (fun o=>o.dst != some t)=true->bC orc l st=some a->look a.env t=look st.env t
 |[],st,a,_,h=>by simp[bC]at h;subst h;rfl
 |o::l,st,a,hl,h=>by
  simp only[za1,zaj,bne_iff_ne,ne_eq]at hl;simp only[bC]at h;split at h
  .simp at h
  .rename_i b h1;rw[wc (by simpa using hl.2) h];rw[eF,zac]at h1;obtain⟨r1,_,rfl⟩:=h1;simp only[fc];rw[zad hl.1]
def CB(I:∀x y,lR x y->R x->R y)(hd:jl 0 ops.toList=true)(hp:nQ ds (nP ops.toList []) 0 as=true)(p:as.length=ops.size)
   (hF:∀a b,(a,b)∈ds->apart (F a) (F b)=true):
   ∀(l:List d8)(k:Nat)(c:Array Bool)(st f:St),(∀j,l[j]?=as[k+j]?)->l.length+k=ops.size->c.size=ops.size->(∀j,j<ops.size->c[j]?=some (decide (j<k)))->Down ops c->
     zJ l=true->(∀a,F a=look f.env a)->bC orc l st=some f->R f->CA orc ops as F R l.length c st
 |[],k,c,st,f,_,E,hs,hl,_,_,_,d,hr=>by
  simp[bC]at d;subst d;refine⟨?_,hr⟩;rw[List.eq_nil_iff_forall_not_mem];intro i hi;obtain⟨h1,o,D,_⟩:=zcJ.1 hi;have H:i<ops.size:=(zaK.1 D).1;simp at E;simp[hl i H]at h1;omega
 |x::l,k,c,st,f,u,E,hs,hl,g,q,A,d,hr=>by
  have w:=d;simp only[zJ,zaj]at q;simp only[bC]at d;split at d
  .simp at d
  .rename_i r t;simp only[zay]at E⊢;have hx:as[k]?=some x:=by simpa using(u 0).symm
   have v:k<ops.size:=(by omega);have D:ops[k]?=some ops[k]:=zb5 v;have e:=uu hd hs hl rfl D;refine Fw I hx (waits:=fun j=>((nP ops.toList []).getD j 0).testBit k) ?_ l.length c st r g ?_ (fun a K=>?_) e t ?_
   .intro s n j hj hw;obtain⟨_,o,C,z⟩:=zcJ.1 hj;exact Ai rfl hd n k j o C z hw
   .intro j M hj J B hw;have G:j<ops.size:=by rw[<-p];exact(zaa.1 hj).1
    have m:k<j:=by
     simp[hl j G]at B;omega
    have:=pF as 0 hp k j x M m hx hj;simp only[zbK]at this;rcases this with h|h
    .rw[h]at hw;simp at hw
    .rcases zbo _ _ |>.mp h with h|h
     .exact .inl h
     .obtain⟨f1,f2,a,b,f3,L,f5⟩:=KM h;exact .inr ⟨f1,f2,a,b,f3,L,hF a b f5⟩
   .have h1:=q.1;rw[K]at h1;rw[A a];exact(wc h1 w).symm
   .refine CB I hd hp p hF l (k+1) (c.setIfInBounds k true) r f (fun j=>?_) (by omega) (by simp[hs]) (fun j hj=>?_) (g.step e) q.2 A d hr
    .have:=u (j+1);rw[show k+(j+1)=k+1+j from by omega]at this;simpa using this
    .by_cases m:k=j
     .subst m;simp[hs,v]
     .rw[zaA m,hl j hj];congr 1;simp;omega
end
section
variable {n0:Nat} {P:Program} {ns:Names}
variable{G:Gh}{x:St}{V:Act}{w:World}
def iU.XG{n0 N:Nat}{y:St}(h:iU (num ns) n0 N G x V w)(hl:lR x y):iU (num ns) n0 N G y V w:=by
 refine⟨⟨h.env.size,fun t v ht=>h.env.env t v (by rw[hl.env];exact ht)⟩,?_,h.marks⟩;have hi:=h.inv;rw[hl.sh,hl.aa]at hi
 exact { hi with
  dz:=fun d cells hd=>hi.dz d cells (by rw[hl.mem];exact hd)
  jJ:=fun d b hd=>by rw[<-hl.mem];exact hi.jJ d b hd}
def iU.drew{n0 N:Nat}(h:iU (num ns) n0 N G x V w):iU (num ns) n0 N G x V w.drew:=⟨h.env,h.inv.drew,h.marks.BI (bZ.drew G w) rfl⟩
end
section
variable {n0:Nat} {P:Program} {ns:Names} {ro:Option Nat} {n:Nat}
def uJ(ro:Option Nat):Fence:={Fence.wide with round:=ro}
variable{args:Array Value}{w:World}{Y:Oper}{V:Act}{next:Act->World->Prop}{Q:Exit->Act->World->Prop}{A:nA}{N:Nat}{ops:Array Oper}{y:d8}{G:Gh}{orc:fQ}{as:List d8}
def KN{f:FuncId}{R:Ending->World->Prop}(h:Calls P f args w R):CallsIn (uJ ro) n P f args w R:=by
 have h0:=callsIn_wide (n:=n).2 h;cases ro with
 |none=>exact h0
 |some l=>exact h0.inRound l
def NZ{a:String}{R:Value->World->Prop}(h:Rows P a args w R):RowsIn (uJ ro) n P a args w R:=by
 intro c cs _;obtain⟨v,w',r,s⟩:=h c cs;have h0:=stepsIn_wide.2 s;exact⟨v,w',r,h0⟩
def IV(hd:∀c,Y.op≠.defer c)
   (h:Y.wp P V w next (fun _ _ _=>False)):Y.wpIn (uJ ro) n P V w next Q:=by
 refine⟨fun _ _=>trivial,?_⟩;rw[zck _ _ _ hd];unfold Oper.wp at h;generalize (execOp V.eval Y).run P w=r at h⊢;cases r with
 |ok x w'=>
  cases x<;>simp only[Oper.upon,Oper.uponIn]at h⊢<;>try exact h
  .refine⟨fun e=>by simp[uJ,Fence.wide]at e,KN (h.mono ?_)⟩;intro e d b;cases e with
   |returned v=>exact b
   |panicked c=>exact b.elim
   |outgrown=>obtain⟨_,_,hf⟩:=b;exact hf.elim
  .exact⟨fun e=>by simp[uJ,Fence.wide]at e,NZ h⟩
 |halt x w'=>cases x<;>simp only[Oper.upon,Oper.uponIn]at h⊢<;>exact h.elim
def Aj(a:im P ns A N ops Y=some y):∀c,Y.op≠.defer c:=by
 intro c e;obtain⟨args,h1,_⟩:=m6 a;rw[e]at h1;simp[cp]at h1
def Ao(h:jo P ns)(c:lH P ns orc)(e:im P ns A N ops Y=some y)
   {st Z:St}  (hs:iU (num ns) n0 N G st V w) (d:eC orc y st=some Z)  
   (hn:∀G' v w',iU (num ns) n0 N G' Z (V.put Y.dst v) w'->bZ G w G' w'->next (V.put Y.dst v) w'):
   if Region.wanted Y (yielded ops V.tmps)then Y.wpIn (uJ ro) n P V w next Q else(∀f,Y.about P w V.eval=some f->(uJ ro).fn f)/\next (V.put Y.dst undef) w:=by
 rcases Fv (Q:=fun _ _ _=>False) h c e hs d hn with⟨h1,h2⟩|⟨h1,h2⟩
 .rw[zai h1];exact IV (Aj e) h2
 .rw[h1,zad (by simp)];exact⟨fun _ _=>trivial,h2⟩
def CC(r:jo P ns)(d:lH P ns orc):∀{l:List Oper}{as:List d8}{st c:St}{G:Gh}{a:Act}{w:World},
   dN (im P ns A N ops) l=some as->iU (num ns) n0 N G st a w->bC orc as st=some c->
   (∀G' p w',iU (num ns) n0 N G' c p w'->bZ G w G' w'->Q .normal p w')->wpListIn (uJ ro) n P ops Q l a w
 |[],as,st,c,G,a,w,e,hs,b,j=>by
  simp[dN]at e;subst e;simp[bC]at b;subst b;exact j G a w hs (bZ.refl G w)
 |o::l,as,st,c,G,a,w,e,hs,b,j=>by
  simp only[dN]at e;split at e
  .rename_i v u h1 h2;simp at e;subst e;simp only[bC]at b;split at b
   .simp at b
   .rename_i s f;unfold wpListIn;exact Ao r d h1 hs f (fun G' p w' i t=>CC r d h2 i b (fun q m h g k=>j q m h g (t.trans k)))
  .simp at e
def IX(u:jo P ns)(c:lH P ns orc)(t:dN (im P ns A N ops) ops.toList=some as){E:Nat->Option AV}{R:St->Prop}:
   ∀{fuel:Nat}{b:Array Bool}{st:St}{G:Gh}{a:Act}{w:World},iU (num ns) n0 N G st a w->CA orc ops as E R fuel b st->
     (∀d G' q w',R d->iU (num ns) n0 N G' d q w'->bZ G w G' w'->Q .normal q w')->wpAnyIn (uJ ro) n P .any ops Q fuel b a w
 |0,_,st,G,a,w,hs,h,g=>⟨h.1,g st G a w h.2 hs (bZ.refl G w)⟩
 |fuel+1,b,st,G,a,w,hs,h,g=>by
  refine⟨fun h0=>g st G a w (h.1 h0) hs (bZ.refl G w),fun i hi=>?_⟩;obtain⟨z,d,h1,_,h2,h3⟩:=h.2 i hi;obtain⟨_,o,s,_⟩:=zcJ.1 hi
  have m:im P ns A N ops o=some z:=by
   obtain⟨y,g1,g2⟩:=B4 t (i:=i) (x:=o) (by simpa using s);rw[h1]at g1;cases g1;exact g2
  unfold wpOpIn;simp only[s];exact Ao u c m hs h2 (fun G' q w' k v=>IX u c t k h3 (fun e r p j hr f l=>g e r p j hr f (v.trans l)))
def yF(hm:P.follows .mixedOrders=true)(u:jo P ns)(g:lH P ns orc){id:Nat}{e:Bool}
   (r:dN (im P ns A N ops) ops.toList=some as) {ds:List (Nat×Nat)} (hd:e=true->zL ds ops.toList as=true) {st Z:St}    (hs:iU (num ns) n0 N G st V w) (i:bC orc as st=some Z) (h:jX Z.env ds=true)
    (t:∀G' m w',iU (num ns) n0 N G' Z m w'->bZ G w G' w'->Q .normal m w'):(Code.region id ops e).wpIn (uJ ro) n P Q V w:=by
 cases e with
 |false=>exact zbp (CC u g r hs i t)
 |true=>
  have f:=hd rfl;simp only[zL,zaj]at f;have d:as.length=ops.size:=by have:=jL r;simpa using this
  refine wpIn_region_any hm ?_
  have l:CA orc ops as (look Z.env) (fun s=>lR s Z) ops.size (Array.replicate ops.size false) st:=by
   have:=CB (orc:=orc) (ops:=ops) (as:=as) (F:=look Z.env) (R:=fun s=>lR s Z) (fun x y hl hr=>hl.symm.trans hr) f.1 f.2.1 d (fun V b=>v_ h V b) as 0 (Array.replicate ops.size false) st Z (fun j=>by simp) (by simp[d]) (by simp)
     (fun j hj=>by simp[hj]) (fun k o v z=>by
      exfalso;have q:k<ops.size:=(zaK.1 v).1;simp[q]at z) f.2.2 (fun _=>rfl) i (lR.refl _)
   rwa [d]at this
  exact IX u g r hs.drew l fun s G' m w' hl p B=>t G' m w' (p.XG hl) ((bZ.drew G w).trans B)
end
variable{α:Type}{k sz:Nat}{a b:fQ}{vals:List AV}{sh:Sh}{aa:aH}{st:St}{f C:St->Option (aX×St)}{live:List Nat}{ag:Bool}
def CD(f:Nat->Option α):Prop:=∀k k' r,k<=k'->f k=some r->f k'=some r
open Classical in
noncomputable def KO{α:Type}(f:Nat->Option α):Option α:=if h:∃r k,f k=some r then some h.choose else none
def we{f:Nat->Option α}(hf:CD f){r:α}(h:f k=some r):KO f=some r:=by
 have a:∃r k,f k=some r:=⟨r,k,h⟩;unfold KO;rw[dif_pos a];obtain⟨k',h'⟩:=a.choose_spec;have h1:=hf _ (max k k') _ (zbj _ _) h';have h2:=hf _ (max k k') _ (zbn _ _) h;rw[h1]at h2;exact h2
def gK{f:Nat->Option α}{r:α}(h:KO f=some r):∃k,f k=some r:=by
 unfold KO at h;split at h
 .rename_i a;obtain⟨k,b⟩:=a.choose_spec;cases h;exact⟨k,b⟩
 .simp at h
theorem wg{f:Nat->Option α}(h:∀k,f k=none):KO f=none:=by
 cases hl:KO f with
 |none=>rfl
 |some r=>obtain⟨k,a⟩:=gK hl;rw[h k]at a;simp at a
def m7{f:Nat->Option α}(hf:CD f){o:Option α}(h1:∀k r,f k=some r->o=some r)(h2:∀r,o=some r->∃k,f k=some r):KO f=o:=by
 cases a:o with
 |none=>exact wg fun k=>by cases b:f k with|none=>rfl|some r=>rw[h1 k r b]at a;simp at a
 |some r=>obtain⟨k,b⟩:=h2 r a;exact we hf b
structure fQ.le(a b:fQ):Prop where
 p:∀g x r,a.p g x=some r->b.p g x=some r
 i:∀g x s t r,a.i g x s t=some r->b.i g x s t=some r
def fQ.le_refl(a:fQ):a.le a:=⟨fun _ _ _ h=>h,fun _ _ _ _ _ h=>h⟩
def lS(h:a.le b){g:Nat}{own:List Nat}{r:AV×Sh×aH}(e:eJ a g own vals sh aa=some r):eJ b g own vals sh aa=some r:=by
 unfold eJ at*;split at e
 .rename_i hp;rw[zai hp];simp only[zac]at e⊢;obtain⟨x,h1,h2⟩:=e;exact⟨x,h.i _ _ _ _ _ h1,h2⟩
 .simp at e
def KP(h:a.le b){op:AK}{cells:Option (List AV)}{r:Out}(e:exec a op vals cells sh aa=some r):exec b op vals cells sh aa=some r:=by
 cases op with
 |aJ g=>
  simp only[exec]at e⊢;split at e
  .simp only[zac]at e⊢;obtain⟨x,h1,h2⟩:=e;exact⟨x,h.p _ _ _ h1,h2⟩
  .simp at e
 |dt g=>
  simp only[exec]at e⊢;split at e
  .simp only[zac]at e⊢;obtain⟨x,h1,h2⟩:=e;exact⟨x,h.p _ _ _ h1,h2⟩
  .simp at e
 |bg g own=>
  simp only[exec,zac]at e⊢;obtain⟨x,h1,h2⟩:=e;exact⟨x,lS h h1,h2⟩
 |gE=>
  cases vals with
  |nil=>simp[exec]at e
  |cons f vals=>
   cases f with
   |fn g cap=>
    simp only[exec,zau]at e⊢;obtain⟨x,h1,h2⟩:=e;exact⟨x,lS h h1,h2⟩
   |_=>simp[exec]at e
 |h_=>
  cases vals with
  |nil=>simp[exec]at e
  |cons f vals=>
   cases f with
   |fn g cap=>
    simp only[exec,zac]at e⊢;obtain⟨x,h1,h2⟩:=e;exact⟨x,lS h h1,h2⟩
   |_=>simp[exec]at e
 |_=>first|(rw[<-e];unfold exec;split<;>first|rfl|(rename_i c;cases c;done)|(simp at*;done);done)|(simp[exec]at h;done)|(simp[exec]at e;done)|(simp[exec];done)
def yG(h:a.le b){o:d8}{Z:St}(e:eC a o st=some Z):eC b o st=some Z:=by
 unfold eC at*;cases hw:gT st.env o.guard with
 |none=>rw[hw]at e;simp at e
 |some t=>
  cases t with
  |false=>rw[hw]at e;exact e
  |true=>
   rw[hw]at e;dsimp only at e⊢;cases d:eN st.env o.args with
   |none=>rw[d]at e;simp at e
   |some vals=>
    rw[d]at e;dsimp only at e⊢;cases c:exec a o.op vals (o.op.key.bind (look st.mem)) st.sh st.aa with
    |none=>rw[c]at e;simp at e
    |some out=>
     rw[c]at e;rw[KP h c];exact e
def p8(h:a.le b):∀{l:List d8}{st r:St},bC a l st=some r->bC b l st=some r
 |[],_,_,e=>e
 |o::l,st,r,e=>by
  simp only[bC]at e⊢;split at e
  .simp at e
  .rename_i c d;rw[yG h d];exact p8 h e
def k_{a:St->St}(h:∀s r,f s=some r->C s=some r):∀{n n':Nat}{st:St}{r:aX×St},n<=n'->gI f a n st=some r->gI C a n' st=some r
 |0,_,_,_,_,e=>by simp[gI]at e
 |n+1,0,_,_,hn,_=>by omega
 |n+1,n'+1,st,r,hn,e=>by
  simp only[gI]at e⊢;cases hf:f (a st)with
  |none=>rw[hf]at e;simp at e
  |some q=>
   rw[h _ _ hf];rw[hf]at e;obtain⟨x,s⟩:=q;cases x with
   |normal=>exact k_ h (by omega) e
   |ret=>exact e
   |exit id=>exact e
def p9(h:∀s r,f s=some r->C s=some r){pi px:Nat}{env:List (Nat×AV)}:∀{l:List (PV×Nat)}{st:St}{r:aX×St},
   iK f live pi px sz ag env l st=some r->iK C live pi px sz ag env l st=some r
 |[],_,_,e=>e
 |(el,i)::l,st,r,e=>by
  simp only[iK]at e⊢;cases a:uq sz ag el with
  |none=>rw[a]at e;simp at e
  |some v=>
   rw[a]at e;simp only at e⊢;cases hf:f (norm (restrict live {st with env:=dh (dh env pi (.pv (.int .i64 i))) px v}))with
   |none=>rw[hf]at e;simp at e
   |some q=>
    rw[h _ _ hf];rw[hf]at e;obtain⟨x,s⟩:=q;cases x with
    |normal=>exact p9 h e
    |ret=>exact e
    |exit id=>exact e
def pG(h:∀s r,f s=some r->C s=some r){v:Option AV}{gb pi px:Nat}{r:aX×St}
   (e:fR f v gb pi px sz ag live st=some r):fR C v gb pi px sz ag live st=some r:=by
 unfold fR at e⊢;split at e
 .split at e
  .rename_i b;rw[zai b];split at e
   .split at e
    .rename_i hl;rw[zai hl];exact p9 h e
    .simp at e
   .simp at e
  .simp at e
 .simp at e
def kt{a g':St->Option (aX×St)}(h:∀s r,f s=some r->a s=some r)(k:∀s r,C s=some r->g' s=some r):∀s r,andThen f C s=some r->andThen a g' s=some r:=by
 intro s r e;unfold andThen at e⊢;cases hf:f s with
 |none=>rw[hf]at e;simp at e
 |some q=>
  rw[h _ _ hf];rw[hf]at e;obtain⟨x,t⟩:=q;cases x with
  |normal=>exact k _ _ e
  |ret=>simp at e
  |exit id=>simp at e
def ca(h:a.le b){k':Nat}(d:k<=k'):∀{c:ah}{st:St}{r:aX×St},cT a k c st=some r->cT b k' c st=some r
 | .skip,_,_,e=>e
 | .eQ _,_,_,e=>e
 | .VK _,_,_,e=>e
 | .NG _,_,_,e=>e
 | .oK _,_,_,e=>e
 | .Xt _,_,_,e=>e
 | .ka ops live,st,r,e=>by
  simp only[cT]at e⊢;split at e
  .rename_i f g;rw[p8 h g];exact e
  .simp at e
 | .seq x y,st,r,e=>by
  simp only[cT]at e⊢;cases hx:cT a k x st with
  |none=>rw[hx]at e;simp at e
  |some q=>
   rw[ca h d hx];rw[hx]at e;obtain⟨i,s⟩:=q;cases i with
   |normal=>exact ca h d e
   |ret=>exact e
   |exit id=>exact e
 | .cond c x y,st,r,e=>by
  simp only[cT]at e⊢;split at e
  .rename_i t j;split at e
   .rename_i ht;rw[zai ht];exact ca h d e
   .rename_i ht;rw[zad ht];exact ca h d e
  .simp at e
 | .block id x,st,r,e=>by
  simp only[cT]at e⊢;cases hx:cT a k x st with
  |none=>rw[hx]at e;simp at e
  |some q=>
   rw[ca h d hx];rw[hx]at e;exact e
 | .loop live x,st,r,e=>by
  simp only[cT]at e⊢;exact k_ (fun s r hs=>ca h d hs) d e
 | .exit id,_,_,e=>e
 | .ret,_,_,e=>e
 | .back c gb pi px sz ag live x y,st,r,e=>by
  simp only[cT]at e⊢;exact pG (kt (fun s r hs=>ca h d hs) (fun s r hs=>ca h d hs)) e
def ga(h:a.le b)(d:k<=sz){af:aw}{cs:List AV}{ts:aH}{r:List AV×Sh×aH}(e:cE a k ag af cs sh ts=some r):cE b sz ag af cs sh ts=some r:=by
 unfold cE at*;cases c:cT a k af.body {env:=bY 0 cs,mem:=[],sh,aa:=ts}with
 |none=>rw[c]at e;simp at e
 |some q=>rw[ca h d c];rw[c]at e;exact e
variable {AP:Nat->Option aw}
def cZ:∀{n n' k k':Nat},n<=n'->k<=k'->(run AP k n).le (run AP k' n')
 |0,_,_,_,_,_=>⟨fun g x r e=>by simp[run]at e,fun g x s t r e=>by simp[run]at e⟩
 |n+1,0,_,_,h,_=>by omega
 |n+1,n'+1,k,k',h,c=>by
  have b:(run AP k n).le (run AP k' n'):=cZ (by omega) c;refine⟨fun g x r e=>?_,fun g x s t r e=>?_⟩
  .simp only[run]at e⊢;cases a:AP g with
   |none=>rw[a]at e;simp at e
   |some af=>
    rw[a]at e;dsimp only at e⊢;cases hp:af.rX with
    |some f=>rw[hp]at e;exact f.mono b.p e
    |none=>
     rw[hp]at e;dsimp only at e⊢;split at e
     .rename_i d;rw[zai d];cases i:cE (run AP k n) k false af (x.map .pv) [] []with
      |none=>rw[i]at e;simp at e
      |some q=>rw[ga b c i];rw[i]at e;exact e
     .simp at e
  .simp only[run]at e⊢;cases a:AP g with
   |none=>rw[a]at e;simp at e
   |some af=>
    rw[a]at e;dsimp only at e⊢;split at e
    .rename_i d;rw[zai d];exact ga b c e
    .simp at e
noncomputable def aE(AP:Nat->Option aw):fQ where
 p:=fun g x=>KO fun n=>(run AP n n).p g x
 i:=fun g x s t=>KO fun n=>(run AP n n).i g x s t
def uL(g:Nat)(x:List PV):CD fun n=>(run AP n n).p g x:=fun _ _ _ h e=>(cZ h h).p _ _ _ e
def IY(g:Nat)(x:List AV)(s:Sh)(t:aH):CD fun n=>(run AP n n).i g x s t:=fun _ _ _ h e=>(cZ h h).i _ _ _ _ _ e
def N2(n:Nat):(run AP n n).le (aE AP):=⟨fun g x _ e=>we (uL g x) e,fun g x s t _ e=>we (IY g x s t) e⟩
variable{g n k id:Nat}{l:List PV}{r:List AV×Sh×aH}{x vals cs:List AV}{sh:Sh}{aa ts:aH}{st:St}{u:ah}{live:List Nat}{ag:Bool}{c:fp}{af:aw}
def uM{r:List PV}(h:(aE AP).p g l=some r):∃n,(run AP n n).p g l=some r:=gK h
def SL{s:Sh}{t:aH}(h:(aE AP).i g x s t=some r):∃n,(run AP n n).i g x s t=some r:=gK h
def p_{own:List Nat}{r:AV×Sh×aH}(e:eJ (aE AP) g own vals sh aa=some r):∃n,eJ (run AP n n) g own vals sh aa=some r:=by
 unfold eJ at*;split at e
 .rename_i hp;simp only[zac]at e;obtain⟨x,h1,h2⟩:=e;obtain⟨n,hn⟩:=SL h1;exact⟨n,by rw[zai hp,hn];simp only[zaZ,h2]⟩
 .simp at e
def Fx{op:AK}{cells:Option (List AV)}{r:Out}(e:exec (aE AP) op vals cells sh aa=some r):∃n,exec (run AP n n) op vals cells sh aa=some r:=by
 cases op with
 |aJ g=>
  simp only[exec]at e⊢;split at e
  .rename_i eE hp;simp only[zac]at e;obtain⟨x,h1,h2⟩:=e;obtain⟨n,hn⟩:=uM h1;exact⟨n,by rw[hn];simp only[zaZ,h2]⟩
  .simp at e
 |dt g=>
  simp only[exec]at e⊢;split at e
  .rename_i eE hp;simp only[zac]at e;obtain⟨x,h1,h2⟩:=e;obtain⟨n,hn⟩:=uM h1;exact⟨n,by rw[hn];simp only[zaZ,h2]⟩
  .simp at e
 |bg g own=>
  simp only[exec,zac]at e⊢;obtain⟨x,h1,h2⟩:=e;obtain⟨n,hn⟩:=p_ h1;exact⟨n,x,hn,h2⟩
 |gE=>
  cases vals with
  |nil=>simp[exec]at e
  |cons f vals=>
   cases f with
   |fn g cap=>
    simp only[exec,zau]at e⊢;obtain⟨x,h1,h2⟩:=e;obtain⟨n,hn⟩:=p_ h1;exact⟨n,x,hn,h2⟩
   |_=>simp[exec]at e
 |h_=>
  cases vals with
  |nil=>simp[exec]at e
  |cons f vals=>
   cases f with
   |fn g cap=>
    simp only[exec,zac]at e⊢;obtain⟨x,h1,h2⟩:=e;obtain⟨n,hn⟩:=p_ h1;exact⟨n,x,hn,h2⟩
   |_=>simp[exec]at e
 |_=>first|(exact⟨0,by rw[<-e];unfold exec;split<;>first|rfl|(rename_i a;cases a;done)|(simp at*;done)⟩;done)|(simp[exec]at h;done)|(simp[exec]at e;done)|(simp[exec];done)
def N3{o:d8}{Z:St}(e:eC (aE AP) o st=some Z):∃n,eC (run AP n n) o st=some Z:=by
 unfold eC at*;cases hw:gT st.env o.guard with
 |none=>rw[hw]at e;simp at e
 |some t=>
  cases t with
  |false=>rw[hw]at e;exact⟨0,e⟩
  |true=>
   rw[hw]at e;dsimp only at e⊢;cases b:eN st.env o.args with
   |none=>rw[b]at e;simp at e
   |some vals=>
    rw[b]at e;dsimp only at e⊢;cases a:exec (aE AP) o.op vals (o.op.key.bind (look st.mem)) st.sh st.aa with
    |none=>rw[a]at e;simp at e
    |some out=>
     obtain⟨n,hn⟩:=Fx a;rw[a]at e;exact⟨n,by rw[hn];exact e⟩
def yH:∀{l:List d8}{st r:St},bC (aE AP) l st=some r->∃n,bC (run AP n n) l st=some r
 |[],_,_,e=>⟨0,e⟩
 |o::l,st,r,e=>by
  simp only[bC]at e⊢;cases a:eC (aE AP) o st with
  |none=>rw[a]at e;simp at e
  |some s=>
   rw[a]at e;obtain⟨n,hn⟩:=N3 a;obtain⟨m,hm⟩:=yH (l:=l) e;refine⟨max n m,?_⟩;rw[yG (cZ (zbn n m) (zbn n m)) hn];exact p8 (cZ (zbj n m) (zbj n m)) hm
def wh{k:Nat}{a:St->St}(b:∀{st:St}{r:aX×St},cT (aE AP) k u st=some r->∃n,cT (run AP n n) n u st=some r):
   ∀{j:Nat}{st:St}{r:aX×St},gI (cT (aE AP) k u) a j st=some r->∃n,gI (cT (run AP n n) n u) a n st=some r
 |0,_,_,e=>by simp[gI]at e
 |j+1,st,r,e=>by
  simp only[gI]at e;cases hf:cT (aE AP) k u (a st)with
  |none=>rw[hf]at e;simp at e
  |some q=>
   obtain⟨n,hn⟩:=b hf;rw[hf]at e;obtain⟨x,s⟩:=q;cases x with
   |normal=>
    obtain⟨m,hm⟩:=wh b e;refine⟨max n m+1,?_⟩;simp only[gI];rw[ca (cZ (n:=n) (n':=max n m+1) (by omega) (by omega)) (k:=n) (k':=max n m+1) (by omega) hn];exact k_ (fun s r hs=>ca (cZ (n:=m) (by omega) (by omega)) (k:=m) (by omega) hs) (n:=m) (by omega) hm
   |ret=>
    refine⟨n+1,?_⟩;simp only[gI];rw[ca (cZ (n:=n) (n':=n+1) (by omega) (by omega)) (k:=n) (k':=n+1) (by omega) hn];exact e
   |exit id=>
    refine⟨n+1,?_⟩;simp only[gI];rw[ca (cZ (n:=n) (n':=n+1) (by omega) (by omega)) (k:=n) (k':=n+1) (by omega) hn];exact e
def sr{m:Nat}(h:n<=m){r:aX×St}(e:cT (run AP n n) n u st=some r):cT (run AP m m) m u st=some r:=ca (cZ h h) h e
def x8{y:ah}(b:∀{st:St}{r:aX×St},cT (aE AP) k u st=some r->∃n,cT (run AP n n) n u st=some r)(a:∀{st:St}{r:aX×St},cT (aE AP) k y st=some r->∃n,cT (run AP n n) n y st=some r)
    {r:aX×St} (e:andThen (cT (aE AP) k u) (cT (aE AP) k y) st=some r):∃n,andThen (cT (run AP n n) n u) (cT (run AP n n) n y) st=some r:=by
 unfold andThen at e⊢;cases hx:cT (aE AP) k u st with
 |none=>rw[hx]at e;simp at e
 |some q=>
  obtain⟨n,hn⟩:=b hx;rw[hx]at e;obtain⟨c,s⟩:=q;cases c with
  |normal=>
   obtain⟨m,hm⟩:=a e;exact⟨max n m,by rw[sr (zbn n m) hn];exact sr (zbj n m) hm⟩
  |ret=>simp at e
  |exit id=>simp at e
def qb{C:St->Option (aX×St)}{f:Nat->St->Option (aX×St)}(hm:∀{n m:Nat},n<=m->∀s r,f n s=some r->f m s=some r)(b:∀{st:St}{r:aX×St},C st=some r->∃n,f n st=some r)
    {pi px sz:Nat}  {env:List (Nat×AV)}:∀{l:List (PV×Nat)}{st:St}{r:aX×St},iK C live pi px sz ag env l st=some r->∃n,iK (f n) live pi px sz ag env l st=some r
 |[],_,_,e=>⟨0,e⟩
 |(el,i)::l,st,r,e=>by
  simp only[iK]at e⊢;cases c:uq sz ag el with
  |none=>rw[c]at e;simp at e
  |some v=>
   rw[c]at e;simp only at e⊢;cases hf:C (norm (restrict live {st with env:=dh (dh env pi (.pv (.int .i64 i))) px v}))with
   |none=>rw[hf]at e;simp at e
   |some q=>
    obtain⟨n,hn⟩:=b hf;rw[hf]at e;obtain⟨x,s⟩:=q;cases x with
    |normal=>
     obtain⟨m,a⟩:=qb hm b e;exact⟨max n m,by rw[hm (zbn n m) _ _ hn];exact p9 (hm (zbj n m)) a⟩
    |ret=>exact⟨n,by rw[hn];exact e⟩
    |exit id=>exact⟨n,by rw[hn];exact e⟩
def ku{N:Nat}:∀{c:ah}{st:St}{r:aX×St},cT (aE AP) N c st=some r->∃n,cT (run AP n n) n c st=some r
 | .skip,_,_,e=>⟨0,e⟩
 | .eQ _,_,_,e=>⟨0,e⟩
 | .VK _,_,_,e=>⟨0,e⟩
 | .NG _,_,_,e=>⟨0,e⟩
 | .oK _,_,_,e=>⟨0,e⟩
 | .Xt _,_,_,e=>⟨0,e⟩
 | .ka ops live,st,r,e=>by
  simp only[cT]at e⊢;cases a:bC (aE AP) ops st with
  |none=>rw[a]at e;simp at e
  |some s=>obtain⟨n,hn⟩:=yH a;rw[a]at e;exact⟨n,by rw[hn];exact e⟩
 | .seq x y,st,r,e=>by
  simp only[cT]at e⊢;cases hx:cT (aE AP) N x st with
  |none=>rw[hx]at e;simp at e
  |some q=>
   obtain⟨n,hn⟩:=ku hx;rw[hx]at e;obtain⟨d,s⟩:=q;cases d with
   |normal=>
    obtain⟨m,hm⟩:=ku (c:=y) e;exact⟨max n m,by rw[sr (zbn n m) hn];exact sr (zbj n m) hm⟩
   |ret=>exact⟨n,by rw[hn];exact e⟩
   |exit id=>exact⟨n,by rw[hn];exact e⟩
 | .cond c x y,st,r,e=>by
  simp only[cT]at e⊢;split at e
  .rename_i t g;split at e
   .rename_i ht;obtain⟨n,hn⟩:=ku e;exact⟨n,by rw[zai ht];exact hn⟩
   .rename_i ht;obtain⟨n,hn⟩:=ku e;exact⟨n,by rw[zad ht];exact hn⟩
  .simp at e
 | .block id x,st,r,e=>by
  simp only[cT]at e⊢;cases hx:cT (aE AP) N x st with
  |none=>rw[hx]at e;simp at e
  |some q=>
   obtain⟨n,hn⟩:=ku hx;rw[hx]at e;exact⟨n,by rw[hn];exact e⟩
 | .loop live x,st,r,e=>by
  simp only[cT]at e⊢;exact wh (fun h=>ku h) e
 | .exit id,_,_,e=>⟨0,e⟩
 | .ret,_,_,e=>⟨0,e⟩
 | .back c gb pi px sz ag live x y,st,r,e=>by
  simp only[cT]at e⊢;unfold fR at e⊢;split at e
  .split at e
   .rename_i b;split at e
    .split at e
     .rename_i hl;obtain⟨n,hn⟩:=qb (f:=fun n=>andThen (cT (run AP n n) n x) (cT (run AP n n) n y)) (fun h=>kt (fun s r hs=>sr h hs) (fun s r hs=>sr h hs)) (x8 (fun h=>ku h) (fun h=>ku h)) e;exact⟨n,by rw[zai b,zai hl];exact hn⟩
     .simp at e
    .simp at e
   .simp at e
  .simp at e
noncomputable def cl(AP:Nat->Option aw)(c:ah)(st:St):Option (aX×St):=KO fun k=>cT (aE AP) k c st
def qW(c:ah)(st:St):CD fun k=>cT (aE AP) k c st:=fun _ _ _ h e=>ca (fQ.le_refl _) h e
def lJ{r:aX×St}(h:cT (aE AP) k u st=some r):cl AP u st=some r:=we (qW u st) h
def SM:cl AP .skip st=some (.normal,st):=lJ (k:=0) rfl
def SN:cl AP (.exit id) st=some (.exit id,st):=lJ (k:=0) rfl
def XH{ts:List Nat}:cl AP (.eQ ts) st=some (.normal,pw ts st):=lJ (k:=0) rfl
def XI:cl AP .ret st=some (.ret,st):=lJ (k:=0) rfl
def XJ{as:List d8}:cl AP (.ka as live) st=(bC (aE AP) as st).map fun a=>(.normal,restrict live a):=by
 cases h:bC (aE AP) as st with
 |none=>exact wg fun k=>by simp only[cT,h]
 |some s=>exact lJ (k:=0) (by simp only[cT,h])
def after(f:St->Option (aX×St)):Option (aX×St)->Option (aX×St)
 |some (.normal,st)=>f st
 |r=>r
def XK{b:ah}:cl AP (.seq u b) st=after (cl AP b) (cl AP u st):=by
 refine m7 (qW _ _) (fun k r h=>?_) fun r h=>?_
 .simp only[cT]at h;cases hx:cT (aE AP) k u st with
  |none=>rw[hx]at h;simp at h
  |some q=>
   rw[lJ hx];rw[hx]at h;obtain⟨e,s⟩:=q;cases e with
   |normal=>exact lJ h
   |ret=>exact h
   |exit id=>exact h
 .cases hx:cl AP u st with
  |none=>rw[hx]at h;simp[after]at h
  |some q=>
   obtain⟨k,d⟩:=gK hx;rw[hx]at h;obtain⟨e,s⟩:=q;cases e with
   |normal=>
    obtain⟨k',c⟩:=gK (show KO (fun k=>cT (aE AP) k b s)=some r from h);refine⟨max k k',?_⟩;simp only[cT];rw[ca (fQ.le_refl _) (zbn k k') d];exact ca (fQ.le_refl _) (zbj k k') c
   |ret=>exact⟨k,by simp only[cT];rw[d];exact h⟩
   |exit id=>exact⟨k,by simp only[cT];rw[d];exact h⟩
def SO{b:ah}{t:Bool}(h:iJ st.env c=some (.pv (.bool t))):cl AP (.cond c u b) st=if t then cl AP u st else cl AP b st:=by
 unfold cl;simp only[cT,h];cases t<;>rfl
def leave(id:Nat):Option (aX×St)->Option (aX×St)
 |some (.exit a,st)=>if a=id then some (.normal,st)else some (.exit a,st)
 |r=>r
def N4:cl AP (.block id u) st=leave id (cl AP u st):=by
 refine m7 (qW _ _) (fun k r h=>?_) fun r h=>?_
 .simp only[cT]at h;cases hx:cT (aE AP) k u st with
  |none=>rw[hx]at h;simp at h
  |some q=>rw[lJ hx];rw[hx]at h;exact h
 .cases hx:cl AP u st with
  |none=>rw[hx]at h;simp[leave]at h
  |some q=>
   obtain⟨k,a⟩:=gK hx;rw[hx]at h;exact⟨k,by simp only[cT];rw[a];exact h⟩
def uP:cl AP (.loop live u) st=after (cl AP (.loop live u)) (cl AP u (norm (restrict live st))):=by
 refine m7 (qW _ _) (fun k r h=>?_) fun r h=>?_
 .simp only[cT]at h;cases k with
  |zero=>simp[gI]at h
  |succ k=>
   simp only[gI]at h;cases hx:cT (aE AP) (k+1) u (norm (restrict live st))with
   |none=>rw[hx]at h;simp at h
   |some q=>
    rw[lJ hx];rw[hx]at h;obtain⟨c,s⟩:=q;cases c with
    |normal=>exact lJ (k:=k+1) (by simp only[cT];exact k_ (fun _ _ h=>h) (zbC k) h)
    |ret=>exact h
    |exit id=>exact h
 .cases hx:cl AP u (norm (restrict live st))with
  |none=>rw[hx]at h;simp[after]at h
  |some q=>
   obtain⟨k,d⟩:=gK hx;rw[hx]at h;obtain⟨c,s⟩:=q;have up:∀m,k<=m->cT (aE AP) m u (norm (restrict live st))=some (c,s):=fun m hm=>ca (fQ.le_refl _) hm d
   cases c with
   |normal=>
    obtain⟨k',a⟩:=gK (show KO (fun k=>cT (aE AP) k (.loop live u) s)=some r from h);refine⟨max k k'+1,?_⟩;simp only[cT,gI];rw[up _ (by omega)];simp only[cT]at a;exact k_ (fun _ _ h=>ca (fQ.le_refl _) (by omega) h) (by omega) a
   |ret=>exact⟨k+1,by simp only[cT,gI];rw[up _ (by omega)];exact h⟩
   |exit id=>exact⟨k+1,by simp only[cT,gI];rw[up _ (by omega)];exact h⟩
def SP{gb pi px sz:Nat}{y:ah}:
   cl AP (.back c gb pi px sz ag live u y) st=fR (andThen (cl AP u) (cl AP y)) (iJ st.env c) gb pi px sz ag live st:=by
 refine m7 (qW _ _) (fun k r h=>?_) fun r h=>?_
 .simp only[cT]at h;exact pG (kt (fun s r hs=>lJ hs) (fun s r hs=>lJ hs)) h
 .simp only[cT];unfold fR at h⊢;split at h
  .split at h
   .rename_i d;split at h
    .rename_i l b;by_cases hl:l.length<4611686018427387904;case neg=>rw[zad hl]at h;simp at h
     rw[zai hl]at h
     have a:∀{s:St}{r:aX×St},andThen (cl AP u) (cl AP y) s=some r->∃n,andThen (cT (aE AP) n u) (cT (aE AP) n y) s=some r:=by
      intro s r e;unfold andThen at e⊢;cases hx:cl AP u s with
      |none=>rw[hx]at e;simp at e
      |some q=>
       obtain⟨n,hn⟩:=gK hx;rw[hx]at e;obtain⟨g,s'⟩:=q;cases g with
       |normal=>
        obtain⟨m,hm⟩:=gK (show KO (fun k=>cT (aE AP) k y s')=some r from e);exact⟨max n m,by rw[ca (fQ.le_refl _) (zbn n m) hn];exact ca (fQ.le_refl _) (zbj n m) hm⟩
       |ret=>simp at e
       |exit id=>simp at e
     obtain⟨n,hn⟩:=qb (f:=fun n=>andThen (cT (aE AP) n u) (cT (aE AP) n y)) (fun h=>kt (fun s r hs=>ca (fQ.le_refl _) h hs) (fun s r hs=>ca (fQ.le_refl _) h hs)) a h;exact⟨n,by rw[zai d,zai hl];exact hn⟩
    .simp at h
   .simp at h
  .simp at h
def finish(a6:Bool)(af:aw)(sh:Sh):Option (aX×St)->Option (List AV×Sh×aH)
 |some (e,st)=>
  if e=.ret\/e=.normal then
   match e8 st af.results with
   |some vs=>
    let rs:=cI a6 af.ks st.sh vs
    let sh':=if rs.all (aN sh.length)=true then(gq a6 af.ks st.sh vs).take sh.length else gq a6 af.ks st.sh vs
    if rs.all bQ=true then some ((cL st.aa rs sh').1,(cL st.aa rs sh').2.1,(cL st.aa rs sh').2.2.2)else none
   |none=>none
  else none
 |none=>none
theorem iC{orc:fQ}:cE orc k ag af cs sh ts=finish ag af sh (cT orc k af.body {env:=bY 0 cs,mem:=[],sh,aa:=ts}):=by
 unfold cE finish;cases cT orc k af.body {env:=bY 0 cs,mem:=[],sh,aa:=ts}with
 |none=>rfl
 |some q=>obtain⟨e,st⟩:=q;rfl
noncomputable def pH(AP:Nat->Option aw)(a6:Bool)(af:aw)(args:List AV)(sh:Sh)(ts:aH):Option (List AV×Sh×aH):=
 finish a6 af sh (cl AP af.body {env:=bY 0 args,mem:=[],sh,aa:=ts})
def yI(h:pH AP ag af cs sh ts=some r):∃n,cE (run AP n n) n ag af cs sh ts=some r:=by
 unfold pH at h;cases a:cl AP af.body {env:=bY 0 cs,mem:=[],sh,aa:=ts}with
 |none=>rw[a]at h;simp[finish]at h
 |some q=>
  obtain⟨k,b⟩:=gK a;obtain⟨n,hn⟩:=ku b;exact⟨n,by rw[iC,hn,<-a];exact h⟩
def IZ(h:cE (run AP n n) n ag af cs sh ts=some r):pH AP ag af cs sh ts=some r:=by
 rw[iC]at h;unfold pH;cases a:cT (run AP n n) n af.body {env:=bY 0 cs,mem:=[],sh,aa:=ts}with
 |none=>rw[a]at h;simp[finish]at h
 |some q=>
  rw[lJ (ca (N2 n) (zal n) a)];rw[a]at h;exact h
def VS(b:AP g=some af)(hp:af.rX=none)(h1:l.length=af.nparams)(h2:l.length<=af.ntmps):
   (aE AP).p g l=(pH AP false af (l.map .pv) [] []).bind fun r=>gi r.1:=by
 refine m7 (uL g l) (fun k r h=>?_) fun r h=>?_
 .cases k with
  |zero=>simp[run]at h
  |succ k=>
   simp only[run,b,hp]at h;rw[zai ⟨h1,h2⟩]at h;cases a:cE (run AP (k+1) k) (k+1) false af (l.map .pv) [] []with
   |none=>rw[a]at h;simp at h
   |some q=>
    rw[IZ (n:=k+1) (ga (cZ (zbC k) (zal _)) (zal _) a)];rw[a]at h;exact h
 .cases a:pH AP false af (l.map .pv) [] []with
  |none=>rw[a]at h;simp at h
  |some q=>
   obtain⟨n,hn⟩:=yI a;rw[a]at h;refine⟨n+1,?_⟩;simp only[run,b,hp];rw[zai ⟨h1,h2⟩,ga (cZ (n:=n) (n':=n) (k:=n) (k':=n+1) (zal _) (zbC n)) (zbC n) hn];exact h
def yJ:∀(l:List (Nat×List PV×List PV)),(∀c∈l,(aE AP).p c.1 c.2.1=some c.2.2)->∃n,∀c∈l,(run AP n n).p c.1 c.2.1=some c.2.2
 |[],_=>⟨0,by simp⟩
 |c::l,h=>by
  obtain⟨n,hn⟩:=uM (h c (by simp));obtain⟨m,hm⟩:=yJ l fun c' a=>h c' (by simp[a]);refine⟨max n m,fun c' a=>?_⟩;simp only[zah]at a;rcases a with rfl|a
  .exact(cZ (zbn n m) (zbn n m)).p _ _ _ hn
  .exact(cZ (zbj n m) (zbj n m)).p _ _ _ (hm c' a)
def SQ{x:List PV}{f:Prim}(a:AP g=some af)(hp:af.rX=some f):(aE AP).p g x=f.f (aE AP).p x:=by
 refine m7 (uL g x) (fun k r h=>?_) fun r h=>?_
 .cases k with
  |zero=>simp[run]at h
  |succ k=>
   simp only[run,a,hp]at h;exact f.mono (fun g x r e=>(N2 (k+1)).p _ _ _ ((cZ (zbC k) (zal _)).p _ _ _ e)) h
 .obtain⟨l,h1,h2⟩:=f.fin _ _ _ h;obtain⟨n,hn⟩:=yJ l h1;refine⟨n+1,?_⟩;simp only[run,a,hp];exact h2 _ fun c b=>(cZ (n:=n) (n':=n) (k:=n) (k':=n+1) (zal _) (zbC n)).p _ _ _ (hn c b)
def VT(a:AP g=some af)(h2:x.length<=af.ntmps):(aE AP).i g x sh ts=pH AP true af x sh ts:=by
 refine m7 (IY g x sh ts) (fun k r h=>?_) fun r h=>?_
 .cases k with
  |zero=>simp[run]at h
  |succ k=>
   simp only[run,a]at h;rw[zai h2]at h;exact IZ (n:=k+1) (ga (cZ (zbC k) (zal _)) (zal _) h)
 .obtain⟨n,hn⟩:=yI h;refine⟨n+1,?_⟩;simp only[run,a];rw[zai h2];exact ga (cZ (n:=n) (n':=n) (k:=n) (k':=n+1) (zal _) (zbC n)) (zbC n) hn
end Go.Ab
namespace Go.Ab.Ev
section
variable {AP:Nat->Option aw} {O:fQ}
noncomputable def branch(AP:Nat->Option aw)(o:Option AV)(a b:ah)(st:St):Option (aX×St):=
 match o with
 |some (.pv (.bool t))=>if t=true then cl AP a st else cl AP b st
 |_=>none
variable{st:St}{as l U:List d8}{live:List Nat}{c:Prop}{f:St->Option (aX×St)}{id t:Nat}{o:d8}{d:Option Nat}{args:List fp}{op:AK}{env:List (Nat×AV)}{mem:List (Nat×List AV)}{sh:Sh}{aa:aH}{α:Type}{v:AV}{b:Bool}{g:Option (Nat×Bool)}
def KQ{c:fp}{u b:ah}:cl AP (.cond c u b) st=branch AP (iJ st.env c) u b st:=by
 unfold branch;split
 .rename_i t h;rw[SO h]
 .rename_i h;unfold cl;refine wg fun k=>?_;simp only[cT]
theorem CE{t:Bool}{u b:ah}:branch AP (some (.pv (.bool t))) u b st=if t=true then cl AP u st else cl AP b st:=rfl
def wi(live:List Nat):Option St->Option (aX×St)
 |some st=>some (.normal,restrict live st)
 |none=>none
def KR:cl AP (.ka as live) st=wi live (bC (aE AP) as st):=by
 rw[XJ];cases bC (aE AP) as st<;>rfl
theorem CF:wi live (some st)=some (.normal,restrict live st):=rfl
theorem Fy[Decidable c]{x y:Option St}:wi live (if c then x else y)=if c then wi live x else wi live y:=by split<;>rfl
theorem Ap:after f (some (.normal,st))=f st:=rfl
theorem KU:after f (some (.ret,st))=some (.ret,st):=rfl
theorem Fz:after f (some (.exit id,st))=some (.exit id,st):=rfl
theorem KX[Decidable c]{X y:Option (aX×St)}:after f (if c then X else y)=if c then after f X else after f y:=by split<;>rfl
theorem Aq:leave id (some (.normal,st))=some (.normal,st):=rfl
theorem KY:leave id (some (.ret,st))=some (.ret,st):=rfl
theorem FB{a:Nat}:leave id (some (.exit a,st))=if a=id then some (.normal,st)else some (.exit a,st):=rfl
theorem KZ[Decidable c]{X y:Option (aX×St)}:leave id (if c then X else y)=if c then leave id X else leave id y:=by split<;>rfl
def oT(O:fQ)(l:List d8):Option St->Option St
 |some st=>bC O l st
 |none=>none
theorem K0:bC O [] st=some st:=rfl
def m8:bC O (o::l) st=oT O l (eC O o st):=by
 simp only[bC];cases eC O o st<;>rfl
def FC:bC O (⟨d,none,args,op⟩::l) st=oT O l (eC O ⟨d,none,args,op⟩ st):=m8
theorem Au:oT O l (some st)=bC O l st:=rfl
theorem CG[Decidable c]{x y:Option St}:oT O l (if c then x else y)=if c then oT O l x else oT O l y:=by split<;>rfl
def wj(d k:Option Nat)(env:List (Nat×AV))(mem:List (Nat×List AV)):Option Out->Option St
 |some out=>some {env:=ik env d out.val,mem:=gG mem k out.cells,sh:=out.sh,aa:=out.aa}
 |none=>none
def N5(O:fQ)(op:AK)(vals:Option (List AV))(cells:Option (List AV))(sh:Sh)(aa:aH):Option Out:=
 match vals with
 |some vals=>exec O op vals cells sh aa
 |none=>none
theorem FD:
   eC O ⟨d,none,args,op⟩ ⟨env,mem,sh,aa⟩=wj d op.key env mem (N5 O op (eN env args) (op.key.bind (look mem)) sh aa):=by
 simp only[eC,gT];cases eN env args with
 |none=>rfl
 |some vals=>
  dsimp only[N5];cases exec O op vals (op.key.bind (look mem)) sh aa<;>rfl
def wm(t:Nat)(b:Bool)(o:d8):d8:=
 match o.guard with
 |some (t',a)=>if t'=t then(if a=b then {o with guard:=none}else⟨o.dst,none,[.c .un],.v .mv⟩)else o
 |none=>o
def K1(t:Nat):List d8->Bool
 |[]=>true
 |o::l=>(o.dst != some t) && K1 t l
def oU{t':Nat}{v:α}:∀{l:List (Nat×α)},look (dh l t v) t'=if t'=t then some v else look l t'
 |[]=>by
  simp only[dh,look];by_cases h:t'=t
  .subst h;simp
  .rw[zad (fun e=>h e.symm),zad h]
 |(k,u)::r=>by
  simp only[dh];by_cases a:k=t
  .subst a;simp only[za4,look];by_cases h:t'=k
   .subst h;simp
   .rw[zad (fun e=>h e.symm),zad h,zad (fun e=>h e.symm)]
  .rw[zad a];simp only[look,oU (l:=r)];by_cases h:k=t'
   .subst h;simp[a]
   .rw[zad h,zad h]
def ss{v:α}:∀{l:List (Nat×α)},look l t=some v->dh l t v=l
 |[],h=>by simp[look]at h
 |(k,u)::r,h=>by
  simp only[look]at h;simp only[dh];split at h
  .rename_i e;cases h;rw[zai e]
  .rename_i e;rw[zad e,ss h]
def yK{Z:St}(hd:(o.dst != some t)=true)(h:look st.env t=some v)(e:eC O o st=some Z):look Z.env t=some v:=by
 have key:∀x,look (ik st.env o.dst x) t=some v:=by
  intro x;cases b:o.dst with
  |none=>exact h
  |some d=>
   rw[b]at hd;simp only[ik,oU];rw[zad (by intro e;subst e;simp at hd)];exact h
 simp only[eC]at e;split at e
 .cases e
 .cases e;exact key _
 .split at e
  .cases e
  .split at e
   .cases e
   .cases e;exact key _
theorem K2(h:look st.env t=some (.pv (.bool b))):eC O o st=eC O (wm t b o) st:=by
 obtain⟨d,g,args,op⟩:=o;cases g with
 |none=>rfl
 |some p=>
  obtain⟨t',f⟩:=p;simp only[wm];by_cases ht:t'=t
  .subst ht;rw[zai rfl];by_cases c:f=b
   .subst c;rw[zai rfl];simp only[eC,gT,h,beq_self_eq_true]
   .rw[zad c];have a:(b == f)=false:=by simpa using fun e=>c e.symm
    simp only[eC,gT,h,a];obtain⟨env,mem,sh,aa⟩:=st;rfl
  .rw[zad ht]
theorem qc:∀{l:List d8}{st:St},K1 t l=true->look st.env t=some (.pv (.bool b))->bC O l st=bC O (l.map (wm t b)) st
 |[],_,_,_=>rfl
 |o::l,st,hn,h=>by
  simp only[K1,zaj]at hn;rw[zan,m8,m8,<-K2 h];cases e:eC O o st with
  |none=>rfl
  |some a=>exact qc hn.2 (yK hn.1 h e)
def CH{c:Bool}(h:look env t=some (.pv (.bool c)))(hn:K1 t (⟨d,some (t,b),args,op⟩::l)=true):
   bC O (⟨d,some (t,b),args,op⟩::l) ⟨env,mem,sh,aa⟩=
     if c=true then bC O ((⟨d,some (t,b),args,op⟩::l).map (wm t true)) ⟨dh env t (.pv (.bool true)),mem,sh,aa⟩
     else bC O ((⟨d,some (t,b),args,op⟩::l).map (wm t false)) ⟨dh env t (.pv (.bool false)),mem,sh,aa⟩:=by
 cases c with
 |true=>rw[zai rfl,ss h];exact qc hn h
 |false=>rw[zad (by simp),ss h];exact qc hn h
def Av(h:look env t=some .un):
   bC O (⟨d,some (t,b),args,op⟩::l) ⟨env,mem,sh,aa⟩=bC O l ⟨ik env d .un,mem,sh,aa⟩:=by
 rw[m8];simp only[eC,gT,h];rfl
noncomputable def gd(O:fQ)(t:Nat)(ops:List d8)(d:Option Nat)(l:List d8)(env:List (Nat×AV))(mem:List (Nat×List AV))(sh:Sh)(aa:aH):Option AV->Option St
 |some (.pv (.bool c))=>if K1 t ops=true then(if c=true then bC O (ops.map (wm t true)) ⟨dh env t (.pv (.bool true)),mem,sh,aa⟩
     else bC O (ops.map (wm t false)) ⟨dh env t (.pv (.bool false)),mem,sh,aa⟩)else bC O ops ⟨env,mem,sh,aa⟩
 |some .un=>bC O l ⟨ik env d .un,mem,sh,aa⟩
 |_=>bC O ops ⟨env,mem,sh,aa⟩
def N6:
   bC O (⟨d,some (t,b),args,op⟩::l) ⟨env,mem,sh,aa⟩=gd O t (⟨d,some (t,b),args,op⟩::l) d l env mem sh aa (look env t):=by
 unfold gd;split
 .rename_i c h;split
  .rename_i hn;exact CH h hn
  .rfl
 .rename_i h;exact Av h
 .rfl
theorem SS{c:Bool}:gd O t as d U env mem sh aa (some (.pv (.bool c)))=
   if K1 t as=true then(if c=true then bC O (as.map (wm t true)) ⟨dh env t (.pv (.bool true)),mem,sh,aa⟩
     else bC O (as.map (wm t false)) ⟨dh env t (.pv (.bool false)),mem,sh,aa⟩)else bC O as ⟨env,mem,sh,aa⟩:=rfl
theorem aac:gd O t as d U env mem sh aa (some .un)=bC O U ⟨ik env d .un,mem,sh,aa⟩:=rfl
theorem SU:K1 t []=true:=rfl
def N7{d:Nat}:K1 t (⟨some d,g,args,op⟩::l)=(!(decide (d=t)) && K1 t l):=by
 simp only[K1];congr 1
def N8:K1 t (⟨none,g,args,op⟩::l)=K1 t l:=by
 simp[K1]
theorem K3:wm t b ⟨d,none,args,op⟩=⟨d,none,args,op⟩:=rfl
theorem K4{t':Nat}{a:Bool}:wm t b ⟨d,some (t',a),args,op⟩=if t'=t then(if a=b then⟨d,none,args,op⟩else⟨d,none,[.c .un],.v .mv⟩)else⟨d,some (t',a),args,op⟩:=rfl
theorem CI{k:Option Nat}{cs:Option (List AV)}:
   wj d k env mem (some ⟨v,cs,sh,aa⟩)=some ⟨ik env d v,gG mem k cs,sh,aa⟩:=rfl
theorem FE{k:Option Nat}[Decidable c]{x y:Option Out}:wj d k env mem (if c then x else y)=if c then wj d k env mem x else wj d k env mem y:=by split<;>rfl
theorem FG{vals:List AV}{cells:Option (List AV)}:N5 O op (some vals) cells sh aa=exec O op vals cells sh aa:=rfl
def N9(sh:Sh)(aa:aH):Option AV->Option Out
 |some x=>some ⟨x,none,sh,aa⟩
 |none=>none
theorem K5{x:AV}:N9 sh aa (some x)=some ⟨x,none,sh,aa⟩:=rfl
variable {vals:List AV} {cells:Option (List AV)} {sh:Sh} {aa:aH}
def XL{o:Sv}:exec O (.v o) vals cells sh aa=N9 sh aa (bK o vals):=by
 show (bK o vals).map _=_;cases bK o vals<;>rfl
variable{key off sz n b bytes s o a τ t g i k:Nat}{ag d lo hi ks:Bool}{cs vs r rs cap:List AV}{v x:AV}{zero l xs ps:List PV}{k':IntKind}{P:Int}{sh':Sh}{ts aQ:aH}{p z:PV}{c:CK}{kvs:List (PV×PV)}{st:St}{I:List UInt8}{own live:List Nat}{α:Type}{env:List (Nat×AV)}{mem:List (Nat×List AV)}{ds:List (Nat×Nat)}{X:Option (aX×St)}{af:aw}
def jn:exec O (.cD key off sz ag) [.au n b] (some cs) sh aa=if n=key/\b=off then N9 sh aa (cm ag sz cs off)else none:=by
 show (if n=key/\b=off then(cm ag sz cs off).map _ else none)=_;cases cm ag sz cs off<;>rfl
theorem jM:exec O (.bN key off sz) [.au n b,v] (some cs) sh aa =
   if n=key/\b=off/\(bf v).length=sz/\(bf v).all a9=true then if off+sz<=cs.length then some ⟨.un,some (a_ cs off (bf v)),sh,aa⟩else none else none:=rfl
theorem kW:exec O (.alloc key zero) [] none sh aa=some ⟨.au key 0,some (zero.map bK.zeroCell),sh,aa⟩:=rfl
theorem nU:exec O (.box key sz) [v] none sh aa=if(bf v).length=sz/\(bf v).all a9=true then some ⟨.au key 0,some (bf v),sh,aa⟩else none:=rfl
def CJ:exec O (.ej sz ag) [.et l] cells sh aa=N9 sh aa (cV ag sz l):=by
 show (cV ag sz l).map _=_;cases cV ag sz l<;>rfl
def wo(ag:Bool)(sz off:Nat):Option (Option (List AV))->Option AV
 |some (some cs)=>if dR cs=true then none else cm ag sz cs off
 |_=>none
theorem tN:wo ag sz off (some (some cs))=if dR cs=true then none else cm ag sz cs off:=rfl
def CL:exec O (.ej sz ag) [.aL b off] cells sh aa=N9 sh aa (wo ag sz off sh[b]?):=by
 show (match sh[b]? with|some (some cs)=>if dR cs=true then none else(cm ag sz cs off).map _|_=>none)=_;split
 .rename_i cs h;rw[h,tN];split
  .rfl
  .cases cm ag sz cs off<;>rfl
 .rename_i h;unfold wo;split
  .rename_i cs e;exact absurd e (h cs)
  .rfl
def Aw(b off sz:Nat)(vs:List AV)(sh:Sh)(aa:aH):Option (Option (List AV))->Option Out
 |some (some cs)=>if dR cs=false/\vs.length=sz/\off+sz<=cs.length/\vs.all eo=true/\vs.all (aN (b+1))=true then some ⟨.un,none,sh.set b (some (a_ cs off vs)),aa⟩else none
 |_=>none
theorem qX:Aw b off sz vs sh aa (some (some cs))=if dR cs=false/\vs.length=sz/\off+sz<=cs.length/\vs.all eo=true/\vs.all (aN (b+1))=true then some ⟨.un,none,sh.set b (some (a_ cs off vs)),aa⟩else none:=rfl
def jN:exec O (.eX sz) [.aL b off,v] cells sh aa=Aw b off sz (cP v) sh aa sh[b]?:=by
 show (match sh[b]? with|some (some cs)=>_|_=>none)=_;split
 .rename_i cs h;rw[h,qX]
 .rename_i h;unfold Aw;split
  .rename_i cs e;exact absurd e (h cs)
  .rfl
theorem oN:exec O (.rV sz) [v] cells sh aa=if(cP v).length=sz/\(cP v).all eo=true/\(cP v).all (aN sh.length)=true then some ⟨.aL sh.length 0,none,sh++[some (cP v)],aa⟩else none:=rfl
theorem oO:exec O (.vw sz) [v] cells sh aa=if(bf v).length=sz/\(bf v).all eo=true/\(bf v).all (aN sh.length)=true then some ⟨.aL sh.length 0,none,sh++[some (bf v)],aa⟩else none:=rfl
theorem lF:exec O (.gD zero) [] cells sh aa=some ⟨.aL sh.length 0,none,sh++[some (zero.map bK.zeroCell)],aa⟩:=rfl
theorem mU{k:IntKind}{n':Int}:exec O (.mc sz bytes ag zero) [.pv (.int k P),.pv (.int k' n')] cells sh aa =
   if P=n'/\0<=P/\P<=9223372036854775807/\P*bytes<=140737488355328/\zero.length=sz then some ⟨.bl sh.length sz P.toNat ag,none,sh++[some ((List.replicate P.toNat (zero.map .pv)).flatten)],aa⟩else none:=rfl
theorem N_:(AK.vw s).key=none:=rfl
theorem N':apart (some (.aL b o)) (some (.aL a sz))=(b != a):=rfl
def acX(ts:List Nat)(st:St):Option AV->St
 |some (.bl b _ _ _)=>match st.sh[b]? with
  |some (some cells)=>if dR cells=false then {st with env:=Sy b st.sh.length ts st.env,sh:=st.sh.set b none++[some cells]}else st
  |_=>st
 |_=>st
def aad(aa:aH):Option (AV×Sh×aH)->Option Out
 |some (v,sh',ts)=>some ⟨v,none,sh',ts⟩
 |none=>none
theorem K6:aad aa (some (v,sh',ts))=some ⟨v,none,sh',ts⟩:=rfl
def CM:exec O (.kI sz bytes ag) [x] cells sh aa=aad aa (ij (some ag) sz bytes x sh aa):=by
 show ((ij (some ag) sz bytes x sh aa).map _)=_;cases ij (some ag) sz bytes x sh aa<;>rfl
def Ax(ag:Bool)(sz bytes:Nat)(sh:Sh)(aa:aH):Option (List PV)->Option (AV×Sh×aH)
 |some xs=>if bj sz xs=true then(if xs.isEmpty=true then some (.dm [],sh,aa)else if xs.length*bytes<=140737488355328 then some (.bl sh.length sz xs.length ag,sh++[some ((xs.flatMap bp).map .pv)],aa)else none)else none
 |none=>none
def K7:ij (some ag) sz bytes x sh aa=Ax ag sz bytes sh aa (dG x):=by
 cases h:dG x with
 |none=>simp[ij,Ax,h]
 |some xs=>
  simp only[ij,Ax,h];split
  .unfold uj;split
   .rfl
   .split<;>rfl
  .rfl
theorem CN:Ax ag sz bytes sh aa (some xs)=
   if bj sz xs=true then(if xs.isEmpty=true then some (.dm [],sh,aa)else if xs.length*bytes<=140737488355328 then some (.bl sh.length sz xs.length ag,sh++[some ((xs.flatMap bp).map .pv)],aa)else none)else none:=rfl
theorem FH:(AK.kI sz bytes ag).key=none:=rfl
theorem SV:dR (.pv p::r)=false:=rfl
theorem Oa:dR (.own l τ::r)=false:=rfl
theorem K8{z:Nat}:dR (.bl b z n ag::r)=false:=rfl
def aae(ok:Bool)(z:PV)(sh:Sh)(aa:aH):Option (Option PV)->Option Out
 |some r=>some ⟨zH ok z r,none,sh,aa⟩
 |none=>none
variable{r:Option PV}
theorem Ay:zH true z r=.rQ [.pv (r.getD z),.pv (.bool r.isSome)]:=rfl
theorem x9:zH false z r=.pv (r.getD z):=rfl
def aaf(c:CK)(ok:Bool)(z k:PV)(sh:Sh)(aa:aH):Option (Option (List AV))->Option Out
 |some (some [.gA kvs])=>aae ok z sh aa (EW c kvs k)
 |_=>none
theorem FI{ok:Bool}:aaf c ok z p sh aa (some (some [.gA kvs]))=aae ok z sh aa (EW c kvs p):=rfl
def XM(s:Nat)(sh:Sh)(aa:aH):Option (List (PV×PV))->Option Out
 |some kvs=>some ⟨.un,none,sh.set s (some [.gA kvs]),aa⟩
 |none=>none
theorem K9:XM s sh aa (some kvs)=some ⟨.un,none,sh.set s (some [.gA kvs]),aa⟩:=rfl
def acd(c:CK)(s:Nat)(k:PV)(sh:Sh)(aa:aH):Option (Option (List AV))->Option PV->Option Out
 |some (some [.gA kvs]),some p=>XM s sh aa (NI c kvs k p)
 |_,_=>none
theorem K_:acd c s z sh aa (some (some [.gA kvs])) (some p)=XM s sh aa (NI c kvs z p):=rfl
def La(sh:Sh):Option (AV×aH)->Option Out
 |some (v,ts)=>some ⟨v,none,sh,ts⟩
 |none=>none
theorem Lb:La sh (some (v,ts))=some ⟨v,none,sh,ts⟩:=rfl
theorem Ob{c:Prop}[Decidable c]{x y:Option (AV×aH)}:La sh (if c then x else y)=if c then La sh x else La sh y:=by split<;>rfl
def lG:exec O (.append sz bytes) [v,x] cells sh aa=La sh (cz sz bytes v x aa):=by
 show (cz sz bytes v x aa).map _=_;cases cz sz bytes v x aa<;>rfl
def pW:exec O (.clone sz bytes) [x] cells sh aa=La sh (cz sz bytes (.dm []) x aa):=by
 show (cz sz bytes (.dm []) x aa).map _=_;cases cz sz bytes (.dm []) x aa<;>rfl
def I0(sz bytes:Nat)(s:AV)(aa:aH):Option (List PV)->Option (AV×aH)
 |some xs=>if bj sz xs=true then
  match s with
  | .dm l=>if xs.isEmpty=true then some (.dm l,aa)else if bj sz l=true/\(l.length+xs.length)*bytes<=140737488355328 then
   some (.own (l++xs) aa.length,aa++[(l++xs).length])else none
  | .own l τ=>if aa[τ]?=some l.length/\bj sz l=true/\(l.length+xs.length)*bytes<=140737488355328 then
   some (.own (l++xs) τ,aa.set τ (l++xs).length)else none
  |_=>none
  else none
 |none=>none
def x_:cz sz bytes v x aa=I0 sz bytes v aa (dG x):=by
 unfold cz I0;cases dG x<;>rfl
theorem Lc:I0 sz bytes (.dm l) aa (some xs)=if bj sz xs=true then if xs.isEmpty=true then some (.dm l,aa)else if bj sz l=true/\(l.length+xs.length)*bytes<=140737488355328 then
 some (.own (l++xs) aa.length,aa++[(l++xs).length])else none else none:=rfl
theorem Ld:I0 sz bytes (.own l τ) aa (some xs)=if bj sz xs=true then if aa[τ]?=some l.length/\bj sz l=true/\(l.length+xs.length)*bytes<=140737488355328 then
 some (.own (l++xs) τ,aa.set τ (l++xs).length)else none else none:=rfl
def XN(aa:aH):Option (AV×Sh)->Option Out
 |some (v,sh)=>some ⟨v,none,sh,aa⟩
 |none=>none
theorem Le{sh:Sh}:XN aa (some (v,sh))=some ⟨v,none,sh,aa⟩:=rfl
def Oc(sz bytes:Nat)(ag:Bool)(s:AV)(sh:Sh)(aa:aH):Option (List PV)->Option Out
 |some xs=>if bj sz xs=true then XN aa (um sz bytes ag s xs sh aa)else none
 |none=>none
theorem FJ:Oc sz bytes ag x sh aa (some xs)=if bj sz xs=true then XN aa (um sz bytes ag x xs sh aa)else none:=rfl
theorem mV:exec O (.ei sz bytes ag) [v,x] cells sh aa=Oc sz bytes ag v sh aa (dG x):=by
 simp only[exec,Oc];cases dG x with
 |none=>rfl
 |some xs=>
  simp only;split
  .cases um sz bytes ag v xs sh aa<;>rfl
  .rfl
def FK(sz bytes:Nat)(ag:Bool)(b z n:Nat)(g:Bool)(xs:List PV)(sh:Sh):Option (Option (List AV))->Option (AV×Sh)
 |some (some cells)=>if z=sz/\g=ag/\dR cells=false/\n*sz<=cells.length/\(n+xs.length)*bytes<=140737488355328 then
  if xs.isEmpty=true then some (.bl b sz n ag,sh)else some (.bl sh.length sz (n+xs.length) ag,sh.set b none++[some (cells.take (n*sz)++(xs.flatMap bp).map .pv)])
     else none
 |_=>none
theorem CO:FK sz bytes ag b a n d xs sh (some (some cs))=if a=sz/\d=ag/\dR cs=false/\n*sz<=cs.length/\(n+xs.length)*bytes<=140737488355328 then
 if xs.isEmpty=true then some (.bl b sz n ag,sh)else some (.bl sh.length sz (n+xs.length) ag,sh.set b none++[some (cs.take (n*sz)++(xs.flatMap bp).map .pv)])
     else none:=rfl
theorem Od:um sz bytes ag (.dm []) xs sh aa=uj sz bytes ag (.dm []) xs sh:=rfl
theorem Oe:um sz bytes ag (.own [] τ) xs sh aa=if aa[τ]?=some 0 then uj sz bytes ag (.own [] τ) xs sh else none:=rfl
def Lf:um sz bytes ag (.bl b a n d) xs sh aa=FK sz bytes ag b a n d xs sh sh[b]?:=by
 simp only[um,FK];rcases sh[b]? with _|_|cells<;>rfl
theorem SW:uj sz bytes ag x xs sh=if xs.isEmpty=true then some (x,sh)else if xs.length*bytes<=140737488355328 then some (.bl sh.length sz xs.length ag,sh++[some ((xs.flatMap bp).map .pv)])else none:=rfl
def SX(r:List Nat)(t:Nat)(st:St)(v:AV):Option PV->St
 |some p=>pw r {st with env:=dh st.env t (.pv p),sh:=fu st.sh [v]}
 |none=>pw r (zI v st)
def Of(d:Nat)(cs:List AV)(st:St):Option (List PV)->St
 |some ps=>{st with mem:=dh st.mem d (ps.map .pv),sh:=fu st.sh [.agg cs]}
 |none=>st
def Og(d:Nat)(st:St):Option (List AV)->St
 |some cs=>Of d cs st (eY st.sh cs)
 |none=>st
theorem Lg{d:Nat}:zI (.au d 0) st=Og d st (look st.mem d):=by
 simp only[zI];cases look st.mem d with
 |none=>rfl
 |some cs=>
  simp only[Og];cases eY st.sh cs<;>rfl
def Oh(b:Nat)(st:St):Option (Option (List AV))->St
 |some (some cs)=>{st with sh:=st.sh.set b (some ((cs.take (cs.length / 2)).map pD++cs.drop (cs.length / 2)))}
 |_=>st
def Lh:zI (.aL b 0) st=Oh b st st.sh[b]?:=by
 simp only[zI,Oh];rcases st.sh[b]? with _|_|cs<;>rfl
theorem FL:Oh b st (some (some cs))={st with sh:=st.sh.set b (some ((cs.take (cs.length / 2)).map pD++cs.drop (cs.length / 2)))}:=rfl
theorem Li:pD (.dm l)=.pv (.ae l):=rfl
theorem Oi:pD (.pv p)=.pv p:=rfl
theorem FM{d:Nat}:Og d st (some cs)=Of d cs st (eY st.sh cs):=rfl
theorem FN{d:Nat}:Of d cs st (some ps)={st with mem:=dh st.mem d (ps.map .pv),sh:=fu st.sh [.agg cs]}:=rfl
def XO(r:List Nat)(t:Nat)(st:St):Option AV->St
 |some v=>SX r t st v (eQ st.sh v)
 |none=>pw r st
theorem Oj:pw [] st=st:=rfl
variable{r:List Nat}{c:List AV}
theorem Lj:pw (t::r) st=XO r t st (look st.env t):=by
 simp only[pw];cases look st.env t with
 |none=>rfl
 |some v=>
  simp only[XO];cases eQ st.sh v<;>rfl
theorem Lk:XO r t st (some v)=SX r t st v (eQ st.sh v):=rfl
theorem Ll:SX r t st v (some p)=pw r {st with env:=dh st.env t (.pv p),sh:=fu st.sh [v]}:=rfl
theorem Lm:SX r t st v none=pw r (zI v st):=rfl
def XP(aa:aH):Option Sh->Option Out
 |some sh=>some ⟨.rQ [],none,sh,aa⟩
 |none=>none
theorem Ln{sh:Sh}:XP aa (some sh)=some ⟨.rQ [],none,sh,aa⟩:=rfl
def wq(sz:Nat)(zero:List PV)(sh:Sh)(b off n:Nat):Option (Option (List AV))->Option Sh
 |some (some cells)=>if dR cells=false/\off+n*sz<=cells.length/\zero.length=sz then some (sh.set b (some (a_ cells off (List.replicate n (zero.map .pv)).flatten)))else none
 |_=>none
theorem CP:wq sz zero sh b off n (some (some cs))=if dR cs=false/\off+n*sz<=cs.length/\zero.length=sz then some (sh.set b (some (a_ cs off (List.replicate n (zero.map .pv)).flatten)))else none:=rfl
def Az:exec O (.iW sz zero) [.bl b sz n ag] cells sh aa=XP aa (wq sz zero sh b 0 n sh[b]?):=by
 simp only[exec,vA,za4,pQ];rcases sh[b]? with _|_|cs
 .rfl
 .rfl
 .simp only[wq];split<;>rfl
def AA:exec O (.iW sz zero) [.rT b off n] cells sh aa=XP aa (wq sz zero sh b off n sh[b]?):=by
 simp only[exec,vA,pQ];rcases sh[b]? with _|_|cs
 .rfl
 .rfl
 .simp only[wq];split<;>rfl
theorem Lo:BV [] []=true:=rfl
theorem FO{b:List UInt8}{q:List PV}:BV (.str I::l) (.str b::q)=((I == b) && BV l q):=rfl
theorem FP:AK.key (.iW s l)=none:=rfl
theorem FR:bK (.vu sz lo hi) (.bl b sz n ag::cs)=me sz lo hi (.bl b sz n ag::cs):=rfl
theorem Ol:dG (.pv (.ae l))=some l:=rfl
theorem Lp:dG (.dm l)=some l:=rfl
theorem Lq:dG (.own l τ)=some l:=rfl
theorem FT:bj sz []=true:=rfl
theorem CQ:bj sz (p::l)=((bp p).length == sz):=rfl
def XQ(sh:Sh)(aa:aH):Option (List PV)->Option Out
 |some rs=>some ⟨vB rs,none,sh,aa⟩
 |none=>none
theorem Lr:XQ sh aa (some l)=some ⟨vB l,none,sh,aa⟩:=rfl
def Om(O:fQ)(g:Nat):Option (List PV)->Option (List PV)
 |some eE=>O.p g eE
 |none=>none
theorem qd:Om O g (some l)=O.p g l:=rfl
def FU:exec O (.aJ g) vals cells sh aa=XQ sh aa (Om O g (dS [] vals)):=by
 show (match dS [] vals with|some eE=>_|none=>none)=_;split
 .rename_i eE h;rw[h,qd];cases O.p g eE<;>rfl
 .rename_i h;rw[h];rfl
def CR:exec O (.dt g) vals cells sh aa=XQ (fu sh vals) aa (Om O g (dS sh vals)):=by
 show (match dS sh vals with|some eE=>_|none=>none)=_;split
 .rename_i eE h;rw[h,qd];cases O.p g eE<;>rfl
 .rename_i h;rw[h];rfl
def XR(n:Nat)(a:aH):Option (List AV×Sh×aH)->Option Out
 |some (rs,sh',ts)=>some ⟨ui (rs.map (dj n)),none,gh n sh',a++ts⟩
 |none=>none
theorem Ls{a:aH}:XR n a (some (rs,sh',ts))=some ⟨ui (rs.map (dj n)),none,gh n sh',a++ts⟩:=rfl
def I2(O:fQ)(g n:Nat)(q:List AV×Sh×aH×aH):Option Out:=XR n q.2.2.1 (O.i g q.1 q.2.1 q.2.2.2)
theorem On{a:List AV}{s:Sh}{o t:aH}:I2 O g n (a,s,o,t)=XR n o (O.i g a s t):=rfl
def yL(O:fQ)(g:Nat)(args:List AV)(sh:Sh)(aa:aH):Option Out:=
 if args.all bQ=true then I2 O g aa.length (cL aa args sh)else none
theorem Oo:yL O g cs sh aa=if cs.all bQ=true then I2 O g aa.length (cL aa cs sh)else none:=rfl
theorem og:(eJ O g own vals sh aa).map (fun(v,sh',ts)=>(⟨v,none,sh',ts⟩:Out))=yL O g (eB own 0 vals) sh aa:=by
 unfold eJ yL I2;split
 .cases O.i g (cL aa (eB own 0 vals) sh).1 (cL aa (eB own 0 vals) sh).2.1 (cL aa (eB own 0 vals) sh).2.2.2 with
  |none=>rfl
  |some q=>obtain⟨a,b,c⟩:=q;rfl
 .rfl
def FV:exec O (.bg g own) vals cells sh aa=yL O g (eB own 0 vals) sh aa:=og
def fE:exec O .h_ (.fn g cap::vals) cells sh aa=yL O g (eB [] 0 (vals++cap)) sh aa:=og (vals:=vals++cap)
def roO(sh:Sh):Option Out->Option Out
 |some o=>if pq o.sh sh=true then some ⟨o.val,none,sh,o.aa⟩else none
 |none=>none
theorem Oq{c:Option (List AV)}{s:Sh}{t:aH}:roO sh (some ⟨v,c,s,t⟩)=if pq s sh=true then some ⟨v,none,sh,t⟩else none:=rfl
theorem CS:exec O .gE (.fn g cap::vals) cells sh aa=roO sh (yL O g (eB [] 0 (vals++cap)) sh aa):=by
 rw[<-og];simp only[exec];cases eJ O g [] (vals++cap) sh aa with
 |none=>rfl
 |some q=>obtain⟨v,s,t⟩:=q;rfl
theorem FW:AK.key .gE=none:=rfl
theorem Ot:xX [] []=true:=rfl
variable{r:List AV}
theorem Lt{q:List AV}:xX (x::r) (v::q)=(Z6 x v && xX r q):=rfl
theorem Ou:pq [] []=true:=rfl
theorem Lu{a b:List AV}{r q:Sh}:pq (some a::r) (some b::q)=(xX a b && pq r q):=rfl
def b2sO:Option (List UInt8)->Option AV
 |some s=>some (.pv (.str s))
 |none=>none
theorem b2sO_some:b2sO (some I)=some (.pv (.str I)):=rfl
def ace(sh:Sh)(aa:aH):Option (List AV×Sh×aH)->Option Out
 |some (rs,[],ts)=>some ⟨ui (rs.map (dj aa.length)),none,sh,aa++ts⟩
 |_=>none
theorem Lv:ace sh aa (some (rs,[],ts))=some ⟨ui (rs.map (dj aa.length)),none,sh,aa++ts⟩:=rfl
theorem FX:eB own i []=[]:=rfl
theorem CT:eB own i (v::r)=(if own.contains i then v else mf v)::eB own (i+1) r:=rfl
theorem Ov:mf (.pv p)=.pv p:=rfl
theorem Lx:mf (.dm l)=.pv (.ae l):=rfl
theorem Ly:mf (.own l τ)=.pv (.ae l):=rfl
theorem FY:mf (.aL b o)=.aL b o:=rfl
theorem Ow:mf (.fn g cap)=.fn g cap:=rfl
theorem FZ:mf (.bl b s n ag)=.bl b s n ag:=rfl
theorem F6:mf (.kH s)=(.kH s):=rfl
def F7(cs:List AV):Option (List PV)->AV
 |some ps=>.pv (.agg ps)
 |none=>.agg cs
def Lz:mf (.agg cs)=F7 cs (eY [] cs):=by
 have h:eQ [] (.agg cs)=(eY [] cs).map .agg:=rfl;unfold mf F7;rw[h];cases eY [] cs<;>rfl
theorem CU:F7 cs (some ps)=.pv (.agg ps):=rfl
def qY:Option α->Option (List α)->Option (List α)
 |some x,some l=>some (x::l)
 |_,_=>none
theorem F8{x:α}{l:List α}:qY (some x) (some l)=some (x::l):=rfl
theorem F9:eN env []=some []:=rfl
def CV{x:fp}{r:List fp}:eN env (x::r)=qY (iJ env x) (eN env r):=by
 simp only[eN];cases iJ env x<;>cases eN env r<;>rfl
theorem SY:iJ env (.t n)=look env n:=rfl
theorem SZ:iJ env (.c v)=some v:=rfl
theorem Ox:fM []=some []:=rfl
def su:fM (v::r)=qY (jH v) (fM r):=by
 simp only[fM];cases jH v<;>cases fM r<;>rfl
theorem F_:dS sh []=some []:=rfl
def CW:dS sh (v::r)=qY (eQ sh v) (dS sh r):=by
 simp only[dS];cases eQ sh v<;>cases dS sh r<;>rfl
theorem LA:eY sh []=some []:=rfl
def F':eY sh (v::r)=if a9 v=true then qY (eG sh v) (eY sh r)else none:=by
 simp only[eY];split
 .cases eG sh v<;>cases eY sh r<;>rfl
 .rfl
theorem S3:jH (.pv p)=some p:=rfl
theorem XS:eQ sh (.pv p)=some p:=rfl
theorem S4:eQ sh (.dm l)=some (.ae l):=rfl
theorem S5:eQ sh (.own l τ)=some (.ae l):=rfl
def aag:Option (List PV)->Option PV
 |some ps=>some (.agg ps)
 |none=>none
theorem LB:aag (some ps)=some (.agg ps):=rfl
def S6:eQ sh (.agg cs)=aag (eY sh cs):=by
 simp only[eQ];cases eY sh cs<;>rfl
theorem Ga:eG sh (.pv p)=some p:=rfl
theorem CX:eG sh (.dm l)=some (.ae l):=rfl
theorem CY:eG sh (.own l τ)=some (.ae l):=rfl
theorem Oy:eQ sh (.aL b o)=none:=rfl
def S7(sz n:Nat)(ag:Bool):Option (Option (List AV))->Option PV
 |some (some cells)=>if cells.length=n*sz then((fM cells).bind (ie sz ag n)).map .ae
   else if dR cells=false/\n*sz<=cells.length then((fM (cells.take (n*sz))).bind (ie sz ag n)).map .ae else none
 |_=>none
theorem AB:eG sh (.bl b sz n ag)=S7 sz n ag sh[b]?:=rfl
theorem Oz:eQ sh (.bl b sz n ag)=S7 sz n ag sh[b]?:=rfl
theorem LC:S7 sz n ag (some (some cs))=if cs.length=n*sz then((fM cs).bind (ie sz ag n)).map .ae else if dR cs=false/\n*sz<=cs.length then((fM (cs.take (n*sz))).bind (ie sz ag n)).map .ae else none:=rfl
theorem OA:vB [p]=.pv p:=rfl
theorem OB:vB (p::z::l)=.rQ (.pv p::.pv z::l.map .pv):=rfl
theorem OC:ui [x]=x:=rfl
theorem OD:ui []=.rQ []:=rfl
theorem OE:ui (x::v::r)=.rQ (x::v::r):=rfl
theorem OF:cL aa cs sh=((bo aa [] cs).1,(bt (bo aa [] cs).2.1 (bo aa [] cs).2.2 sh).1,(bt (bo aa [] cs).2.1 (bo aa [] cs).2.2 sh).2.1,(bt (bo aa [] cs).2.1 (bo aa [] cs).2.2 sh).2.2):=rfl
theorem LD:bo aQ ts []=([],aQ,ts):=rfl
theorem wt:bo aQ ts (v::r)=((bz aQ ts v).1::(bo (bz aQ ts v).2.1 (bz aQ ts v).2.2 r).1,(bo (bz aQ ts v).2.1 (bz aQ ts v).2.2 r).2):=rfl
theorem LF:bt aQ ts []=([],aQ,ts):=rfl
theorem qe{r:Sh}:bt aQ ts (none::r)=(none::(bt aQ ts r).1,(bt aQ ts r).2):=rfl
theorem qf{r:Sh}:bt aQ ts (some cs::r)=(some (bo aQ ts cs).1::(bt (bo aQ ts cs).2.1 (bo aQ ts cs).2.2 r).1,(bt (bo aQ ts cs).2.1 (bo aQ ts cs).2.2 r).2):=rfl
theorem LG:dL aQ ts []=([],aQ,ts):=rfl
theorem Gb{r:List (Nat×AV)}:dL aQ ts ((t,v)::r)=((t,(bz aQ ts v).1)::(dL (bz aQ ts v).2.1 (bz aQ ts v).2.2 r).1,(dL (bz aQ ts v).2.1 (bz aQ ts v).2.2 r).2):=rfl
theorem LH:gH aQ ts []=([],aQ,ts):=rfl
theorem Gc{v:List AV}{r:List (Nat×List AV)}:gH aQ ts ((t,v)::r)=((t,(bo aQ ts v).1)::(gH (bo aQ ts v).2.1 (bo aQ ts v).2.2 r).1,(gH (bo aQ ts v).2.1 (bo aQ ts v).2.2 r).2):=rfl
theorem LI:bz aQ ts (.own l τ)=if aQ[τ]?=some l.length then(.own l ts.length,aQ.set τ (l.length+1),ts++[l.length])else(.pv (.ae l),aQ,ts):=rfl
theorem LJ:bz aQ ts (.dm l)=(.own l ts.length,aQ,ts++[l.length]):=rfl
theorem CZ:bz aQ ts (.pv p)=(.pv p,aQ,ts):=rfl
def Ge(aQ ts:aH)(p:List AV):Bool->AV×aH×aH
 |true=>(.agg p,aQ,ts)
 |false=>(.agg (cX aQ ts p).1,(cX aQ ts p).2.1,(cX aQ ts p).2.2)
variable{p:List AV}{rs:List rW}
def LK:bz aQ ts (.agg p)=Ge aQ ts p (bB.ep p):=by
 simp only[bz];cases bB.ep p<;>rfl
theorem C0:Ge aQ ts p true=(.agg p,aQ,ts):=rfl
theorem AD:Ge aQ ts p false=(.agg (cX aQ ts p).1,(cX aQ ts p).2.1,(cX aQ ts p).2.2):=rfl
theorem Gf:cX aQ ts []=([],aQ,ts):=rfl
theorem C1:cX aQ ts (v::r)=((eZ aQ ts v).1::(cX (eZ aQ ts v).2.1 (eZ aQ ts v).2.2 r).1,(cX (eZ aQ ts v).2.1 (eZ aQ ts v).2.2 r).2):=rfl
theorem LM:eZ aQ ts (.own l τ)=if aQ[τ]?=some l.length then(.own l ts.length,aQ.set τ (l.length+1),ts++[l.length])else(.pv (.ae l),aQ,ts):=rfl
variable{p:PV}
theorem OG:eZ aQ ts (.pv p)=(.pv p,aQ,ts):=rfl
theorem Gg{c:Nat}:eZ aQ ts (.bl a b c d)=(.bl a b c d,aQ,ts):=rfl
theorem Gi:bz aQ ts (.au a b)=(.au a b,aQ,ts):=rfl
theorem Gj:bz aQ ts (.aL a b)=(.aL a b,aQ,ts):=rfl
theorem Gk{c:Nat}:bz aQ ts (.bl a b c d)=(.bl a b c d,aQ,ts):=rfl
theorem OH:bz aQ ts (.fn a c)=(.fn a c,aQ,ts):=rfl
theorem Gl:bz aQ ts .iN=(.iN,aQ,ts):=rfl
theorem Gm:bz aQ ts (.kH s)=((.kH s),aQ,ts):=rfl
theorem Gn{s:List (PV×PV)}:bz aQ ts (.gA s)=((.gA s),aQ,ts):=rfl
theorem S8:norm ⟨env,mem,sh,aa⟩=
   { env:=(dL aa [] env).1,
     mem:=(gH (dL aa [] env).2.1 (dL aa [] env).2.2 mem).1,
     sh:=(bt (gH (dL aa [] env).2.1 (dL aa [] env).2.2 mem).2.1 (gH (dL aa [] env).2.1 (dL aa [] env).2.2 mem).2.2 sh).1,
     aa:=(bt (gH (dL aa [] env).2.1 (dL aa [] env).2.2 mem).2.1 (gH (dL aa [] env).2.1 (dL aa [] env).2.2 mem).2.2 sh).2.2}:=rfl
theorem C2:restrict live ⟨env,mem,sh,aa⟩=⟨bM live env live,bR mem live,sh,aa⟩:=rfl
def OI(live:List Nat)(t:Nat)(rest:List (Nat×AV)):Option AV->List (Nat×AV)
 |some v=>if ia live v=true then(t,v)::rest else rest
 |none=>rest
theorem Gp:OI live t env (some v)=if ia live v=true then(t,v)::env else env:=rfl
theorem Gq:OI live t env none=env:=rfl
theorem uw:bM live env []=[]:=rfl
def sw{r:List Nat}:bM live env (t::r)=OI live t (bM live env r) (look env t):=by
 show (match look env t with|some v=>_|none=>_)=_;cases look env t<;>rfl
def OJ(t:Nat)(rest:List (Nat×List AV)):Option (List AV)->List (Nat×List AV)
 |some v=>(t,v)::rest
 |none=>rest
theorem Gt{v:List AV}:OJ t mem (some v)=(t,v)::mem:=rfl
theorem Gu:OJ t mem none=mem:=rfl
theorem ux:bR mem []=[]:=rfl
def sB{r:List Nat}:bR mem (t::r)=OJ t (bR mem r) (look mem t):=by
 show (match look mem t with|some v=>_|none=>_)=_;cases look mem t<;>rfl
theorem Gw{d:Nat}:ia live (.au d o)=live.contains d:=rfl
theorem LN:ia live (.own l τ)=true:=rfl
theorem OK:ia live (.pv p)=true:=rfl
theorem LO:ia live (.dm l)=true:=rfl
theorem Gx:iD []=true:=rfl
theorem C3:iD (v::r)=(pC v && iD r):=rfl
theorem OL:pC (.pv p)=true:=rfl
theorem LP:pC (.dm l)=true:=rfl
theorem Gy:ia live (.aL a b)=true:=rfl
theorem Gz{c:Nat}:ia live (.bl a b c d)=true:=rfl
theorem OM:ia live (.fn a c)=bB.ep c:=rfl
theorem GA:ia live .iN=true:=rfl
theorem GB:ia live (.kH s)=true:=rfl
theorem look_nil:look ([]:List (Nat×α)) t=none:=rfl
theorem LQ{v:α}{r:List (Nat×α)}:look ((k,v)::r) t=if k=t then some v else look r t:=rfl
theorem ON{v:α}:dh ([]:List (Nat×α)) t v=[(t,v)]:=rfl
theorem LR{v u:α}{r:List (Nat×α)}:dh ((k,v)::r) t u=if k=t then(k,u)::r else(k,v)::dh r t u:=rfl
theorem LS{d:Nat}:ik env (some d) v=dh env d v:=rfl
theorem LU:ik env none v=env:=rfl
theorem LV:gG mem (some k) (some cs)=dh mem k cs:=rfl
theorem gU{o:Option (List AV)}:gG mem none o=mem:=rfl
theorem GC:gG mem (some k) none=mem:=rfl
theorem AE:bY i []=[]:=rfl
theorem ya:bY i (v::r)=(i,v)::bY (i+1) r:=rfl
theorem GD:bf (.agg cs)=cs:=rfl
theorem C4:bf (.pv (.agg l))=l.map .pv:=rfl
theorem C5{b:Bool}:bf (.pv (.bool b))=[.pv (.bool b)]:=rfl
variable{k:IntKind}
theorem GF:bf (.pv (.int k P))=[.pv (.int k P)]:=rfl
theorem GG:bf (.pv (.str I))=[.pv (.str I)]:=rfl
theorem GH:bf (.pv (.ae l))=[.pv (.ae l)]:=rfl
theorem GI:bf (.dm l)=[.dm l]:=rfl
theorem GJ:bf (.own l τ)=[.own l τ]:=rfl
theorem C6{c:Nat}:bf (.bl a b c d)=[.bl a b c d]:=rfl
theorem GK:bp (.agg l)=l:=rfl
theorem C7{b:Bool}:bp (.bool b)=[.bool b]:=rfl
theorem GL:bp (.int k P)=[.int k P]:=rfl
theorem GM:bp (.str I)=[.str I]:=rfl
theorem GN:bp (.ae l)=[.ae l]:=rfl
theorem GO{b:Bool}:a9 (.pv (.bool b))=true:=rfl
theorem LW:a9 (.pv (.int k P))=true:=rfl
theorem LX:a9 (.pv (.str I))=true:=rfl
theorem LY:a9 (.pv (.ae l))=true:=rfl
theorem LZ:a9 (.dm l)=true:=rfl
theorem L0:a9 (.own l τ)=true:=rfl
theorem GP{c:Nat}:a9 (.bl a b c d)=true:=rfl
theorem OO:eo v=a9 v:=rfl
theorem GQ:bU (.aL a b)=true:=rfl
theorem L5:bU.ji []=true:=rfl
theorem GR:bU.ji (v::r)=(bU v && bU.ji r):=rfl
theorem L6:bQ (.own l τ)=true:=rfl
theorem OP:bQ (.pv p)=true:=rfl
theorem L7:bQ (.dm l)=true:=rfl
theorem GS:bQ (.aL a b)=true:=rfl
theorem GU{c:Nat}:bQ (.bl a b c d)=true:=rfl
theorem GV:bQ .iN=true:=rfl
theorem GW:bQ (.kH s)=true:=rfl
theorem OQ:bQ (.fn a c)=bU.ji c:=rfl
theorem L8:bQ (.agg c)=gF c:=rfl
theorem GX:gF []=true:=rfl
theorem C8:gF (v::r)=(mg v && gF r):=rfl
theorem L9:mg (.own l τ)=true:=rfl
theorem OR:mg (.pv p)=true:=rfl
theorem L_:mg (.dm l)=true:=rfl
theorem GY{c:Nat}:mg (.bl a b c d)=true:=rfl
theorem L':bB.ep []=true:=rfl
theorem GZ:bB.ep (v::r)=(bB v && bB.ep r):=rfl
theorem OS:bB (.pv p)=true:=rfl
theorem Ma:bB (.dm l)=true:=rfl
theorem Mb:bB (.own l τ)=false:=rfl
theorem G6:bB (.aL a b)=true:=rfl
theorem G7{c:Nat}:bB (.bl a b c d)=true:=rfl
theorem Md:aN n (.pv p)=true:=rfl
theorem G8:aN n (.dm l)=true:=rfl
theorem G9:aN n (.own l τ)=true:=rfl
theorem C9:aN n .iN=true:=rfl
theorem C_:aN n (.aL a b)=decide (a<n):=rfl
theorem Da{c:Nat}:aN n (.bl a b c d)=decide (a<n):=rfl
theorem Me:aN n (.fn a c)=aN.cN n c:=rfl
theorem G_:aN n (.agg c)=aN.cN n c:=rfl
theorem Db:aN.cN n []=true:=rfl
theorem AF:aN.cN n (v::r)=(aN n v && aN.cN n r):=rfl
theorem Ha:dj n (.own l τ)=.own l (τ+n):=rfl
theorem yM:dj n (.pv p)=.pv p:=rfl
def AG(n:Nat)(p:List AV):Bool->AV
 |true=>.agg p
 |false=>.agg (p.map (jW n))
variable{p:List AV}{c:Nat}
def Hb:dj n (.agg p)=AG n p (bB.ep p):=by
 simp only[dj];cases bB.ep p<;>rfl
theorem AH:AG n p true=.agg p:=rfl
theorem yd:AG n p false=.agg (p.map (jW n)):=rfl
theorem Hc:jW n (.own l τ)=.own l (τ+n):=rfl
variable{p:PV}
theorem Mf:jW n (.pv p)=.pv p:=rfl
theorem Dc:jW n (.bl a b c d)=.bl a b c d:=rfl
theorem Dd:dj n (.aL a b)=.aL a b:=rfl
theorem Mg{b:List AV}:dj n (.fn a b)=.fn a b:=rfl
theorem De:dj n (.bl a b c d)=.bl a b c d:=rfl
theorem Df:dj n .iN=.iN:=rfl
theorem Dg{s:List (PV×PV)}:dj n (.gA s)=(.gA s):=rfl
theorem He:gh n []=[]:=rfl
theorem tO{r:Sh}:gh n (none::r)=none::gh n r:=rfl
theorem tQ{r:Sh}:gh n (some cs::r)=some (cs.map (dj n))::gh n r:=rfl
theorem yg{b:Bool}:bK.zeroCell (.bool b)=.pv (.bool b):=rfl
theorem AI:bK.zeroCell (.int k P)=.pv (.int k P):=rfl
theorem AJ:bK.zeroCell (.str I)=.pv (.str I):=rfl
theorem AL:bK.zeroCell (.ae [])=.dm []:=rfl
theorem Dh:cP (.own l τ)=[.own l τ]:=rfl
theorem Hf:cP (.pv p)=bf (.pv p):=rfl
theorem AM:cP (.bl a b c d)=[.bl a b c d]:=rfl
def I6(cs:List AV):Option (List PV)->List AV
 |some ps=>ps.map .pv
 |none=>cs
def Di:cP (.agg cs)=I6 cs (eY [] cs):=by
 show (match eQ [] (.agg cs)with|some p=>bf (.pv p)|none=>bf (.agg cs))=_;have h:eQ [] (.agg cs)=(eY [] cs).map .agg:=rfl;unfold I6;rw[h];cases eY [] cs<;>rfl
theorem Hg:I6 cs (some ps)=ps.map .pv:=rfl
theorem wu:I6 cs none=cs:=rfl
theorem aah{o:Sv}:AK.key (.v o)=none:=rfl
variable{a:Bool}
theorem Mh{k:Nat}:AK.key (.cD k o s a)=some k:=rfl
theorem Hh{k:Nat}:AK.key (.bN k o s)=some k:=rfl
theorem Mi{k:Nat}:AK.key (.alloc k l)=some k:=rfl
theorem S9{k:Nat}:AK.key (.box k s)=some k:=rfl
theorem Mj:AK.key (.ej s a)=none:=rfl
theorem Hi:AK.key (.eX s)=none:=rfl
theorem OT:AK.key (.rV s)=none:=rfl
theorem Hj:AK.key (.gD l)=none:=rfl
theorem Mk:AK.key (.mc s b a l)=none:=rfl
theorem Dj:AK.key (.ei s b ag)=none:=rfl
theorem Hk:AK.key (.append s b)=none:=rfl
theorem Ml:AK.key (.aJ g)=none:=rfl
theorem Hl:AK.key (.dt g)=none:=rfl
theorem Mm{o:List Nat}:AK.key (.bg g o)=none:=rfl
theorem Mn:(AK.clone sz bytes).key=none:=rfl
theorem Mo:AK.key .h_=none:=rfl
theorem bind_none{M:Nat->Option (List AV)}:(none:Option Nat).bind M=none:=rfl
theorem bind_some{f:Nat->Option (List AV)}{n:Nat}:(some n).bind f=f n:=rfl
theorem Hm:cm true sz cs off=if off+sz<=cs.length then some (.agg ((cs.drop off).take sz))else none:=rfl
theorem Dk:cm false 1 cs off=if off+1<=cs.length then cs[off]? else none:=rfl
theorem Dl:cV true sz l=if sz<=l.length then some (.pv (.agg (l.take sz)))else none:=rfl
def AN:cV false 1 (p::l)=some (.pv p):=by simp[cV]
theorem aU:a_ cs off vs=cs.take off++vs++cs.drop (off+vs.length):=rfl
theorem XT:bK .mv [x]=some x:=rfl
def OU{c:Bool}:bK .pick [.pv (.bool c),x,v]=if c=true then some x else some v:=by cases c<;>rfl
theorem S_:bK (.ext i) [.rQ vs]=vs[i]?:=rfl
theorem Hn:bK (.field off sz ag) [.pv (.agg l)]=cV ag sz (l.drop off):=rfl
theorem Hp{d:Nat}:bK (.jh off) [.au d o]=some (.au d (o+off)):=rfl
theorem Hq{d:Nat}:bK (.jh off) [.aL d o]=some (.aL d (o+off)):=rfl
theorem Hr:bK (.jh off) [.et l]=some (.et (l.drop off)):=rfl
def AO(sz:Nat):Option PV->Option AV
 |some el=>if(bp el).length=sz then some (.et (bp el))else none
 |none=>none
theorem Dm:AO sz (some p)=if(bp p).length=sz then some (.et (bp p))else none:=rfl
def Mp:bK (.fK sz) [.pv (.ae l),.pv (.int k P)]=if P<0 then none else AO sz l[P.toNat]?:=by
 show (if P<0 then none else _)=_;split
 .rfl
 .show(match l[P.toNat]? with|some el=>_|none=>_)=_;cases l[P.toNat]?<;>rfl
def Hs:bK (.fK sz) [.dm l,.pv (.int k P)]=if P<0 then none else AO sz l[P.toNat]?:=by
 show (if P<0 then none else _)=_;split
 .rfl
 .show(match l[P.toNat]? with|some el=>_|none=>_)=_;cases l[P.toNat]?<;>rfl
def Hu:bK (.fK sz) [.own l τ,.pv (.int k P)]=if P<0 then none else AO sz l[P.toNat]?:=by
 show (if P<0 then none else _)=_;split
 .rfl
 .show(match l[P.toNat]? with|some el=>_|none=>_)=_;cases l[P.toNat]?<;>rfl
theorem Hw{a:Nat}:bK (.fK sz) [.bl b a n ag,.pv (.int k P)]=if P<0 then none else if sz=a/\P.toNat<n then some (.aL b (P.toNat*sz))else none:=rfl
def VU:Option UInt8->Option AV
 |some b=>some (.pv (.int .u8 b.toNat))
 |none=>none
theorem Hx{b:UInt8}:VU (some b)=some (.pv (.int .u8 b.toNat)):=rfl
def Mq:bK .index [.pv (.str I),.pv (.int k P)]=if P<0 then none else VU I[P.toNat]?:=by
 show (if P<0 then none else _)=_;cases I[P.toNat]?<;>rfl
def aai:Option (List AV)->Option AV
 |some cs=>some (.agg cs)
 |none=>none
theorem Mr:aai (some cs)=some (.agg cs):=rfl
def Ms:bK (.build zero ds) vals=aai (nv (zero.map bK.zeroCell) ds vals):=by
 show (nv _ _ _).map _=_;cases nv (zero.map bK.zeroCell) ds vals<;>rfl
theorem Mu:nv cs [] []=some cs:=rfl
theorem Hy:nv cs ((off,sz)::ds) (v::vs)=
   if (bf v).length=sz/\off+sz<=cs.length/\(bf v).all a9=true then nv (a_ cs off (bf v)) ds vs else none:=rfl
def aaj(sz:Nat):Option (List PV)->Option AV
 |some els=>if els.all (fun e=>(bp e).length == sz)then some (.dm els)else none
 |none=>none
theorem Mv:aaj sz (some l)=if l.all (fun e=>(bp e).length == sz)then some (.dm l)else none:=rfl
def Hz:bK (.eA sz) vals=aaj sz (dS [] vals):=by
 show (dS [] vals).bind _=_;cases dS [] vals<;>rfl
theorem Mw:bK (.g_ sz ag) [.et l]=cV ag sz l:=rfl
theorem Ta:bK .len [.pv (.ae l)]=some (.pv (.int .i64 l.length)):=rfl
theorem OV:bK .len [.dm l]=some (.pv (.int .i64 l.length)):=rfl
theorem OW:bK .len [.own l τ]=some (.pv (.int .i64 l.length)):=rfl
theorem OX{a:Nat}:bK .len [.bl a b n d]=some (.pv (.int .i64 n)):=rfl
theorem OY:bK .EV [.pv (.str I)]=some (.pv (.int .i64 I.length)):=rfl
theorem OZ{a:Nat}:bK .rU [.aL a b]=some (.aL a b):=rfl
theorem XU{y:Int}:bK .mn [.pv (.int k P),.pv (.int k' y)]=if k=k' then some (.pv (.int k (if y<P then y else P)))else none:=rfl
theorem XV{y:Int}:bK .mx [.pv (.int k P),.pv (.int k' y)]=if k=k' then some (.pv (.int k (if y > P then y else P)))else none:=rfl
def O0:bK (.uh g) vals=some (.fn g vals):=by cases vals<;>rfl
theorem O4:bK (.conv k) [.pv (.int k' P)]=some (.pv (.int k (k.wrap P))):=rfl
variable{b:Bool}
theorem Tb:bK (.un .not) [.pv (.bool b)]=some (.pv (.bool !b)):=rfl
theorem Tc:bK (.un .neg) [.pv (.int k P)]=some (.pv (.int k (k.wrap (0-P)))):=rfl
theorem Td:bK (.beq false) [.pv (.bool a),.pv (.bool b)]=some (.pv (.bool (a == b))):=rfl
theorem Te:bK (.beq true) [.pv (.bool a),.pv (.bool b)]=some (.pv (.bool !(a == b))):=rfl
variable{b:Int}{a:Sh}
def Tf:bK (.bin .add) [.pv (.int k P),.pv (.int k b)]=some (.pv (.int k (k.wrap (P+b)))):=by simp[bK,cU]
def Tg:bK (.bin .sub) [.pv (.int k P),.pv (.int k b)]=some (.pv (.int k (k.wrap (P-b)))):=by simp[bK,cU]
def Th:bK (.bin .rem) [.pv (.int k P),.pv (.int k b)]=if b=0 then none else some (.pv (.int k (P.tmod b))):=by simp[bK,cU]
def Ti:bK (.bin .eql) [.pv (.int k P),.pv (.int k b)]=some (.pv (.bool (P == b))):=by simp[bK,cU]
def Tj:bK (.bin .neq) [.pv (.int k P),.pv (.int k b)]=some (.pv (.bool (P != b))):=by simp[bK,cU]
def Tl:bK (.bin .lss) [.pv (.int k P),.pv (.int k b)]=some (.pv (.bool (decide (P<b)))):=by simp[bK,cU]
def Tm:bK (.bin .leq) [.pv (.int k P),.pv (.int k b)]=some (.pv (.bool (decide (P<=b)))):=by simp[bK,cU]
def Tn:bK (.bin .gtr) [.pv (.int k P),.pv (.int k b)]=some (.pv (.bool (decide (P > b)))):=by simp[bK,cU]
def To:bK (.bin .geq) [.pv (.int k P),.pv (.int k b)]=some (.pv (.bool (decide (P>=b)))):=by simp[bK,cU]
def Tp:bK (.bin .and) [.pv (.int k P),.pv (.int k b)]=some (.pv (.int k (k.wrap (BitVec.ofInt k.bits P &&& BitVec.ofInt k.bits b).toNat))):=by simp[bK,cU]
def Tq:bK (.bin .shr) [.pv (.int k P),.pv (.int k' b)]=if b<0 then none else some (.pv (.int k (P.fdiv (2 ^ (min b.toNat k.bits))))):=by simp[bK,cU]
variable{b:List UInt8}
theorem Ts:bK (.bin .add) [.pv (.str I),.pv (.str b)]=if I.length+b.length<=9223372036854775807 then some (.pv (.str (I++b)))else none:=rfl
theorem O6:bK (.bin .eql) [.pv (.str I),.pv (.str b)]=some (.pv (.bool (I == b))):=rfl
theorem O7:bK (.bin .neq) [.pv (.str I),.pv (.str b)]=some (.pv (.bool (!(I == b)))):=rfl
theorem O8:bK (.bin .lss) [.pv (.str I),.pv (.str b)]=some (.pv (.bool (cU.eV I b))):=rfl
theorem O9:bK (.bin .gtr) [.pv (.str I),.pv (.str b)]=some (.pv (.bool (!(cU.eV I b || I == b)))):=rfl
theorem Mx{mx:Bool}:bK (.slice false sz lo hi mx) (x::cs)=dC false sz lo hi mx (x::cs):=rfl
theorem HA{mx:Bool}:bK (.slice true sz lo hi mx) (x::cs)=dC true sz lo hi mx (x::cs):=rfl
def lT(a6 ks:Bool)(a sh:Sh)(aa:aH):Option (List AV)->Option (List AV×Sh×aH)
 |some vs=>if(cI a6 ks sh vs).all bQ=true then
  some ((cL aa (cI a6 ks sh vs) (if(cI a6 ks sh vs).all (aN a.length)=true then(gq a6 ks sh vs).take a.length else gq a6 ks sh vs)).1,
    (cL aa (cI a6 ks sh vs) (if(cI a6 ks sh vs).all (aN a.length)=true then(gq a6 ks sh vs).take a.length else gq a6 ks sh vs)).2.1,
    (cL aa (cI a6 ks sh vs) (if(cI a6 ks sh vs).all (aN a.length)=true then(gq a6 ks sh vs).take a.length else gq a6 ks sh vs)).2.2.2)else none
 |none=>none
theorem Dn:lT ag ks a sh aa (some vs)=if(cI ag ks sh vs).all bQ=true then
 some ((cL aa (cI ag ks sh vs) (if(cI ag ks sh vs).all (aN a.length)=true then(gq ag ks sh vs).take a.length else gq ag ks sh vs)).1,
   (cL aa (cI ag ks sh vs) (if(cI ag ks sh vs).all (aN a.length)=true then(gq ag ks sh vs).take a.length else gq ag ks sh vs)).2.1,
   (cL aa (cI ag ks sh vs) (if(cI ag ks sh vs).all (aN a.length)=true then(gq ag ks sh vs).take a.length else gq ag ks sh vs)).2.2.2)else none:=rfl
def fin(a6 ks:Bool)(rs:List rW)(a:Sh):Option (aX×St)->Option (List AV×Sh×aH)
 |some (.ret,st)=>lT a6 ks a st.sh st.aa (e8 st rs)
 |some (.normal,st)=>lT a6 ks a st.sh st.aa (e8 st rs)
 |_=>none
theorem Tt:fin ag ks rs a (some (.ret,st))=lT ag ks a st.sh st.aa (e8 st rs):=rfl
theorem HB:fin ag ks rs a (some (.normal,st))=lT ag ks a st.sh st.aa (e8 st rs):=rfl
theorem Tu{c:Prop}[Decidable c]{y:Option (aX×St)}:fin ag ks rs a (if c then X else y)=if c then fin ag ks rs a X else fin ag ks rs a y:=by split<;>rfl
theorem yN:finish ag af a X=fin ag af.ks af.results a X:=by
 cases X with
 |none=>rfl
 |some q=>
  obtain⟨e,st⟩:=q;cases e with
  |ret=>simp only[finish,fin];cases e8 st af.results<;>simp[lT]
  |normal=>simp only[finish,fin];cases e8 st af.results<;>simp[lT]
  |exit id=>simp[finish,fin]
theorem HC:e8 st []=some []:=rfl
def Dp{r:rW}:e8 st (r::rs)=qY (s7 st r) (e8 st rs):=by
 simp only[e8];cases s7 st r<;>cases e8 st rs<;>rfl
theorem Tv:s7 st (.t n)=look st.env n:=rfl
def oV(key sz:Nat)(ag:Bool)(mem:List (Nat×List AV))(sh:Sh):Option AV->Option AV
 |some (.au d 0)=>AR key d sz ag (look mem key)
 |some (.aL s 0)=>wo ag sz 0 sh[s]?
 |_=>none
where AR (key d sz:Nat) (ag:Bool):Option (List AV)->Option AV
 |some cs=>if d=key then cm ag sz cs 0 else none
 |none=>none
def Tw:s7 st (.c key sz ag)=oV key sz ag st.mem st.sh (look st.env key):=by
 simp only[s7];unfold oV;split
 .rename_i h;rw[h];rfl
 .rename_i h;rw[h];rfl
 .rename_i h1 h2;split
  .rename_i d e;exact absurd e (h1 d)
  .rename_i s e;exact absurd e (h2 s)
  .rfl
theorem AS:oV key sz ag mem sh (some (.au n 0))=oV.AR key n sz ag (look mem key):=rfl
theorem AT:oV.AR key n sz ag (some cs)=if n=key then cm ag sz cs 0 else none:=rfl
theorem Dq:oV key sz ag mem sh (some (.aL s 0))=wo ag sz 0 sh[s]?:=rfl
theorem AU:cI false ks sh vs=vs.map (mh sh):=rfl
theorem Dr:cI true false sh vs=vs.map (nG sh):=rfl
theorem My:cI true true sh vs=vs:=rfl
theorem Du:gq false ks sh vs=fu sh vs:=rfl
theorem HD:gq true false sh vs=fu sh vs:=rfl
theorem O_:gq true true sh vs=sh:=rfl
def XW(v:AV):Option PV->AV
 |some p=>.pv p
 |none=>v
theorem Mz:XW v (some p)=.pv p:=rfl
theorem Pa:mh sh v=XW v (eQ sh v):=rfl
theorem Pb:nG sh (.dm l)=.dm l:=rfl
theorem Pc:nG sh (.own l τ)=.own l τ:=rfl
theorem Pd:nG sh (.agg cs)=.agg (cs.map (rY sh)):=rfl
theorem Tx:nG sh (.pv p)=.pv p:=rfl
variable{b a:Nat}{x:List AV}
theorem MA:nG sh (.aL a b)=.aL a b:=rfl
theorem Tz{b:List AV}:nG sh (.fn a b)=.fn a b:=rfl
theorem MB:nG sh .iN=.iN:=rfl
theorem Pe:rY sh (.dm l)=.dm l:=rfl
theorem Pf:rY sh (.own l τ)=.pv (.ae l):=rfl
theorem MC{b:Bool}:rY sh (.pv (.bool b))=.pv (.bool b):=rfl
theorem Pg:rY sh (.pv (.int k P))=.pv (.int k P):=rfl
theorem Ph:rY sh (.pv (.str I))=.pv (.str I):=rfl
theorem Pj:rY sh (.pv (.ae l))=.pv (.ae l):=rfl
theorem MD:rY sh (.bl a b c d)=XW (.bl a b c d) (eQ sh (.bl a b c d)):=rfl
theorem HE:fu sh vs=kill sh (vs.flatMap iv):=rfl
theorem Pk:kill sh []=sh:=rfl
theorem ME{l:List Nat}:kill sh (b::l)=kill (sh.set b none) l:=rfl
theorem MF:iv (.bl a b c d)=[a]:=rfl
theorem TB:iv (.pv p)=[]:=rfl
theorem Pl:iv (.own l τ)=[]:=rfl
theorem Pm:iv (.dm l)=[]:=rfl
theorem MG:iv (.aL a b)=[]:=rfl
theorem TC{b:List AV}:iv (.fn a b)=[]:=rfl
theorem MH:iv .iN=[]:=rfl
def tR:AV->List Nat
 | .bl b _ _ _=>[b]
 |_=>[]
def Pn:iv (.agg cs)=cs.flatMap tR:=by
 show cs.flatMap _=cs.flatMap tR;congr 1
theorem HF:tR (.bl a b c d)=[a]:=rfl
theorem Po:tR (.pv p)=[]:=rfl
theorem MI:tR (.own l τ)=[]:=rfl
theorem MJ:tR (.dm l)=[]:=rfl
theorem HG:gi []=some []:=rfl
def Dw:gi (.pv p::r)=qY (some p) (gi r):=by
 simp only[gi];cases gi r<;>rfl
def kx:Option (List AV×Sh×aH)->Option (List PV)
 |some (rs,_,_)=>gi rs
 |none=>none
theorem AW{rs:List AV}{t:aH}:kx (some (rs,sh,t))=gi rs:=rfl
theorem Dx{c:Prop}[Decidable c]{x y:Option (List AV×Sh×aH)}:kx (if c then x else y)=if c then kx x else kx y:=by split<;>rfl
def m9(a:AP g=some af)(h1:l.length=af.nparams)(h2:af.nparams<=af.ntmps)(hp:af.rX=none:=by rfl):
   (aE AP).p g l=kx (fin false af.ks af.results [] (cl AP af.body ⟨bY 0 (l.map .pv),[],[],[]⟩)):=by
 rw[VS a hp h1 (by omega)];unfold pH kx;rw[yN];cases fin false af.ks af.results [] (cl AP af.body ⟨bY 0 (l.map .pv),[],[],[]⟩)<;>rfl
def fF(a:AP g=some af)(h2:x.length<=af.ntmps):
   (aE AP).i g x sh ts=fin true af.ks af.results sh (cl AP af.body ⟨bY 0 x,[],sh,ts⟩):=by
 rw[VT a h2,<-yN];rfl
def aB(af:aw)(a:AP g=some af:=by rfl)(h1:l.length=af.nparams:=by rfl)(h2:af.nparams<=af.ntmps:=by decide)(hp:af.rX=none:=by rfl):
   (aE AP).p g l=kx (fin false af.ks af.results [] (cl AP af.body ⟨bY 0 (l.map .pv),[],[],[]⟩)):=m9 a h1 h2 hp
def aC(af:aw)(a:AP g=some af:=by rfl)(h2:Nat.ble x.length af.ntmps=true:=by rfl):
   (aE AP).i g x sh ts=fin true af.ks af.results sh (cl AP af.body ⟨bY 0 x,[],sh,ts⟩):=fF a (Nat.le_of_ble_eq_true h2)
end
attribute [simp] K6 CM K7 CN FH N' KQ CE KR CF Fy Ap KU Fz KX Aq KY FB KZ K0 FC Au CG FD N6 SS aac SU N7 N8 K3 K4 CI FE FG K5 XL jn jM kW nU CJ tN CL qX jN oO N_ oN lF mU Lb Ob lG x_ Lc Ld Ol Lp Lq FT CQ Lr qd FU CR Ls On Oo FV fE FX CT Ov Lx Ly FY Ow FZ Lz CU F8 F9 CV SY SZ Ox su F_ CW LA F' S3 XS S4 S5 LB S6 Ga CX CY Oy AB Oz LC OA OB OC OD OE OF LD wt LF qe qf LG Gb LH Gc LI LJ CZ LK Gi Gj Gk OH Gl S8 C2 Gp Gq uw sw Gt Gu ux sB Gw LN OK LO Gy Gz OM GA look_nil LQ ON LR LS LU LV gU GC AE ya GD C4 C5 GF GG GH GI GJ C6 GK C7 GL GM GN GO LW LX LY LZ L0 GP OO GQ L5 GR L6 OP L7 GS GU GV OQ L8 L' GZ OS Ma Mb G6 G7 Md G8 G9 C9 C_ Da Me G_ Db AF Ha yM Hb Dd Mg De Df He tO tQ yg AI AJ AL Dh Hf AM Di Hg wu aah Mh Hh Mi S9 Mj Hi OT Hj Mk Hk Ml Hl Mm Mo FW Oq CS Ot Lt Ou Lu b2sO_some bind_none bind_some Hm Dk Dl AN aU XT OU S_ Hn Hp Hq Hr Dm Mp Hs Hu Hw Hx Mq Mr Ms Mu Hy Mv Hz Mw Ta OV OW OX OY OZ XU XV O0 O4 Tb Tc Td Te Tf Tg Th Ti Tj Tl Tm Tn To Tp Tq Ts O6 O7 O8 O9 Mx HA Dn Tt HB Tu HC Dp Tv Tw AS AT Dq AU Dr Mz Pa Pb Pc Pd Tx MA Tz MB Pe Pf MC Pg Ph Pj MD HE Pk ME MF TB Pl Pm MG TC MH Pn HF Po MI MJ HG Dw AW Dx F6 Gm Gn GB GW Dg SV Oa K8 pW Ay x9 FI K9 K_ Mn Lv C0 AD Gf C1 LM OG Gg Gx C3 OL LP GX C8 L9 OR L_ GY AH yd Hc Mf Dc My Du HD O_ Le FJ mV CO Od Oe Lf SW Oj Lj Lk Ll Lm Lh FL Li Oi Lg FM FN XH Dj Ln CP Az AA FP Lo FO FR XK SM SN XI N4 List.getElem?_cons_zero
def aq{P:Int}(h1:-9223372036854775808<=P)(h2:P<=9223372036854775807):IntKind.i64.wrap P=P:=by
 simp[IntKind.wrap,IntKind.bits,IntKind.signed];omega
end Go.Ab.Ev
namespace Go.Ab
open Ev
structure qZ(P:Program)(ns:Names)(f sz:Nat)(ag:Bool) where
 fn:Func
 A:nA
 o0:Array Oper
 o1:Array Oper
 o2:Array Oper
 m0:Oper
 VV:List Oper
 y:Oper
 nt:Oper
 r0:Nat
 r1:Nat
 r2:Nat
 r3:Nat
 b0:Nat
 b1:Nat
 types:Array TypeId
 tb:TypeId
 hf:P.funcs[f]?=some fn
 wv:fn.body=some (.seq (.region r0 o0 false) (.block b0 (.loop (.seq (.seq (.region r1 o1 false) (.cond (.tmp 8) .skip (.exit b0)))
   (.seq (.block b1 (.seq (.region r3 (m0::VV++[y,nt]).toArray false) (.cond (.tmp 18) .ret .skip))) (.region r2 o2 false))))))
 iQ:fn.results=#[]
 hN:fn.ntmps=19
 c0:dN (im P ns A 19 o0) o0.toList=some [⟨some 4,none,[.t 1],.v (.g_ 1 false)⟩,⟨some 5,none,[.t 4],.v .len⟩,⟨some 6,none,[.t 5,.c (.pv (.int .i64 1))],.v (.bin .sub)⟩,⟨some 3,none,[.t 6],.v .mv⟩]
 c1:dN (im P ns A 19 o1) o1.toList=some [⟨some 7,none,[.t 3],.v .mv⟩,⟨some 8,none,[.t 7,.c (.pv (.int .i64 0))],.v (.bin .geq)⟩]
 c2:dN (im P ns A 19 o2) o2.toList=some [⟨some 9,none,[.t 3],.v .mv⟩,⟨some 10,none,[.t 9,.c (.pv (.int .i64 1))],.v (.bin .sub)⟩,⟨some 3,none,[.t 10],.v .mv⟩]
 h0:m0.op=.move (.tmp 0)/\m0.dst=some 11/\m0.guard=none
 c3:dN (im P ns A 19 (m0::VV++[y,nt]).toArray) VV=some [⟨some 12,none,[.t 3],.v .mv⟩,⟨some 13,none,[.t 1],.v (.g_ 1 false)⟩,⟨some 14,none,[.t 3],.v .mv⟩,⟨some 15,none,[.t 13,.t 14],.v (.fK sz)⟩,⟨some 16,none,[.t 15],.v (.g_ sz ag)⟩]
 hy:y.op=.call {callee:=.value (.tmp 11),args:=#[.tmp 12,.tmp 16],argTypes:=types}/\y.dst=some 17/\y.guard=none
 hn:nt.op=.unOp .not tb (.tmp 17)/\nt.dst=some 18/\nt.guard=none
section
variable {P:Program} {ns:Names}
variable{n:Nat}{ops:Array Oper}{Q:Exit->Act->World->Prop}{rest:List Oper}{F:Fence}{Y:Oper}{V:Act}{w:World}
theorem jq{n0:Nat}{ro:Option Nat}(C:jo P ns){orc:fQ}(f:lH P ns orc){A:nA}{N:Nat}:∀{l:List Oper}{as:List d8}{st c:St}{G:Gh}{a:Act}{w:World},
   dN (im P ns A N ops) l=some as->iU (num ns) n0 N G st a w->bC orc as st=some c->
   (∀G' p w',iU (num ns) n0 N G' c p w'->bZ G w G' w'->p.defers=a.defers->(∀t,(∀m∈as,m.dst≠some t)->p.tmps[t]?=a.tmps[t]?)->wpListIn (uJ ro) n P ops Q rest p w')->wpListIn (uJ ro) n P ops Q (l++rest) a w
 |[],as,st,c,G,a,w,g,hs,b,s=>by
  simp[dN]at g;subst g;simp[bC]at b;subst b;exact s G a w hs (bZ.refl G w) rfl (fun _ _=>rfl)
 |o::l,as,st,c,G,a,w,g,hs,b,s=>by
  simp only[dN]at g;split at g
  .rename_i m I h1 h2;simp at g;subst g;simp only[bC]at b;split at b
   .simp at b
   .rename_i D i;rw[za2];unfold wpListIn;have hd:m.dst=o.dst:=by obtain⟨_,_,_,h,_⟩:=m6 h1;exact h
    have k:∀(a:Act)(v:Value) t,m.dst≠some t->(a.put o.dst v).tmps[t]?=a.tmps[t]?:=by
     intro a v t ht;rw[hd]at ht;cases E:o.dst with
     |none=>rfl
     |some d=>
      rw[E]at ht;simp only[Act.put];rw[zaA];intro e;exact ht (by rw[e])
    exact Ao C f h1 hs i (fun G' v w' r H=>jq C f h2 r b (fun B z q j u x F=>s B z q j (H.trans u) (x.trans (put_defers _ _ _)) (fun t ht=>by
     rw[F t (fun y h=>ht y (by simp[h]))];exact k a v t (ht m (by simp)))))
  .simp at g
def sD{x:Operand}(hF:∀f,F.fn f)(b:Y.op=.move x)(d:Y.guard=none)
   (h:wpListIn F n P ops Q rest (V.put Y.dst (V.eval x)) w):wpListIn F n P ops Q (Y::rest) V w:=by
 unfold wpListIn;have hw:Region.wanted Y (yielded ops V.tmps)=true:=by simp[Region.wanted,d]
 rw[zai hw];refine⟨fun _ _=>hF _,?_⟩;rw[zck _ _ _ (by intro c e;rw[b]at e;cases e)]
 have hr:(execOp V.eval Y).run P w=.ok (.value (V.eval x)) w:=by
  obtain⟨dst,op,type,pos,after,guard⟩:=Y;simp only at b;subst b;simp[execOp]
 rw[hr];exact h
def HI{l:Nat}{types:Array TypeId}{O y:Value}(hF:∀f,F.fn f)(hd:F.depth=none)
   (b:Y.op=.call {callee:=.value (.tmp 11),args:=#[.tmp 12,.tmp 16],argTypes:=types}) (p:Y.guard=none) (i:V.tmps[11]?=some (.func (.yield l) #[] #[])) (g:V.tmps[12]?=some O) (d:V.tmps[16]?=some y)
   (h:YieldAt F (n-1) P l #[O,y] w fun e w'=>∃v,e=.returned v/\wpListIn F n P ops Q rest (V.put Y.dst v) w'):wpListIn F n P ops Q (Y::rest) V w:=by
 unfold wpListIn;have hw:Region.wanted Y (yielded ops V.tmps)=true:=by simp[Region.wanted,p]
 rw[zai hw];refine⟨fun _ _=>hF _,?_⟩;rw[zck _ _ _ (by intro c e;rw[b]at e;cases e)];obtain⟨fn,tmps,assign,body,hy,q⟩:=h;have m:V.eval (.tmp 11)=.func (.yield l) #[] #[]:=by simp[Act.eval,i]
 have k:V.eval (.tmp 12)=O:=by simp[Act.eval,g]
 have j:V.eval (.tmp 16)=y:=by simp[Act.eval,d]
 have hr:(execOp V.eval Y).run P w=.ok (.round l fn tmps assign body) w:=by
  obtain⟨dst,op,type,pos,after,guard⟩:=Y;simp only at b;subst b;simp only[execOp,resolve,zav,m,Deferred.ofValue,zaC,zam,invoke,callFunc];simp[k,j,hy]
 rw[hr];refine⟨fun e=>by rw[hd]at e;simp at e,q.mono ?_⟩
 rintro e w' ⟨v,rfl,h⟩
 exact h
def Dy{t:TypeId}{b:Bool}(hF:∀f,F.fn f)(g:Y.op=.unOp .not t (.tmp 17))(i:Y.guard=none)
   (d:V.tmps[17]?=some (.bool b)) (h:wpListIn F n P ops Q rest (V.put Y.dst (.bool !b)) w):wpListIn F n P ops Q (Y::rest) V w:=by
 unfold wpListIn;have hw:Region.wanted Y (yielded ops V.tmps)=true:=by simp[Region.wanted,i]
 rw[zai hw];refine⟨fun _ _=>hF _,?_⟩;rw[zck _ _ _ (by intro c e;rw[g]at e;cases e)];have j:V.eval (.tmp 17)=.bool b:=by simp[Act.eval,d]
 have hr:(execOp V.eval Y).run P w=.ok (.value (.bool !b)) w:=by
  obtain⟨dst,op,type,pos,after,guard⟩:=Y;simp only at g;subst g;simp[execOp,d,go_sem,Op.unary]
 rw[hr];exact h
structure tS(L:List PV)(bx l:Nat)(k:Nat)(a:Act):Prop where
 size:a.tmps.size=19
 defers:a.defers=[]
 t0:a.tmps[0]?=some (.func (.yield l) #[] #[])
 t1:a.tmps[1]?=some (.pointer (some ⟨bx,0,none⟩))
 t3:a.tmps[3]?=some (.int .i64 ((L.length:Int)-1-k))
def tS.sim{L:List PV}{bx l k:Nat}{st:St}{G:Gh}{W:World}(h:tS L bx l k V)(hi:Inv (num ns) G W st.mem st.sh st.aa)(b:aD (num ns) G (.et [.ae L]) (.pointer (some ⟨bx,0,none⟩))):
   iU (num ns) 0 19 G {env:=[(1,.et [.ae L]),(3,.pv (.int .i64 ((L.length:Int)-1-k)))],mem:=st.mem,sh:=st.sh,aa:=st.aa} V W:=by
 refine⟨⟨h.size,fun t x hx=>?_⟩,hi,zbB _,[],by simpa using h.defers,by simp,by simp⟩;simp only[look]at hx;split at hx
 .rename_i e;subst e;cases hx;exact⟨_,h.t1,b⟩
 .split at hx
  .rename_i e;subst e;cases hx;exact⟨_,h.t3,by simp[aD,Rel,R]⟩
  .cases hx
section
variable {orc:fQ} {mem:List (Nat×List AV)} {sh:Sh} {aa:aH} {L:List PV}
def ev0(a:L.length<4611686018427387904):bC orc [⟨some 4,none,[.t 1],.v (.g_ 1 false)⟩,⟨some 5,none,[.t 4],.v .len⟩,⟨some 6,none,[.t 5,.c (.pv (.int .i64 1))],.v (.bin .sub)⟩,⟨some 3,none,[.t 6],.v .mv⟩]
   {env:=[(1,.et [.ae L])],mem,sh,aa}=some {env:=[(1,.et [.ae L]),(4,.pv (.ae L)),(5,.pv (.int .i64 L.length)),(6,.pv (.int .i64 ((L.length:Int)-1))),(3,.pv (.int .i64 ((L.length:Int)-1)))],mem,sh,aa}:=by
 simp (disch:=omega) [aq]
def ev1{P:Int}:bC orc [⟨some 7,none,[.t 3],.v .mv⟩,⟨some 8,none,[.t 7,.c (.pv (.int .i64 0))],.v (.bin .geq)⟩]
   {env:=[(1,.et [.ae L]),(3,.pv (.int .i64 P))],mem,sh,aa}=some {env:=[(1,.et [.ae L]),(3,.pv (.int .i64 P)),(7,.pv (.int .i64 P)),(8,.pv (.bool (decide (0<=P))))],mem,sh,aa}:=by
 simp (disch:=omega) [aq]
def ev2{P:Int}(h0:-4611686018427387904<P)(h1:P<4611686018427387904):bC orc [⟨some 9,none,[.t 3],.v .mv⟩,⟨some 10,none,[.t 9,.c (.pv (.int .i64 1))],.v (.bin .sub)⟩,⟨some 3,none,[.t 10],.v .mv⟩]
   {env:=[(1,.et [.ae L]),(3,.pv (.int .i64 P))],mem,sh,aa}=some {env:=[(1,.et [.ae L]),(3,.pv (.int .i64 (P-1))),(9,.pv (.int .i64 P)),(10,.pv (.int .i64 (P-1)))],mem,sh,aa}:=by
 simp (disch:=omega) [aq]
def ev3{i sz:Nat}{ag:Bool}{z:PV}{x:AV}(hi:L[i]?=some z)(hx:uq sz ag z=some x):∃p,bC orc [⟨some 12,none,[.t 3],.v .mv⟩,⟨some 13,none,[.t 1],.v (.g_ 1 false)⟩,⟨some 14,none,[.t 3],.v .mv⟩,⟨some 15,none,[.t 13,.t 14],.v (.fK sz)⟩,⟨some 16,none,[.t 15],.v (.g_ sz ag)⟩]
   {env:=[(1,.et [.ae L]),(3,.pv (.int .i64 i))],mem,sh,aa}=some {env:=[(1,.et [.ae L]),(3,.pv (.int .i64 i)),(12,.pv (.int .i64 i)),(13,.pv (.ae L)),(14,.pv (.int .i64 i)),(15,p),(16,x)],mem,sh,aa}:=by
 refine⟨.et (bp z),?_⟩;have c:=(zaa.1 hi).1;unfold uq at hx;simp only[zab]at hx;obtain⟨a,hx⟩:=hx;have b:¬((i:Int)<0):=by omega
 simp (disch:=omega) [-getElem?_pos,hi,b,a,hx]
end
variable{orc:fQ}{τ sz bx l k pi px n0 N:Nat}{ag:Bool}{L:List PV}{st:St}{G G' Gs:Gh}{W w w':World}{mem:List (Nat×List AV)}{sh:Sh}{aa:aH}{r rec:Loop}{f:St->Option (aX×St)}{live:List Nat}{env0:List (Nat×AV)}{res:aX×St}{a:Act}
def TD(Y:jo P ns)(m:lH P ns orc)(D:qZ P ns τ sz ag)(hL:L.length<4611686018427387904){J:Nat->St->Gh->World->Prop}{Jx:World->Prop}
   (o:∀{k st G W},J k st G W->Inv (num ns) G W st.mem st.sh st.aa)
   (q:∀{k st G W G' W'},J k st G W->Inv (num ns) G' W' st.mem st.sh st.aa->bZ G W G' W'->J k st G' W')
   (n:∀{k st G W},J k st G W->aD (num ns) G (.et [.ae L]) (.pointer (some ⟨bx,0,none⟩)))
   (aj:∀{k st G W},J k st G W->k<L.length->∃el x,L[L.length-1-k]?=some el/\uq sz ag el=some x)
   (hY:∀{k st G W el x v},J k st G W->k<L.length->L[L.length-1-k]?=some el->uq sz ag el=some x->aD (num ns) G x v->
     YieldAt Fence.wide 0 P l #[.int .i64 ((L.length-1-k:Nat):Int),v] W fun e W'=>(e=.returned (.bool true)/\∃c G',J (k+1) c G' W')\/(e=.returned (.bool false)/\Jx W'))
      (h0:J 0 st G W):
   CallsIn Fence.wide 0 P τ #[.func (.yield l) #[] #[],.pointer (some ⟨bx,0,none⟩)] W fun e W'=>(∃v,e=.returned v)/\((∃c G',J L.length c G' W')\/Jx W'):=by
 have hF:∀τ,Fence.wide.fn τ:=fun _=>trivial
 have fin:∀(a:Act)(W':World),a.defers=[]->((∃c G',J L.length c G' W')\/Jx W')->a.defers=[]/\∃v,(results D.fn a.tmps).run P W'=.ok v W'/\((∃u,Ending.returned v=.returned u)/\((∃c G',J L.length c G' W')\/Jx W')):=by
  intro a W' hd h;refine⟨hd,.tuple #[],?_,⟨_,rfl⟩,h⟩;simp[results,D.iQ]
 refine callsIn_of_wp D.hf D.wv trivial ?_ rfl;rw[D.hN];refine zb3 (zbp ?_)
 have a4:iU (num ns) 0 19 G {env:=[(1,.et [.ae L])],mem:=st.mem,sh:=st.sh,aa:=st.aa} {tmps:=#[.func (.yield l) #[] #[],.pointer (some ⟨bx,0,none⟩)]++Array.replicate (19-(#[.func (.yield l) #[] #[],.pointer (some ⟨bx,0,none⟩)]:Array Value).size) undef,defers:=[]} W:=by
  have i0:=o h0;refine⟨⟨by simp,fun t x hx=>?_⟩,i0,zbB _,[],rfl,by simp,by simp⟩;simp only[look]at hx;split at hx
  .rename_i e;subst e;cases hx;exact⟨_,by simp,n h0⟩
  .cases hx
 rw[<-zaJ D.o0.toList];refine jq (ro:=none) Y m D.c0 a4 (ev0 hL) fun G1 r M g C E i=>?_
 change (Code.block D.b0 _).wpIn Fence.wide 0 P _ r M
 have J1:J 0 st G1 M:=q h0 g.inv C
 have ac:tS L bx l 0 r:=by
  refine⟨g.env.size,E,?_,?_,?_⟩
  .rw[i 0 (by simp)];simp
  .rw[i 1 (by simp)];simp
  .obtain⟨v,h1,h2⟩:=g.env.env 3 _ rfl;simp[aD,Rel,R]at h2;rw[h1,h2];simp
 refine wpIn_block (wpIn_loop_rounds (L.length+1) ?_)
 have round:∀(j k:Nat)(a:Act)(st:St)(G:Gh)(W:World),L.length-k=j->k<=L.length->tS L bx l k a->J k st G W->
     Code.roundsIn Fence.wide 0 P (.seq (.seq (.region D.r1 D.o1 false) (.cond (.tmp 8) .skip (.exit D.b0))) (.seq (.block D.b1 (.seq (.region D.r3 (D.m0::D.VV++[D.y,D.nt]).toArray false) (.cond (.tmp 18) .ret .skip))) (.region D.r2 D.o2 false)))
       (Exit.inBlock D.b0 (bodyPost P D.fn fun e W'=>(∃v,e=.returned v)/\((∃c G',J L.length c G' W')\/Jx W'))) (j+1) a W:=by
   intro j;induction j with
   |zero=>
    intro k a st G W hj hk B Q;rw[roundsIn_succ];refine zb3 (zb3 (zbp ?_));rw[<-zaJ D.o1.toList];refine jq (ro:=none) Y m D.c1 (B.sim (o Q) (n Q)) ev1 fun G1 r M g C E i=>?_
    change (Code.cond (.tmp 8) .skip (.exit D.b0)).wpIn Fence.wide 0 P _ r M
    obtain⟨v8,h8,T⟩:=g.env.env 8 _ rfl;have w:=q Q g.inv C;have a6:tS L bx l k r:=⟨g.env.size,E.trans B.defers,by rw[i 0 (by simp)];exact B.t0,by rw[i 1 (by simp)];exact B.t1,by rw[i 3 (by simp)];exact B.t3⟩;simp[aD,Rel,R]at T;have H:k=L.length:=by omega
    subst H;have hc:r.eval (.tmp 8)=.bool false:=by simp[Act.eval,h8,T];omega
    refine zdn hc (wpIn_exit ?_);simp only[Exit.then,Exit.inBlock,za4];exact fin r M a6.defers (.inl ⟨_,_,w⟩)
   |succ j ih=>
    intro k a st G W hj hk B Q;rw[roundsIn_succ];refine zb3 (zb3 (zbp ?_));rw[<-zaJ D.o1.toList];refine jq (ro:=none) Y m D.c1 (B.sim (o Q) (n Q)) ev1 fun G1 r M g C E i=>?_
    change (Code.cond (.tmp 8) .skip (.exit D.b0)).wpIn Fence.wide 0 P _ r M
    obtain⟨v8,h8,T⟩:=g.env.env 8 _ rfl;have w:=q Q g.inv C;have a6:tS L bx l k r:=⟨g.env.size,E.trans B.defers,by rw[i 0 (by simp)];exact B.t0,by rw[i 1 (by simp)];exact B.t1,by rw[i 3 (by simp)];exact B.t3⟩;simp[aD,Rel,R]at T;have H:k<L.length:=by omega
    have hc:r.eval (.tmp 8)=.bool true:=(by simp[Act.eval,h8,T];omega);refine wpIn_cond_true hc (wpIn_skip ?_)
    change (Code.seq (.block D.b1 _) (.region D.r2 D.o2 false)).wpIn Fence.wide 0 P _ r M
    refine zb3 (wpIn_block (zb3 (zbp ?_)));have ab:((D.m0::D.VV++[D.y,D.nt]).toArray).toList=D.m0::(D.VV++[D.y,D.nt]):=by simp
    rw[ab];refine sD hF D.h0.1 D.h0.2.2 ?_;have e0:r.eval (.tmp 0)=.func (.yield l) #[] #[]:=by simp[Act.eval,a6.t0]
    rw[D.h0.2.1,e0]
    have d:tS L bx l k (r.put (some 11) (.func (.yield l) #[] #[])):=by
     refine⟨by simp[Act.put,a6.size],a6.defers,?_,?_,?_⟩
     .simp only[Act.put];rw[zaA (by decide)];exact a6.t0
     .simp only[Act.put];rw[zaA (by decide)];exact a6.t1
     .simp only[Act.put];rw[zaA (by decide)];exact a6.t3
    obtain⟨el,x,hi,hx⟩:=aj w H;have i3:(L.length:Int)-1-k=((L.length-1-k:Nat):Int):=by omega
    obtain⟨p,ai⟩:=ev3 (orc:=orc) (mem:=st.mem) (sh:=st.sh) (aa:=st.aa) hi hx;have V:=d.sim (o w) (n w);rw[i3]at V;refine jq (ro:=none) Y m D.c3 V ai fun G3 K W3 F al an I=>?_
    have ax:=q w F.inv al;obtain⟨b6,aO,U⟩:=F.env.env 12 _ rfl;obtain⟨b5,ay,Z⟩:=F.env.env 16 _ rfl;simp[aD,Rel,R]at U;subst U;have b2:K.tmps[11]?=some (.func (.yield l) #[] #[]):=(by rw[I 11 (by simp)];simp[Act.put,a6.size]);have h3:K.tmps[3]?=some (.int .i64 ((L.length:Int)-1-k)):=(by rw[I 3 (by simp)];exact d.t3);have b4:K.tmps[0]?=some (.func (.yield l) #[] #[]):=(by rw[I 0 (by simp)];exact d.t0);have b3:K.tmps[1]?=some (.pointer (some ⟨bx,0,none⟩)):=(by rw[I 1 (by simp)];exact d.t1);have A:=F.env.size;refine HI hF rfl D.hy.1 D.hy.2.2 b2 aO ay ?_;obtain⟨fn,tmps,assign,body,a0,hR⟩:=hY ax H hi hx Z;refine⟨fn,tmps,assign,body,a0,hR.mono ?_⟩;have z:∀v,(K.put D.y.dst v).tmps[17]?=some v:=by intro v;rw[D.hy.2.1];simp[Act.put,A]
    have both:∀b u,tS L bx l k ((K.put D.y.dst u).put D.nt.dst (.bool b))/\((K.put D.y.dst u).put D.nt.dst (.bool b)).tmps[18]?=some (.bool b):=by
     intro b u;rw[D.hy.2.1,D.hn.2.1];refine⟨⟨by simp[Act.put,A],an.trans d.defers,?_,?_,?_⟩,by simp[Act.put,A]⟩
     .simp only[Act.put];rw[zaA (by decide),zaA (by decide)];exact b4
     .simp only[Act.put];rw[zaA (by decide),zaA (by decide)];exact b3
     .simp only[Act.put];rw[zaA (by decide),zaA (by decide)];exact h3
    rintro e W' (⟨rfl,c,G',O⟩|⟨rfl,a2⟩)
    .refine⟨_,rfl,Dy hF D.hn.1 D.hn.2.2 (z _) ?_⟩;obtain⟨s,S⟩:=both false (.bool true)
     change (Code.cond (.tmp 18) .ret .skip).wpIn Fence.wide 0 P _ ((K.put D.y.dst (.bool true)).put D.nt.dst (.bool false)) W'
     refine zdn (by simp[Act.eval,S]) (wpIn_skip ?_)
     change (Code.region D.r2 D.o2 false).wpIn Fence.wide 0 P _ _ W'
     refine zbp ?_;rw[<-zaJ D.o2.toList];refine jq (ro:=none) Y m D.c2 (s.sim (o O) (n O)) (ev2 (by omega) (by omega)) fun G5 a5 W5 N ak am X=>?_;have ao:=q O N.inv ak
     obtain⟨v3,g3,s3⟩:=N.env.env 3 _ rfl;simp[aD,Rel,R]at s3;refine ih (k+1) a5 c G5 W5 (by omega) (by omega) ⟨N.env.size,am.trans s.defers,by rw[X 0 (by simp)];exact s.t0,by rw[X 1 (by simp)];exact s.t1,?_⟩ ao;rw[g3,s3];congr 2;omega
    .refine⟨_,rfl,Dy hF D.hn.1 D.hn.2.2 (z _) ?_⟩;obtain⟨s,S⟩:=both true (.bool false)
     change (Code.cond (.tmp 18) .ret .skip).wpIn Fence.wide 0 P _ ((K.put D.y.dst (.bool false)).put D.nt.dst (.bool true)) W'
     refine wpIn_cond_true (by simp[Act.eval,S]) (zc9 ?_);exact fin _ W' s.defers (.inr a2)
 exact round L.length 0 r st G1 M (by omega) (by omega) ac J1
def Inv.m_(hi:Inv (num ns) G w mem sh aa)(hl:w.heap[l]?=some (.loop r))(o':Obj):
   Inv (num ns) G (w.putObj l o') mem sh aa:=by
 have a:∀{b:Nat}{c:Array Value}{t:TypeId},w.heap[b]?=some (.cells c t (0,0))->(w.putObj l o').heap[b]?=some (.cells c t (0,0)):=by
  intro b c t h;rw[zaL]
  .exact h
  .rintro rfl;rw[hl]at h;cases h
 have e:(w.putObj l o').heap.size=w.heap.size:=by simp[World.putObj]
 refine {hi with known:=?_,fresh:=?_,dz:=?_,eD:=?_,dO:=?_,py:=?_}
 .intro b o v d;have h:=hi.known b o v d;rw[<-h];have:b≠l:=by rintro rfl;simp[World.cell?,hl]at h
  simp only[World.cell?,zaL this]
 .intro b g;exact hi.fresh b (by omega)
 .intro k cs d;obtain⟨b,e1,⟨e2,c,t,e3,e4⟩,e5⟩:=hi.dz k cs d;exact⟨b,e1,⟨e2,c,t,a e3,e4⟩,e5⟩
 .intro k cs d;obtain⟨b,e1,⟨e2,o,e3,e4⟩,e5⟩:=hi.eD k cs d;refine⟨b,e1,⟨e2,o,?_,e4⟩,e5⟩;rw[zaL]
  .exact e3
  .rintro rfl
   rw[hl]at e3;cases e3;rcases e4 with⟨_,_,_,_,h,_⟩|⟨_,_,_,h,_⟩<;>cases h
 .intro τ n hn;obtain⟨t,e1,e2,e3⟩:=hi.dO τ n hn;refine⟨t,e1,e2,e3.cap,e3.zero,fun f=>?_⟩;obtain⟨b,o,c,ty,f1,f2,f3,i,f5⟩:=e3.spare f;exact⟨b,o,c,ty,f1,f2,a f3,i,f5⟩
 .intro b c g;obtain⟨h1,t',z,h2⟩:=hi.py b c g;refine⟨h1,t',z,?_⟩;rw[zaL]
  .exact h2
  .rintro rfl;rw[hl]at h2;cases h2
def bZ.putObj(a:bZ G w G' w')(hl:w.heap.size<=l)(o':Obj):bZ G w G' (w'.putObj l o'):=
 { a with
  size:=by simpa[World.putObj]using a.size
  os:=by simpa[World.putObj]using a.os
  tape:=by simpa[World.putObj]using a.tape
  output:=by simpa[World.putObj]using a.output
  eM:=fun b c hr=>by
   obtain⟨h1,h2⟩:=a.eM b c hr;exact⟨h1,by rw[zaL (by omega)];exact h2⟩}
def Inv.wx(hi:Inv (num ns) G w mem sh aa)(o:Obj):Inv (num ns) G (w.alloc o) mem sh aa:=by
 have d:∀{b:Nat}{x:Obj},w.heap[b]?=some x->(w.alloc o).heap[b]?=some x:=by
  intro b x h;have a:=(zaK.1 h).1;rw[zbP _ _ _ a];exact h
 have f:(w.alloc o).heap.size=w.heap.size+1:=zcj _ _;refine {hi with known:=?_,fresh:=?_,dz:=?_,eD:=?_,dO:=?_,py:=?_}
 .intro b o' v e;have h:=hi.known b o' v e;rw[<-h]
  have a:b<w.heap.size:=by
   rcases zbL b w.heap.size with h'|h'
   .exact h'
   .simp[World.cell?,zcI h']at h
  simp only[World.cell?,zbP _ _ _ a]
 .intro b g;exact hi.fresh b (by omega)
 .intro k cs e;obtain⟨b,e1,⟨e2,c,t,e3,e4⟩,e5⟩:=hi.dz k cs e;exact⟨b,e1,⟨e2,c,t,d e3,e4⟩,e5⟩
 .intro k cs e;obtain⟨b,e1,⟨e2,o',e3,e4⟩,e5⟩:=hi.eD k cs e;exact⟨b,e1,⟨e2,o',d e3,e4⟩,e5⟩
 .intro τ n hn;obtain⟨t,e1,e2,e3⟩:=hi.dO τ n hn;refine⟨t,e1,e2,e3.cap,e3.zero,fun a=>?_⟩;obtain⟨b,o,c,ty,f1,f2,f3,i,f5⟩:=e3.spare a;exact⟨b,o,c,ty,f1,f2,d f3,i,f5⟩
 .intro b c g;obtain⟨h1,t',z,h2⟩:=hi.py b c g;exact⟨h1,t',z,d h2⟩
def bZ.wx(a:bZ G w G' w')(o:Obj):bZ G w G' (w'.alloc o):=
 { a with
  size:=by rw[zcj];exact Nat.le_succ_of_le a.size
  os:=a.os
  tape:=a.tape
  output:=a.output
  eM:=fun b c hr=>by
   obtain⟨h1,h2⟩:=a.eM b c hr;exact⟨h1,by rw[zbP _ _ _ (zbF c a.size)];exact h2⟩}
def Dz(b:k<L.length):∃el,L[L.length-1-k]?=some el/\L.zipIdx.reverse.drop k=(el,L.length-1-k)::L.zipIdx.reverse.drop (k+1):=by
 have a:L.length-1-k<L.length:=by omega
 refine⟨L[L.length-1-k],zbf a,?_⟩;have hl:k<L.zipIdx.reverse.length:=by simp;exact b
 rw[zdo hl];congr 1;simp
def ml(fn:FuncId)(tmps:Array Value)(ps:Array Tmp)(x y:Code)(D:Nat)(s:LoopState)(a:Option Code):Loop:={state:=s,pending:=a,fn,tmps,params:=ps,assign:=x,body:=y,defers:=D}
def XX:aX->Code
 | .normal=>.skip
 | .ret=>.ret
 | .exit id=>.exit id
structure BJ(ns:Names)(Gs:Gh)(w:World)(F:St->Option (aX×St))(live:List Nat)(pi px sz:Nat)(ag:Bool)(env0:List (Nat×AV))(L:List PV)(bx:Nat)(l D:Nat)(rec:Loop)(res:aX×St)(k:Nat)(st:St)(G:Gh)(W:World):Prop where
 inv:Inv (num ns) G W st.mem st.sh st.aa
 BI:bZ Gs w G W
 HJ:W.heap[l]?=some (.loop rec)
 rl:G.role l=.eM
 dfr:W.heap[D]?=some (.deferred (some []))
 rd:G.role D=.eM
 box:aD (num ns) G (.et [.ae L]) (.pointer (some ⟨bx,0,none⟩))
 rest:iK F live pi px sz ag env0 (L.zipIdx.reverse.drop k) st=some res
def yP{l:List PV}{O:Value}(hK:G.K.le G'.K)(h:aD (num ns) G (.et l) O):aD (num ns) G' (.et l) O:=by
 simp only[aD]at h⊢;obtain⟨b,o,vs,e,f,r⟩:=h;exact⟨b,o,vs,e,f.mono hK,d9.mono hK _ _ r⟩
def BJ.go{n D:Nat}{t:Nat}
   (h:BJ ns Gs w f live pi px sz ag env0 L bx n D rec res t st G W) (hi:Inv (num ns) G' w' st.mem st.sh st.aa) (a:bZ G W G' w'):BJ ns Gs w f live pi px sz ag env0 L bx n D rec res t st G' w':=by
 have hl:=(zaK.1 h.HJ).1;have hd:=(zaK.1 h.dfr).1;obtain⟨d,c⟩:=a.eM n hl h.rl;obtain⟨b1,b⟩:=a.eM D hd h.rd;exact⟨hi,h.BI.trans a,c.trans h.HJ,d,b.trans h.dfr,b1,yP a.K h.box,h.rest⟩
def BJ.el{n D:Nat}{b:Nat}
   (h:BJ ns Gs w f live pi px sz ag env0 L bx n D rec res b st G W) (a:b<L.length):∃el x,L[L.length-1-b]?=some el/\uq sz ag el=some x:=by
 obtain⟨el,h1,h2⟩:=Dz a;have hr:=h.rest;rw[h2]at hr;simp only[iK]at hr;cases hx:uq sz ag el with
 |none=>rw[hx]at hr;simp at hr
 |some x=>exact⟨el,x,h1,hx⟩
def lf:aX->Exit
 | .normal=>.normal
 | .ret=>.ret
 | .exit id=>.exit id
def Marks.m_{V:Act}(h:Marks n0 G V w)(hl:w.heap[l]?=some (.loop r))(o':Obj):Marks n0 G V (w.putObj l o'):=by
 obtain⟨e0,Ds,e1,e2,e3⟩:=h;refine⟨by simpa[World.putObj]using e0,Ds,e1,e2,fun D b=>?_⟩;obtain⟨c,f1,f2,f3⟩:=e3 D b;refine⟨c,by simpa[World.putObj]using f1,f2,?_⟩;rw[zaL]
 .exact f3
 .rintro rfl;rw[hl]at f3;cases f3
def JX(ns:Names)(Gs:Gh)(w:World)(env0:List (Nat×AV))(l D:Nat)(rec:Option Code->Loop)(res:aX×St)(W':World):Prop:=
 ∃(e:aX)(a:St)(G':Gh),e≠.normal/\res=(e,{a with env:=env0})/\Inv (num ns) G' W' a.mem a.sh a.aa/\bZ Gs w G' W' /\
   W'.heap[l]?=some (.loop (rec (some (XX e))))/\W'.heap[D]?=some (.deferred (some []))/\G'.role D=.eM
def BJ.round{cx B:Code}{H M:St->Option (aX×St)}
   (hX:∀{st c:St}{e:aX}{G:Gh}{a:Act}{w:World}{Q:Exit->Act->World->Prop},H st=some (e,c)->iU (num ns) 0 N G st a w->(∀G' J w',iU (num ns) 0 N G' c J w'->bZ G w G' w'->Q (lf e) J w')->cx.wpIn (uJ (some τ)) 0 P Q a w)
   (hY:∀{st c:St}{e:aX}{G:Gh}{a:Act}{w:World}{Q:Exit->Act->World->Prop},M st=some (e,c)->iU (num ns) 0 N G st a w->(∀G' J w',iU (num ns) 0 N G' c J w'->bZ G w G' w'->Q (lf e) J w')->B.wpIn (uJ (some τ)) 0 P Q a w)
          {D:Nat} {fn:FuncId}      
   (F:∀t x,look env0 t=some x->bB x=true/\∃v,a.tmps[t]?=some v/\aD (num ns) Gs x v) (hN:a.tmps.size=N) (Z:pi<N) (Y:px<N) (hl:w.heap.size<=τ) (hD:w.heap.size<=D) (i:τ≠D)
   (h:BJ ns Gs w (andThen H M) live pi px sz ag env0 L bx τ D (ml fn a.tmps #[pi,px] cx B D .ready none) res k st G W) (hk:k<L.length) {el:PV} {x:AV} {v:Value} (hi:L[L.length-1-k]?=some el) (hx:uq sz ag el=some x) (hv:aD (num ns) G x v):
   YieldAt Fence.wide 0 P τ #[.int .i64 ((L.length-1-k:Nat):Int),v] W fun e W'=>(e=.returned (.bool true)/\∃c G',BJ ns Gs w (andThen H M) live pi px sz ag env0 L bx τ D (ml fn a.tmps #[pi,px] cx B D .ready none) res (k+1) c G' W')\/
     (e=.returned (.bool false)/\JX ns Gs w env0 τ D (ml fn a.tmps #[pi,px] cx B D .done) res W'):=by
 obtain⟨a5,h1,h2⟩:=Dz hk;rw[hi]at h1;cases h1;have hr:=h.rest;rw[h2]at hr;simp only[iK,hx]at hr;refine⟨fn,(a.tmps.setIfInBounds pi (.int .i64 ((L.length-1-k:Nat):Int))).setIfInBounds px v,cx,B,by rw[run_yield h.HJ rfl];simp[ml],roundIn_of_wpIn trivial ?_⟩
 have X:iU (num ns) 0 N G {st with env:=dh (dh env0 pi (.pv (.int .i64 ((L.length-1-k:Nat):Int)))) px x} {tmps:=(a.tmps.setIfInBounds pi (.int .i64 ((L.length-1-k:Nat):Int))).setIfInBounds px v,defers:=[]} W:=by
  refine⟨⟨by simp[hN],fun t y hy=>?_⟩,h.inv,zbB _,[],rfl,by simp,by simp⟩;by_cases e1:px=t
  .subst e1;rw[cB]at hy;cases hy;exact⟨v,by simp[hN,Y],hv⟩
  .rw[b_ _ _ _ _ e1]at hy;by_cases e2:pi=t
   .subst e2;rw[cB]at hy;cases hy;refine⟨.int .i64 ((L.length-1-k:Nat):Int),?_,by simp[aD,Rel,R]⟩;rw[zaA e1];simp[hN,Z]
   .rw[b_ _ _ _ _ e2]at hy;obtain⟨f1,u,f2,f3⟩:=F t y hy;exact⟨u,by rw[zaA e1,zaA e2];exact f2,iL h.BI.K h.BI.sm f1 f3⟩
 obtain⟨G0,V,a1⟩:=X.head live;cases hf:andThen H M (norm (restrict live {st with env:=dh (dh env0 pi (.pv (.int .i64 ((L.length-1-k:Nat):Int)))) px x}))with
 |none=>rw[hf]at hr;simp at hr
 |some q=>
  obtain⟨e,n⟩:=q;rw[hf]at hr;unfold andThen at hf;cases z:H (norm (restrict live {st with env:=dh (dh env0 pi (.pv (.int .i64 ((L.length-1-k:Nat):Int)))) px x}))with
  |none=>rw[z]at hf;simp at hf
  |some q=>
   obtain⟨e1,a3⟩:=q;rw[z]at hf;cases e1 with
   |ret=>simp at hf
   |exit id=>simp at hf
   |normal=>
    simp only at hf;refine hX z V fun G2 a2 W2 s a0=>?_;have d:=a1.trans a0
    have ll:=(zaK.1 h.HJ).1;have ld:=(zaK.1 h.dfr).1;obtain⟨S,f⟩:=d.eM τ ll h.rl;obtain⟨T,A⟩:=d.eM D ld h.rd;rw[h.HJ]at f;rw[h.dfr]at A;have E:=(zaK.1 f).1;have U:=(zaK.1 A).1;refine⟨_,run_beginRound f rfl,?_⟩;refine hY hf ⟨s.env,s.inv.m_ f _,s.marks.m_ f _⟩ fun G4 a4 W4 r j=>?_
    have I:=(h.BI.trans d).putObj hl (.loop {ml fn a.tmps #[pi,px] cx B D .ready none with state:=.busy});have g:=I.trans j;have C:(W2.putObj τ (.loop {ml fn a.tmps #[pi,px] cx B D .ready none with state:=.busy})).heap.size=W2.heap.size:=(by simp[World.putObj]);obtain⟨O,b⟩:=j.eM τ (by rw[C];exact E) S;obtain⟨o,m⟩:=j.eM D (by rw[C];exact U) T;rw[zce E]at b;rw[zaL (zcG i),A]at m;have p:=(zaK.1 b).1;cases e with
    |normal=>
     refine⟨_,_,run_endRound none b,.inl ⟨rfl,n,G4,r.inv.m_ b _,g.putObj hl _,?_,O,?_,o,yP (bA.le_trans (bA.le_trans d.K (bA.le_refl _)) j.K) h.box,hr⟩⟩
     .rw[zce p];rfl
     .rw[zaL (zcG i)];exact m
    |ret=>
     refine⟨_,_,run_endRound (some .ret) b,.inr ⟨rfl,.ret,n,G4,by simp,(zdc hr).symm,r.inv.m_ b _,g.putObj hl _,?_,?_,o⟩⟩
     .rw[zce p];rfl
     .rw[zaL (zcG i)];exact m
    |exit id=>
     refine⟨_,_,run_endRound (some (.exit id)) b,.inr ⟨rfl,.exit id,n,G4,by simp,(zdc hr).symm,r.inv.m_ b _,g.putObj hl _,?_,?_,o⟩⟩
     .rw[zce p];rfl
     .rw[zaL (zcG i)];exact m
theorem HK(hB:jo P ns)(F:lH P ns orc){gb:Nat}(M:∀f,ns.of f=some gb->Nonempty (qZ P ns f sz ag)){cx o:Code}{fx fy:St->Option (aX×St)}
   (hX:∀{l:Nat}{st c:St}{e:aX}{G:Gh}{a:Act}{w:World}{Q:Exit->Act->World->Prop},fx st=some (e,c)->iU (num ns) 0 N G st a w->(∀G' p w',iU (num ns) 0 N G' c p w'->bZ G w G' w'->Q (lf e) p w')->cx.wpIn (uJ (some l)) 0 P Q a w)
   (hY:∀{l:Nat}{st c:St}{e:aX}{G:Gh}{a:Act}{w:World}{Q:Exit->Act->World->Prop},fy st=some (e,c)->iU (num ns) 0 N G st a w->(∀G' p w',iU (num ns) 0 N G' c p w'->bZ G w G' w'->Q (lf e) p w')->o.wpIn (uJ (some l)) 0 P Q a w)
   {t:Nat}  (Y:pi<N) (X:px<N) {c:St} {e:aX}     {Q:Exit->Act->World->Prop}
   (d:fR (andThen fx fy) (look st.env t) gb pi px sz ag live st=some (e,c)) (hs:iU (num ns) n0 N G st a w)
   (hq:∀G' p w',iU (num ns) n0 N G' c p w'->bZ G w G' w'->Q (lf e) p w'):(Code.rangeFunc (.tmp t) #[pi,px] cx o).wpIn Fence.wide 0 P Q a w:=by
 unfold fR at d;split at d
 .rename_i g s u;split at d
  .rename_i hg;subst hg;split at d
   .rename_i L V;split at d
    .rename_i hL;obtain⟨fv,a0,m⟩:=hs.env.env t _ u;simp only[aD,aA]at m;obtain⟨f,vs,I,rfl,ptr,r0,rfl,⟨⟨bx,nx⟩,U,rfl⟩,rfl⟩:=m;obtain⟨D⟩:=M f I;obtain⟨G1,T,k2,k3,k4,k5⟩:=Inv.kill [s] hs.inv;obtain⟨b',a3,e1,e2,e3⟩:=k4 s (by simp) _ V rfl;rw[U]at e1;cases e1
     have O:aD (num ns) G1 (.et [.ae L]) (.pointer (some ⟨bx,0,none⟩)):=by
      simp only[aA,aD]at e3;obtain⟨v,r,rfl,e4,rfl⟩:=e3;simp only[aD];exact⟨bx,0,[v],rfl,e2,by simp only[d9];exact⟨v,[],rfl,e4,rfl⟩⟩
     have n:∀t x,look (iX live st.env) t=some x->bB x=true/\∃v,a.tmps[t]?=some v/\aD (num ns) G1 x v:=by
      intro t x hx;have hm:=qN hx;simp only[iX,zbI]at hm;obtain⟨h1,h2⟩:=fY hm.1;obtain⟨v,h3,h4⟩:=hs.env.env t x h1;exact⟨hm.2,v,h3,h4.mono k2⟩
     refine wpIn_rangeFunc ?_;intro fn _;obtain⟨W1,i⟩:∃W1,(w.alloc (.deferred (some []))).alloc (.loop (ml fn a.tmps #[pi,px] cx o w.heap.size .ready none))=W1:=⟨_,rfl⟩;have s0:(w.alloc (.deferred (some []))).heap.size=w.heap.size+1:=zcj _ _;have s1:W1.heap.size=w.heap.size+1+1:=by rw[<-i,zcj,s0]
     have a1:W1.heap[w.heap.size+1]?=some (.loop (ml fn a.tmps #[pi,px] cx o w.heap.size .ready none)):=by
      rw[<-i];have:=World.alloc_heap_new (w.alloc (.deferred (some []))) (.loop (ml fn a.tmps #[pi,px] cx o w.heap.size .ready none));rwa [zcj]at this
     have a2:W1.heap[w.heap.size]?=some (.deferred (some [])):=by
      rw[<-i,zbP _ _ _ (by omega)];exact World.alloc_heap_new w _
     have i1:Inv (num ns) G1 W1 st.mem (kill st.sh [s]) st.aa:=(by rw[<-i];exact(T.wx _).wx _);have v1:bZ G1 w G1 W1:=by rw[<-i];exact((bZ.refl G1 w).wx _).wx _
     have z:=TD hB F D hL (bx:=bx) (l:=w.heap.size+1) (J:=fun k b G2 W2=>BJ ns G1 w (andThen fx fy) live pi px sz ag (iX live st.env) L bx (w.heap.size+1) w.heap.size (ml fn a.tmps #[pi,px] cx o w.heap.size .ready none) (e,c) k b G2 W2)
       (Jx:=JX ns G1 w (iX live st.env) (w.heap.size+1) w.heap.size (ml fn a.tmps #[pi,px] cx o w.heap.size .done) (e,c))
       (fun h=>h.inv) (fun h hi he=>h.go hi he) (fun h=>h.box) (fun h hk=>h.el hk) (fun h hk hi hx hv=>h.round hX hY n hs.env.size Y X (by omega) (zal _) (by omega) hk hi hx hv)
       (st:={st with sh:=kill st.sh [s]}) (G:=G1) (W:=W1) ⟨i1,v1,a1,T.fresh _ (by omega),a2,T.fresh _ (zal _),O,by rw[zar];exact d⟩
     have q:CallsIn Fence.wide (0-1) P f (#[.func (.yield (w.heap.size+1)) #[] #[]]++#[.pointer (some ⟨bx,0,none⟩)]) W1 (rangePost Fence.wide 0 P (w.heap.size+1) Q {a with defers:=[{target:=.collected w.heap.size,args:=#[]}]++a.defers}):=by
      refine CallsIn.mono z ?_
      have fin:∀(b:St)(G2:Gh)(W2:World)(r:Loop),Inv (num ns) G2 W2 b.mem b.sh b.aa->bZ G1 w G2 W2->W2.heap[w.heap.size+1]?=some (.loop r)->W2.heap[w.heap.size]?=some (.deferred (some []))->G2.role w.heap.size=.eM->c={b with env:=iX live st.env}->
          Q (lf e) {a with defers:=[{target:=.collected w.heap.size,args:=#[]}]++a.defers} (W2.putObj (w.heap.size+1) (.loop {r with state:=.exhausted})):=by
        intro b G2 W2 r S B E C R q6;have ev:=k3.trans (B.putObj (zbC _) (.loop {r with state:=.exhausted}));refine hq G2 _ _ ?_ ev;subst q6;refine⟨⟨hs.env.size,fun t x hx=>?_⟩,S.m_ E _,?_⟩
        .obtain⟨f1,v,f2,f3⟩:=n t x hx;exact⟨v,f2,iL B.K B.sm f1 f3⟩
        .obtain⟨m0,Ds,m1,m2,m3⟩:=hs.marks;refine⟨zaI m0 ev.size,w.heap.size::Ds,by simp[m1],?_,?_⟩
         .rw[zcn];refine⟨fun hm=>?_,m2⟩;exact absurd (m3 _ hm).2.1 (Nat.lt_irrefl _)
         .intro D M;rcases zah.1 M with rfl|M
          .have hd:=(zaK.1 C).1;refine⟨m0,by simpa[World.putObj]using hd,R,?_⟩;rw[zaL (by omega)];exact C
          .obtain⟨f0,f1,f2,f3⟩:=m3 D M;obtain⟨g1,g2⟩:=ev.eM D f1 f2;exact⟨f0,zbF f1 ev.size,g1,g2.trans f3⟩
      rintro _ W' ⟨⟨v,rfl⟩,(⟨b,G2,A⟩|⟨e2,b,G2,Z,iQ,S,B,E,C,R⟩)⟩
      .have hr:=A.rest;rw[za6 (by simp)]at hr;simp only[iK,zag,zaw]at hr;obtain⟨rfl,h2⟩:=hr;exact⟨_,_,run_endLoop A.HJ (by simp[ml]),fin b G2 W' _ A.inv A.BI A.HJ A.dfr A.rd h2.symm⟩
      .simp only[zaw]at iQ;obtain⟨rfl,h2⟩:=iQ;refine⟨_,_,run_endLoop E (by simp[ml]),?_⟩;cases e with
       |normal=>exact absurd rfl Z
       |ret=>exact zc9 (fin b G2 W' _ S B E C R h2)
       |exit id=>exact wpIn_exit (fin b G2 W' _ S B E C R h2)
     have j:(Instr.enterLoop fn a.tmps #[pi,px] cx o Fence.wide.round).run P w=.ok (w.heap.size+1,[{target:=.collected w.heap.size,args:=#[]}]) W1:=by rw[<-i];exact run_enterLoop_outer _ _ _ _ _
     have iQ:(resolve a.eval (rangeCall (.tmp t) (w.heap.size+1)) 0).run P W1=.ok {target:=.fn (.func f) #[.pointer (some ⟨bx,0,none⟩)],args:=#[.func (.yield (w.heap.size+1)) #[] #[]]} W1:=by
      have y:a.eval (.tmp t)=.func (.func f) #[] #[.pointer (some ⟨bx,0,none⟩)]:=(by simp[Act.eval,a0]);simp only[resolve,rangeCall,y];simp[go_sem]
     have H:(invoke (.fn (.func f) #[.pointer (some ⟨bx,0,none⟩)]) #[.func (.yield (w.heap.size+1)) #[] #[]]).run P W1=.ok (.enter f (#[.func (.yield (w.heap.size+1)) #[] #[]]++#[.pointer (some ⟨bx,0,none⟩)])) W1:=by
      simp only[invoke];exact mX hB I _
     exact⟨_,_,W1,_,W1,f,_,W1,j,iQ,fun _ _=>trivial,H,fun h=>absurd h (by simp[Fence.wide]),q⟩
    .simp at d
   .simp at d
  .simp at d
 .simp at d
end
structure mm(P:Program)(ns:Names)(f sz bytes:Nat) where
 fn:Func
 A:nA
 t:TypeId
 el:TypeId
 ty:TypeId
 o0:Oper
 m:Oper
 e:Oper
 o2:Oper
 b:Oper
 m3:Oper
 ap:Oper
 A2:nA
 ag:Bool
 fi:Oper
 r0:Nat
 r1:Nat
 r2:Nat
 r3:Nat
 hf:P.funcs[f]?=some fn
 wv:fn.body=some (.seq (.region r0 #[o0] false) (.seq (.seq (.region r1 #[m,e] false) (.cond (.tmp 4) (.seq (.region r2 #[o2] false) .ret) .skip)) (.seq (.region r3 #[b,m3,ap,fi] false) .ret))):=by kernel_rfl
 iQ:fn.results=#[.tmp 2]:=by kernel_rfl
 hN:fn.ntmps=8:=by kernel_rfl
 h0:o0.op=.assign (.const (.slice none 0 0))/\o0.dst=some 2/\o0.guard=none:=by refine⟨?_,?_,?_⟩<;>kernel_rfl
 h1:m.op=.move (.tmp 0)/\m.dst=some 3/\m.guard=none:=by refine⟨?_,?_,?_⟩<;>kernel_rfl
 h2:e.op=.binOp .eql t (.tmp 3) (.const (.slice none 0 0)) ty/\e.dst=some 4/\e.guard=none:=by refine⟨?_,?_,?_⟩<;>kernel_rfl
 hu:P.underlying t=some (.slice el):=by kernel_rfl
 h3:o2.op=.assign (.const (.slice none 0 0))/\o2.dst=some 2/\o2.guard=none:=by refine⟨?_,?_,?_⟩<;>kernel_rfl
 h4:cp P ns A b.dst b.op=some (.v (.eA sz),[])/\b.dst=some 5/\b.guard=none:=by refine⟨?_,?_,?_⟩<;>kernel_rfl
 h5:m3.op=.move (.tmp 0)/\m3.dst=some 6/\m3.guard=none:=by refine⟨?_,?_,?_⟩<;>kernel_rfl
 h6:cp P ns A ap.dst ap.op=some (.append sz bytes,[.tmp 5,.tmp 6])/\ap.dst=some 7/\ap.guard=none:=by refine⟨?_,?_,?_⟩<;>kernel_rfl
 h8:cp P ns A2 ap.dst ap.op=some (.ei sz bytes ag,[.tmp 5,.tmp 6]):=by kernel_rfl
 h7:fi.op=.assign (.tmp 7)/\fi.dst=some 2/\fi.guard=none:=by refine⟨?_,?_,?_⟩<;>kernel_rfl
section
variable {P:Program} {ns:Names}
variable{F:Fence}{n:Nat}{ops:Array Oper}{Q:Exit->Act->World->Prop}{rest:List Oper}{Y:Oper}{V:Act}{w:World}
def lK{x:Operand}(hF:∀f,F.fn f)(b:Y.op=.assign x)(d:Y.guard=none)
   (h:wpListIn F n P ops Q rest (V.put Y.dst (V.eval x)) w):wpListIn F n P ops Q (Y::rest) V w:=by
 unfold wpListIn;have hw:Region.wanted Y (yielded ops V.tmps)=true:=by simp[Region.wanted,d]
 rw[zai hw];refine⟨fun _ _=>hF _,?_⟩;rw[zck _ _ _ (by intro c e;rw[b]at e;cases e)]
 have hr:(execOp V.eval Y).run P w=.ok (.value (V.eval x)) w:=by
  obtain⟨dst,op,type,pos,after,guard⟩:=Y;simp only at b;subst b;simp[execOp]
 rw[hr];exact h
def qg{G:Gh}{A:nA}{k:AK}{args:List Operand}(l:Y.guard=none){orc:fQ}(g:cp P ns A Y.dst Y.op=some (k,args))(j:k.calls=false)
   {vals:List AV} {out:Out} {mem:List (Nat×List AV)} {sh:Sh} {aa:aH} (b:k.key=none) (hr:aA (num ns) G vals (args.map V.eval)) (hi:Inv (num ns) G w mem sh aa) (h:exec orc k vals none sh aa=some out)
   (hn:∀v w' G',aD (num ns) G' out.val v->Inv (num ns) G' w' mem out.sh out.aa->G.le G'->bZ G w G' w'->wpListIn Fence.wide n P ops Q rest (V.put Y.dst v) w'):wpListIn Fence.wide n P ops Q (Y::rest) V w:=by
 unfold wpListIn;have hw:Region.wanted Y (yielded ops V.tmps)=true:=by simp[Region.wanted,l]
 rw[zai hw];have d:∀c,Y.op≠.defer c:=by intro c e;rw[e]at g;simp[cp]at g
 refine IV (ro:=none) d ?_;obtain⟨m,v,w',G',g1,g2,i,g4,g5,g6⟩:=tD (orc:=orc) (mem:=mem) g j hr hi (by rw[b];exact h);have f:Inv (num ns) G' w' mem out.sh out.aa:=by rw[b]at g4;exact g4
 unfold Oper.wp;rw[g1];rcases g2 with rfl|⟨rfl,rfl⟩
 .exact hn v w' G' i f g5 g6
 .exact hn undef w' G' i f g5 g6
def HL{t el ty:TypeId}{base:Option Addr}{len cap:Nat}(hF:∀f,F.fn f)
   (b:Y.op=.binOp .eql t (.tmp 3) (.const (.slice none 0 0)) ty) (g:Y.guard=none) (hu:P.underlying t=some (.slice el)) (h3:V.tmps[3]?=some (.slice base len cap))
   (h:wpListIn F n P ops Q rest (V.put Y.dst (.bool base.isNone)) w):wpListIn F n P ops Q (Y::rest) V w:=by
 unfold wpListIn;have hw:Region.wanted Y (yielded ops V.tmps)=true:=by simp[Region.wanted,g]
 rw[zai hw];refine⟨fun _ _=>hF _,?_⟩;rw[zck _ _ _ (by intro c e;rw[b]at e;cases e)];have e3:V.eval (.tmp 3)=.slice base len cap:=by simp[Act.eval,h3]
 have j:V.eval (.const (.slice none 0 0))=.slice none 0 0:=rfl
 have i:(Op.equal t (.slice base len cap) (.slice none 0 0)).run P w=.ok base.isNone w:=by
  have h:∀d:Nat,(Op.equalIn (d+1) t (.slice base len cap) (.slice none 0 0)).run P w=.ok base.isNone w:=fun d=>by
   cases base<;>simp[Op.equalIn,zaR hu]
  exact h 9999
 have hr:(execOp V.eval Y).run P w=.ok (.value (.bool base.isNone)) w:=by
  obtain⟨dst,op,type,pos,after,guard⟩:=Y;simp only at b;subst b;simp only[execOp,e3,j];simp[eqGuard,binOp,i]
 rw[hr];exact h
def DA{N sz bytes:Nat}(D:mm P ns N sz bytes):NT P ns N sz bytes:=by
 intro t G w mem sh sh' aa toks' x y v hi hx d;refine callsIn_wide (n:=0).1 ?_;refine callsIn_of_wp D.hf D.wv trivial ?_ rfl;rw[D.hN];have hF:∀N,Fence.wide.fn N:=fun _=>trivial
 let orc:fQ:={p:=fun _ _=>none,i:=fun _ _ _ _=>none}
 have fin:∀(a:Act)(w':World)(u:Value)(G':Gh),a.defers=[]->a.tmps[2]?=some u->aD (num ns) G' y u->Inv (num ns) G' w' mem sh' toks'->G.le G'->bZ G w G' w'->
     a.defers=[]/\∃v,(results D.fn a.tmps).run P w'=.ok v w'/\∃u G',Ending.returned v=.returned u/\aD (num ns) G' y u/\Inv (num ns) G' w' mem sh' toks'/\G.le G'/\bZ G w G' w':=by
   intro a w' u G' hd h2 r1 r2 r3 H;refine⟨hd,u,?_,u,G',rfl,r1,r2,r3,H⟩;simp[results,D.iQ,h2]
 obtain⟨els,g⟩:∃els,dG x=some els:=by
  cases I:dG x with
  |none=>cases t<;>simp[ij,cz,I]at d
  |some els=>exact⟨els,rfl⟩
 obtain⟨base,cap,rfl⟩:=nT g hx;refine zb3 (zbp ?_);refine lK hF D.h0.1 D.h0.2.2 ?_;rw[D.h0.2.1];simp only[wpListIn];refine zb3 (zb3 (zbp ?_));refine sD hF D.h1.1 D.h1.2.2 ?_;rw[D.h1.2.1];refine HL (base:=base) (len:=els.length) (cap:=cap) hF D.h2.1 D.h2.2.2 D.hu (by simp[Act.put,Act.eval]) ?_;rw[D.h2.2.1];simp only[wpListIn];cases base with
 |none=>
  refine wpIn_cond_true (by simp[Act.put,Act.eval]) ?_;refine zb3 (zbp ?_);refine lK hF D.h3.1 D.h3.2.2 ?_;rw[D.h3.2.1];simp only[wpListIn];refine zc9 ?_
  have hn:els=[]:=by
   have:=f_ g hx;obtain⟨b,l,c,e,_,e2⟩:=cJ.1 this;cases e;rcases e2.2 with h|⟨_,_,_,h,_⟩
   .exact h
   .cases h
  subst hn
  obtain⟨rfl,rfl,rfl⟩:AV.dm []=y/\sh=sh'/\aa=toks':=by
   cases t with
   |none=>simpa[ij,cz,g,bj]using d
   |some ag=>simpa[ij,uj,g,bj]using d
  exact fin _ _ (.slice none 0 0) G (by simp[Act.put]) (by simp[Act.put,Act.eval]) (by simp only[aD];exact⟨none,0,rfl,rfl,.inl rfl⟩) hi G.le_refl (bZ.refl G w)
 |some ad=>
  refine zdn (by simp[Act.put,Act.eval]) (wpIn_skip ?_);refine zb3 (zbp ?_);refine qg (orc:=orc) (out:=⟨.dm [],none,sh,aa⟩) D.h4.2.2 D.h4.1 rfl rfl (vals:=[]) (by simp[aA]) hi (by rfl) fun K J G1 E C q B=>?_;rw[D.h4.2.1];refine sD hF D.h5.1 D.h5.2.2 ?_;rw[D.h5.2.1];cases t with
  |none=>
   simp only[ij,zac,zaw]at d;obtain⟨⟨r,ts'⟩,d,rfl,rfl,rfl⟩:=d;refine qg (orc:=orc) (out:=⟨r,none,sh,ts'⟩) D.h6.2.2 D.h6.1 rfl rfl (vals:=[.dm [],x]) (mem:=mem) (sh:=sh) (aa:=aa) ?_ C (by simp only[exec,d,zaZ]) fun s F A p1 p2 p3 p4=>?_
   .simp only[zan,zbc,aA];refine⟨_,_,rfl,?_,_,_,rfl,?_,rfl⟩
    .simpa[Act.put,Act.eval]using E
    .simpa[Act.put,Act.eval]using hx.mono q
   rw[D.h6.2.1];refine lK hF D.h7.1 D.h7.2.2 ?_;rw[D.h7.2.1];simp only[wpListIn];refine zc9 ?_;exact fin _ _ s A (by simp[Act.put]) (by simp[Act.put,Act.eval]) p1 p2 (Gh.le_trans q p3) (B.trans p4)
  |some ag=>
   simp only[ij,g]at d;rw[zab]at d;obtain⟨z,d⟩:=d;simp only[zac,zaw]at d;obtain⟨⟨r,k⟩,d,rfl,rfl,rfl⟩:=d
   obtain⟨o,m,j⟩:∃o,uj sz bytes D.ag (.dm []) els sh=some (o,k)/\∀G' u,aD (num ns) G' o u->aD (num ns) G' r u:=by
    unfold uj at d⊢;split at d
    .rename_i h0;rw[zai h0];cases d;exact⟨_,rfl,fun _ _ h=>h⟩
    .rename_i h0;rw[zad h0];simp only[zab,zag,zaw]at d;obtain⟨h1,rfl,rfl⟩:=d;rw[zai h1];exact⟨_,rfl,fun _ _ h=>by simpa only[aD]using h⟩
   refine qg (orc:=orc) (out:=⟨o,none,k,aa⟩) D.h6.2.2 D.h8 rfl rfl (vals:=[.dm [],x]) (mem:=mem) (sh:=sh) (aa:=aa) ?_ C (by simp only[exec,g,z,za4,um,m,zaZ]) fun s F A p1 p2 p3 p4=>?_
   .simp only[zan,zbc,aA];refine⟨_,_,rfl,?_,_,_,rfl,?_,rfl⟩
    .simpa[Act.put,Act.eval]using E
    .simpa[Act.put,Act.eval]using hx.mono q
   rw[D.h6.2.1];refine lK hF D.h7.1 D.h7.2.2 ?_;rw[D.h7.2.1];simp only[wpListIn];refine zc9 ?_;exact fin _ _ s A (by simp[Act.put]) (by simp[Act.put,Act.eval]) (j _ _ p1) p2 (Gh.le_trans q p3) (B.trans p4)
end
end Go.Ab
namespace Go.Ab
section
variable {P:Program} {ns:Names} {G:Gh} {w:World}
end
section
variable {n0:Nat} {P:Program} {ns:Names} {ro:Option Nat} {n:Nat}
def yK{orc:fQ}{o:d8}{st Z:St}(h:eC orc o st=some Z){t:Nat}(ht:o.dst≠some t):look Z.env t=look st.env t:=by
 rw[eF,zac]at h;obtain⟨r,_,rfl⟩:=h;simp only[fc];rw[zad ht]
end
end Go.Ab
