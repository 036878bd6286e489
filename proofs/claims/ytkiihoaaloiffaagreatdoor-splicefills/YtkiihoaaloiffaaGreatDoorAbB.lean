import Derived.Test.YtkiihoaaloiffaaGreatDoorAbA
import Derived.Orders
import Derived.Tactics
import Derived.OrdersIn
import Derived.TacticsIn
import Derived.LoopNIn
import Derived.RangeFuncCalls
import Derived.RangeFuncIn
import Derived.RangeFuncRecord
import Derived.RangeFuncSeq
/- The abstract machine, and that the code of the model does what its slim code says. -/
set_option linter.defProp false
set_option linter.unusedVariables false
set_option linter.unusedSimpArgs false
set_option linter.unnecessarySimpa false
set_option maxRecDepth 100000
set_option maxHeartbeats 8000000
namespace Go.Ab
def zbe:=@List.getElem?_eq_getElem
def zaJ:=@List.map_nil
def zcN:=@List.mem_of_getElem?
def zcv:=@Bool.true_and
def zcc:=@List.mem_cons_of_mem
def zcT:=@Bool.and_self
def za1:=@Array.getElem?_setIfInBounds_ne
def zbs:=@Bool.or_eq_true
def zc1:=@Bool.not_eq_true'
def zcJ:=@Go.mem_ready
def zc6:=@Go.callsIn_wide
def zcX:=@Go.Oper.semAt_eq
def za8:=@Go.wpIn_region_list
def zbt:=@Nat.le_max_right
def zbz:=@Nat.le_max_left
def zbF:=@Go.wpIn_seq
end Go.Ab
namespace Go.Ab
section
variable {P:Program} {ns:Names} {G:Gh} {w:World}
def HW(K:bt)(w:World):Prop:=∀b o v,K b o=some v->w.cell? ⟨b,o,none⟩=some v
def rD(p:Nat->Option (Array Value))(w:World):Prop:=∀b c,p b=some c->∃t z,w.heap[b]?=some (.cells c t z)
def rD.below{p:Nat->Option (Array Value)}{w w':World}(h:rD p w)(a:RowKit.Below w.heap.size w w'):rD p w':=fun b c e=>by
 obtain⟨t,z,h1⟩:=h b c e;exact⟨t,z,(a.block b (zaW.1 h1).1).trans h1⟩
def iJ(K:bt)(rs:List PV)(v:Value):Prop:=
 match rs with
 |[r]=>Rel K r v
 |rs=>∃vs:List Value,v=.tuple vs.toArray/\kG K rs vs
def dJ(ρ:bX)(G:Gh)(rs:List AV)(v:Value):Prop:=
 match rs with
 |[r]=>aD ρ G r v
 |rs=>∃vs:List Value,v=.tuple vs.toArray/\aC ρ G rs vs
def xy(P:Program)(ns:Names)(f:FuncId)(dN rs:List PV):Prop:=
 ∀(K:bt)(w:World)(vs:List Value),rD ns.mP w->HW K w->kG K dN vs->
   Calls P f vs.toArray w fun e w'=>∃v K',e=.returned v/\iJ K' rs v/\K.le K'/\(∀b o u,b<w.heap.size->K' b o=some u->K b o=some u)/\HW K' w'/\RowKit.Below w.heap.size w w'
def aaF(P:Program)(ns:Names)(f:FuncId)(args:List AV)(ts:aF)(rs:List AV)(sh sh':Sh)(ts':aF):Prop:=
 ∀(G:Gh)(w:World)(vs:List Value),Inv (num ns) G w [] sh ts->aC (num ns) G args vs->
   Calls P f vs.toArray w fun e w'=>∃v G',e=.returned v/\dJ (num ns) G' rs v/\Inv (num ns) G' w' [] sh' ts'/\bY G w G' w'
def Na(P:Program)(ns:Names)(f sz bytes:Nat):Prop:=
 ∀(o:Option Bool)(G:Gh)(w:World)(mem:List (Nat×List AV))(sh sh':Sh)(aa toks':aF)(x y:AV)(v:Value),Inv (num ns) G w mem sh aa->aD (num ns) G x v->gA o sz bytes x sh aa=some (y,sh',toks')->
   Calls P f #[v] w fun e w'=>∃u G',e=.returned u/\aD (num ns) G' y u/\Inv (num ns) G' w' mem sh' toks'/\G.le G'/\bY G w G' w'
structure iD(P:Program)(ns:Names)(orc:eY):Prop where
 p:∀g f dN rs,ns.of f=some g->orc.p g dN=some rs->xy P ns f dN rs
 i:∀g f args ts rs sh sh' ts',ns.of f=some g->args.all bU=true->orc.i g args sh ts=some (rs,sh',ts')->aaF P ns f args ts rs sh sh' ts'/\rs.all bU=true
 c:∀g sz bytes f,look ns.cl g=some (sz,bytes)->ns.of f=some g->Na P ns f sz bytes
def fy (P:Program) (ns:Names):Prop:=∀f g,ns.of f=some g→∃fn b,P.funcs[f]?=some fn∧fn.body=some b∧fn.name ≠ "runtime.NumGoroutine"
def qh{f:FuncId}{g:Nat}(a:fy P ns)(hf:ns.of f=some g)(args:Array Value):(callFunc f args).run P w=.ok (.enter f args) w:=by
 obtain⟨fn,b,h1,h2,h3⟩:=a f g hf;simp[callFunc,h1,h2,h3]
mutual
theorem og{ρ:bX}{G':Gh}(hK:G.K.le G'.K)(hs:∀s b,G.sm s=some b->G'.sm s=some b):∀{x:AV}{v:Value},ca x=true->aD ρ G x v->aD ρ G' x v
 | .pv p,_,_,h=>by simp only[aD]at h⊢;exact h.mono hK
 | .aV s o,_,_,h=>by simp only[aD]at h⊢;obtain⟨b,e,r⟩:=h;exact⟨b,hs _ _ e,r⟩
 | .aP s _ n _,_,_,h=>by simp only[aD]at h⊢;obtain⟨b,c,e,r⟩:=h;exact⟨b,c,hs _ _ e,r⟩
 | .ia,_,_,h=>by simpa only[aD]using h
 | .jL s,_,_,h=>by simp only[aD]at h⊢;obtain⟨b,e,r⟩:=h;exact⟨b,hs _ _ e,r⟩
 | .ri ..,_,hp,_=>by simp[ca]at hp
 | .fH _,_,_,h=>by simp only[aD]at h
 | .fn g cap,_,hp,h=>by
  simp only[ca]at hp;simp only[aD]at h⊢;obtain⟨f,vs,e1,e2,r⟩:=h;exact⟨f,vs,e1,e2,rE hK hs hp r⟩
 | .un,_,hp,_=>by simp[ca]at hp
 | .dr _,_,_,h=>by simp only[aD]at h⊢;obtain⟨b,l,e,r⟩:=h;exact⟨b,l,e,r.mono hK⟩
 | .own _ _,_,hp,_=>by simp[ca]at hp
 | .agg _,_,hp,h=>by
  simp only[ca]at hp;simp only[aD]at h⊢;obtain⟨vs,e,r⟩:=h;exact⟨vs,e,rE hK hs hp r⟩
 | .rf _,_,hp,_=>by simp[ca]at hp
 | .au _ _,_,hp,_=>by simp[ca]at hp
 | .h_ _,_,hp,_=>by simp[ca]at hp
theorem rE{ρ:bX}{G':Gh}(hK:G.K.le G'.K)(hs:∀s b,G.sm s=some b->G'.sm s=some b):∀{xs:List AV}{vs:List Value},ca.jq xs=true->aC ρ G xs vs->aC ρ G' xs vs
 |[],_,_,h=>by simpa only[aC]using h
 |x::xs,_,hp,h=>by
  simp only[ca.jq,zah]at hp;simp only[aC]at h⊢;obtain⟨v,r,e,e1,e2⟩:=h;exact⟨v,r,e,og hK hs hp.1 e1,rE hK hs hp.2 e2⟩
end
def Inv.pure{K':bt}{w1:World}{mem:List (Nat×List AV)}{sh:Sh}{aa:aF}(hi:Inv (num ns) G w mem sh aa)(hK:G.K.le K')(a:∀b o u,b<w.heap.size->K' b o=some u->G.K b o=some u)
   (m:HW K' w1) (g:RowKit.Below w.heap.size w w1):Inv (num ns) {G with K:=K'} w1 mem sh aa/\G.le {G with K:=K'}/\bY G w {G with K:=K'} w1:=by
 have l:G.le {G with K:=K'}:=⟨hK,fun _ _ h=>h,fun _ _ h=>h,fun _ t h=>⟨t,h,⟨zas _,t.iP⟩,fun _=>rfl⟩⟩
 have k:bY G w {G with K:=K'} w1:={
           size:=g.size,os:=g.os,tape:=g.tape,output:=g.output,K:=hK,sm:=fun _ _ h=>h,
           fe:=fun b h hr=>⟨hr,g.block b h⟩,jt:=fun b τ _ hr=>.inr ⟨τ,hr⟩,iG:=fun b o v h _ f=>a b o v h f}
 refine⟨⟨m,?_,?_,?_,hi.iu,?_,hi.fu,?_,hi.gF,hi.jj k⟩,l,k⟩
 .intro b o v f;by_cases h:b<w.heap.size
  .exact hi.bm b o v (a b o v h f)
  .exact .inl (hi.fresh b (by omega))
 .intro b h;have:=g.size;exact hi.fresh b (by omega)
 .intro d cs hd;obtain⟨b,e1,e2,e3⟩:=hi.di d cs hd;have e:b<w.heap.size:=by obtain⟨_,_,_,p,_⟩:=e2;exact db p
  exact⟨b,e1,e2.mono l rfl (g.block b e),e3⟩
 .intro s cs hs;obtain⟨b,e1,e2,e3⟩:=hi.dH s cs hs;have e:b.1<w.heap.size:=e2.lt;exact⟨b,e1,e2.mono l rfl (g.block b.1 e),e3⟩
 .intro τ n hn;obtain⟨t,e1,e2,e3⟩:=hi.dV τ n hn;refine⟨t,e1,e2,e3.cap,e3.zero,fun e=>?_⟩;obtain⟨b,o,c,ty,f1,f2,f3,r,q⟩:=e3.spare e;have i:=db f3;exact⟨b,o,c,ty,f1,f2,(g.block b i).trans f3,r,fun j v f=>q j v (a b j v i f)⟩
end
end Go.Ab
namespace Go.Ab
section
variable {P:Program} {ns:Names} {G:Gh} {w:World}
def Gh.freeze(G:Gh)(b:Nat)(c:Array Value):Gh:=
 {G with K:=fun k o=>if k=b then c[o]? else G.K k o,role:=fun k=>if k=b then .fe else G.role k}
def Inv.freeze{mem:List (Nat×List AV)}{sh:Sh}{aa:aF}(hi:Inv (num ns) G w mem sh aa){s b:Nat}{cells:List AV}{c:Array Value}{t:TypeId}
   (hr:G.role b=.shr s) (u:w.heap[b]?=some (.cells c t (0,0))):
   Inv (num ns) (G.freeze b c) w mem (sh.set s none) aa/\G.le (G.freeze b c)/\bY G w (G.freeze b c) w:=by
 have hK:G.K.le (G.freeze b c).K:=fun k o v a=>by
  simp only[Gh.freeze];rw[zai]
  .exact a
  .rintro rfl
   rcases hi.bm _ _ _ a with h|⟨τ,h⟩<;>rw[hr]at h<;>simp at h
 have l:G.le (G.freeze b c):=⟨hK,fun _ _ h=>h,fun _ _ h=>h,fun _ t h=>⟨t,h,⟨zas _,t.iP⟩,fun _=>rfl⟩⟩
 have f:∀k r,G.role k=r->r≠.shr s->(G.freeze b c).role k=r:=by
  intro k r a hn;simp only[Gh.freeze];rw[zai]
  .exact a
  .rintro rfl;exact hn (a.symm.trans hr)
 have i:bY G w (G.freeze b c) w:={
           size:=zas _,os:=rfl,tape:=rfl,output:=rfl,K:=hK,sm:=fun _ _ h=>h,
           fe:=fun k _ a=>⟨f k _ a (by simp),rfl⟩
           jt:=fun k τ _ a=>.inr ⟨τ,f k _ a (by simp)⟩
           iG:=fun k o v _ a m=>by
            simp only[Gh.freeze]at m
            rwa [zai (by rintro rfl;rw[hr]at a;simp at a)]at m}
 refine⟨⟨?_,?_,?_,?_,hi.iu,?_,?_,?_,hi.gF,hi.jj i⟩,l,i⟩
 .intro k o v a;simp only[Gh.freeze]at a;split at a
  .rename_i e;subst e;simp[World.cell?,u,a]
  .exact hi.known k o v a
 .intro k o v a;simp only[Gh.freeze]at a;split at a
  .rename_i e;subst e;left;simp[Gh.freeze]
  .rename_i e;simp only[Gh.freeze,zai e];exact hi.bm k o v a
 .intro k a;simp only[Gh.freeze];split
  .rfl
  .exact hi.fresh k a
 .intro d cs hd;obtain⟨b',e1,e2,e3⟩:=hi.di d cs hd;exact⟨b',e1,e2.mono l ((f b' _ e2.role (by simp)).trans e2.role.symm) rfl,e3⟩
 .intro s' cs g;rw[zaA]at g;split at g
  .split at g<;>simp at g
  .rename_i p;obtain⟨b',e1,e2,e3⟩:=hi.dH s' cs g;exact⟨b',e1,e2.mono l ((f b'.1 _ e2.role (by simp;exact fun h=>p h.symm)).trans e2.role.symm) rfl,e3⟩
 .intro s' b' h;simpa using hi.fu s' b' h
 .intro τ n hn;obtain⟨tk,e1,e2,e3⟩:=hi.dV τ n hn;refine⟨tk,e1,e2,e3.cap,e3.zero,fun q=>?_⟩;obtain⟨b',o,z,ty,f1,f2,f3,y,x⟩:=e3.spare q;refine⟨b',o,z,ty,f1,f b' _ f2 (by simp),f3,y,fun j v a=>x j v ?_⟩;simp only[Gh.freeze]at a
  rwa [zai (by rintro rfl;rw[hr]at f2;simp at f2)]at a
def lf(ns:Names)(G G':Gh)(sh:Sh)(ks:List Nat):Prop:=
 ∀s∈ks,∀cells,sh[s]?=some (some cells)->bW cells=false->∃b vs,G.sm s=some b/\At G'.K b.1 0 vs/\aC (num ns) G' cells vs
def BC{sh:Sh}{s:Nat}(h:∀cells,sh[s]?≠some (some cells)):sh.set s none=sh:=by
 apply zcb
 intro j;rw[zaA];split
 .rename_i e;subst e;split
  .rename_i a;cases b:sh[s]with
   |none=>rw[zbe a,b]
   |some cells=>exact absurd (by rw[zbe a,b]) (h cells)
  .rename_i c;rw[za4 (by omega)]
 .rfl
def Inv.drop{mem:List (Nat×List AV)}{sh:Sh}{aa:aF}{G:Gh}(hi:Inv (num ns) G w mem sh aa)(s:Nat):Inv (num ns) G w mem (sh.set s none) aa:=
 { hi with
  dH:=fun s' cells hs=>by
   rw[zaA]at hs;split at hs
   .split at hs<;>simp at hs
   .exact hi.dH s' cells hs
  fu:=fun s' b h=>by simpa using hi.fu s' b h}
def Inv.kill{mem:List (Nat×List AV)}{aa:aF}:∀(ks:List Nat){sh:Sh}{G:Gh},Inv (num ns) G w mem sh aa->
   ∃G',Inv (num ns) G' w mem (kill sh ks) aa/\G.le G'/\bY G w G' w/\lf ns G G' sh ks/\G'.sm=G.sm
 |[],sh,G,hi=>⟨G,hi,G.le_refl,bY.refl G w,fun s h=>by simp at h,rfl⟩
 |s::ks,sh,G,hi=>by
  have n:Go.Ab.kill sh (s::ks)=Go.Ab.kill (sh.set s none) ks:=rfl;by_cases hs:∃cells,sh[s]?=some (some cells)
  .obtain⟨cells,hs⟩:=hs;obtain⟨b,e1,e2,_⟩:=hi.dH s cells hs;cases l:bW cells with
   |true=>
    obtain⟨G',h1,h2,h3,h4,h5⟩:=Inv.kill ks (hi.drop s);refine⟨G',by rw[n];exact h1,h2,h3,?_,h5⟩;intro s' a cells' d f;by_cases g:s'=s
    .subst g;rw[hs]at d;cases d;rw[l]at f;cases f
    .simp only[zau]at a;exact h4 s' (a.resolve_left g) cells' (by rw[zaA,zai (fun e=>g e.symm)];exact d) f
   |false=>
   obtain⟨hr,c,t,vs,suf,o,_,m,k⟩:=e2.cells l;obtain⟨g1,g2,p⟩:=hi.freeze (cells:=cells) hr o;obtain⟨G',h1,h2,h3,h4,h5⟩:=Inv.kill ks g1;refine⟨G',by rw[n];exact h1,Gh.le_trans g2 h2,p.trans h3,?_,h5⟩;intro s' a cells' d f;by_cases g:s'=s
   .subst g;rw[hs]at d;cases d;refine⟨b,vs,e1,?_,aC.mono (Gh.le_trans g2 h2) k⟩;intro j v hj;apply h2.K;simp only[Gh.freeze,zbc,zbi];have:c.toList[j]?=some v:=by rw[m,zar (zaa.1 hj).1];exact hj
    simpa using this
   .simp only[zau]at a;have:=h4 s' (a.resolve_left g) cells' (by rw[zaA,zai (fun e=>g e.symm)];exact d) f;exact this
  .have i:=BC (sh:=sh) (s:=s) (fun cells h=>hs ⟨cells,h⟩);obtain⟨G',h1,h2,h3,h4,h5⟩:=Inv.kill ks hi;refine⟨G',by rw[n,i];exact h1,h2,h3,?_,h5⟩;intro s' a cells' d f;simp only[zau]at a;rcases a with rfl|a
   .exact absurd ⟨cells',d⟩ hs
   .exact h4 s' a cells' d f
theorem Jy{cs:List AV}{ps:List PV}(h:eX cs=some ps):bW cs=false:=by
 cases cs with
 |nil=>rfl
 |cons c cs=>cases c<;>first|rfl|simp[eX,l6]at h
def BD:∀{cs:List AV}{ps:List PV}{vs:List Value},eX cs=some ps->cs.all aY=true->aC (num ns) G cs vs->dO G.K ps vs
 |[],ps,vs,h,_,hr=>by simp[eX]at h;subst h;simp only[aC]at hr;simp[dO,hr]
 |c::cs,ps,vs,h,hl,hr=>by
  simp only[eX]at h;simp only[zaQ,zah]at hl;split at h
  .rename_i p a h1 h2;simp at h;subst h;simp only[aC]at hr;obtain⟨v,r,rfl,e1,e2⟩:=hr;simp only[dO];exact⟨v,r,rfl,(qe h1 e1).M6 (ry h1 hl.1),BD h2 hl.2 e2⟩
  .simp at h
def xz{K:bt}{b sz:Nat}:∀(n:Nat){ps:List PV}{vs:List Value}{o:Nat},dO K ps vs->ps.length=n*sz->At K b o vs->Row K b o sz ((chunk sz n ps).map .agg)
 |0,_,_,_,_,_,_=>by simp only[chunk,zaJ,Row]
 |n+1,ps,vs,o,hr,hl,a=>by
  have c:=hr.length;rw[zaI]at hl;simp only[chunk,zal,Row];refine⟨⟨vs.take sz,by simp;omega,?_,?_⟩,xz n (dO.drop sz hr) (by simp;omega) ?_⟩
  .intro j v hj;rw[zb7]at hj;split at hj
   .exact a j v hj
   .simp at hj
  .simp only[R];exact⟨trivial,dO.take sz hr⟩
  .intro j v hj;rw[zb8]at hj;have:=a _ v hj
   rwa [<-zbN]at this
theorem qi{sz:Nat}:∀(n:Nat)(ps:List PV),(chunk sz n ps).length=n
 |0,_=>rfl
 |n+1,ps=>by simp[chunk,qi n]
def uS{K:bt}{b:Nat}:∀{ps:List PV}{vs:List Value}{o:Nat},dO K ps vs->At K b o vs->Row K b o 1 ps
 |[],_,_,_,_=>by simp only[Row]
 |p::ps,vs,o,hr,a=>by
  simp only[dO]at hr;obtain⟨v,r,rfl,e1,e2⟩:=hr;simp only[Row];refine⟨⟨[v],rfl,?_,R.top e1⟩,uS e2 ?_⟩
  .intro j u hj;cases j with
   |zero=>simp at hj;subst hj;exact a 0 v rfl
   |succ j=>simp at hj
  .intro j u hj;have:=a (j+1) u (by simpa using hj)
   rwa [show o+(j+1)=o+1+j from by omega]at this
def Nb{l:List AV}(n:Nat)(h:l.all aY=true):(l.take n).all aY=true:=by
 rw[zaq]at h⊢;exact fun x hx=>h x (zbd hx)
def qj{G':Gh}{sh:Sh}{ks:List Nat}{x:AV}{p:PV}{v:Value}(i:G.le G')(hf:lf ns G G' sh ks)(hl:∀(s:Nat)(cells:List AV),sh[s]?=some (some cells)->cells.all aY=true)
   (l:∀s∈eA x,s∈ks) (hx:∀cs,x≠.agg cs) (h:d4 sh x=some p) (hr:aD (num ns) G x v):Rel G'.K p v:=by
 cases x with
 |aP s sz n ag=>
  simp only[d4]at h;split at h
  .rename_i cells hc
   have key:∀ps els,eX (cells.take (n*sz))=some ps->bW cells=false->n*sz<=cells.length->d9 sz ag n ps=some els->Rel G'.K (.aq els) v:=by
    intro ps els h1 d a h2;obtain⟨b,vs,e1,e2,e3⟩:=hf s (l s (by simp[eA])) cells hc d;simp only[aD]at hr;obtain⟨b',cap,k,rfl,_⟩:=hr;rw[e1]at k;cases k;have e:aC (num ns) G' (cells.take (n*sz)) (vs.take (n*sz)):=e3.take _
    have f:At G'.K b.1 0 (vs.take (n*sz)):=by
     intro j u hj;rw[zb7]at hj;split at hj
     .exact e2 j u hj
     .simp at hj
    have c:=BD h1 (Nb _ (hl s cells hc)) e;have g:ps.length=n*sz:=(by rw[<-c.length,e.length,zbk];omega);unfold d9 at h2;split at h2
    .simp at h2;subst h2;refine cq.2 ⟨_,_,_,rfl,by omega,by simp[qi],.inr ⟨b.1,0,sz,rfl,xz n c g f⟩⟩
    .simp only[zab,zag]at h2;obtain⟨rfl,rfl⟩:=h2;exact cq.2 ⟨_,_,_,rfl,by omega,by omega,.inr ⟨b.1,0,1,rfl,uS c f⟩⟩
   split at h
   .rename_i a;simp only[zac,zaF]at h;obtain⟨els,⟨ps,h1,h2⟩,rfl⟩:=h;exact key ps els (by rw[zaf (by omega)];exact h1) (Jy h1) (by omega) h2
   .simp only[zab,zac,zaF]at h;obtain⟨⟨d,a⟩,els,⟨ps,h1,h2⟩,rfl⟩:=h;exact key ps els h1 d a h2
  .simp at h
 |agg cs=>exact absurd rfl (hx cs)
 |_=>simp only[d4]at h;exact(qe h hr).mono i.K
def wW{sh:Sh}{x:AV}{p:PV}(h:d4 sh x=some p)(hl:aY x=true):dT p=true:=by
 cases x with
 |aP s sz n ag=>
  simp only[d4]at h;split at h
  .split at h
   .simp only[zac]at h;obtain⟨els,_,rfl⟩:=h;rfl
   .simp only[zab,zac]at h;obtain⟨_,els,_,rfl⟩:=h;rfl
  .simp at h
 |_=>simp only[d4]at h;exact ry h hl
def zc{x:AV}(h:aY x=true):∀cs,x≠.agg cs:=by
 rintro cs rfl;simp[aY]at h
def ml{G':Gh}{sh:Sh}{ks:List Nat}(b:G.le G')(hf:lf ns G G' sh ks)(hl:∀(s:Nat)(cells:List AV),sh[s]?=some (some cells)->cells.all aY=true):
   ∀{cs:List AV}{ps:List PV}{vs:List Value},(∀s∈eA (.agg cs),s∈ks)->cz sh cs=some ps->aC (num ns) G cs vs->dO G'.K ps vs
 |[],ps,vs,_,h,hr=>by simp[cz]at h;subst h;simp only[aC]at hr;simp[dO,hr]
 |c::cs,ps,vs,d,h,hr=>by
  simp only[cz,zab]at h;obtain⟨a,h⟩:=h;split at h
  .rename_i p e h1 h2;simp at h;subst h;simp only[aC]at hr;obtain⟨v,r,rfl,e1,e2⟩:=hr;simp only[dO];refine⟨v,r,rfl,(qj b hf hl ?_ (zc a) h1 e1).M6 (wW h1 a),ml b hf hl ?_ h2 e2⟩
   .intro s hs;refine d s ?_;simp only[eA,zav,zaz];left;cases c<;>simp_all[eA,aY]
   .intro s hs;refine d s ?_;simp only[eA,zav,zaz]at hs⊢;exact .inr hs
  .simp at h
def uT{G':Gh}{sh:Sh}{ks:List Nat}(b:G.le G')(hf:lf ns G G' sh ks)(hl:∀(s:Nat)(cells:List AV),sh[s]?=some (some cells)->cells.all aY=true)
   {x:AV} {p:PV} {v:Value} (c:∀s∈eA x,s∈ks) (h:gr sh x=some p) (hr:aD (num ns) G x v):Rel G'.K p v:=by
 by_cases hx:∃cs,x=.agg cs
 .obtain⟨cs,rfl⟩:=hx;simp only[gr,zac]at h;obtain⟨ps,h1,rfl⟩:=h;simp only[aD]at hr;obtain⟨vs,rfl,hr⟩:=hr;simp only[Rel];exact⟨vs,rfl,ml b hf hl c h1 hr⟩
 .have a:∀cs,x≠.agg cs:=fun cs e=>hx ⟨cs,e⟩;have:gr sh x=d4 sh x:=by cases x<;>first|rfl|exact absurd rfl (a _)
  rw[this]at h;exact qj b hf hl c a h hr
def sT{G':Gh}{sh:Sh}{ks:List Nat}(a:G.le G')(hf:lf ns G G' sh ks)(hl:∀(s:Nat)(cells:List AV),sh[s]?=some (some cells)->cells.all aY=true):
   ∀{xs:List AV}{ps:List PV}{vs:List Value},(∀s∈xs.flatMap eA,s∈ks)->dG sh xs=some ps->aC (num ns) G xs vs->kG G'.K ps vs
 |[],ps,vs,_,h,hr=>by simp[dG]at h;subst h;simp only[aC]at hr;exact hr
 |c::cs,ps,vs,b,h,hr=>by
  simp only[dG]at h;split at h
  .rename_i p d h1 h2;simp at h;subst h;simp only[aC]at hr;obtain⟨v,r,rfl,e1,e2⟩:=hr;simp only[zav,zaz]at b;exact⟨v,r,rfl,uT a hf hl (fun s hs=>b s (.inl hs)) h1 e1,sT a hf hl (fun s hs=>b s (.inr hs)) h2 e2⟩
  .simp at h
def Inv.uU{mem:List (Nat×List AV)}{sh:Sh}{aa:aF}(hi:Inv (num ns) G w mem sh aa):∀(s:Nat)(cells:List AV),sh[s]?=some (some cells)->cells.all aY=true:=by
 intro s cells hs;obtain⟨b,_,_,e3,_⟩:=hi.dH s cells hs;exact jw e3
end
end Go.Ab
namespace Go.Ab
section
variable {ns:Names} {G:Gh} {w:World}
mutual
theorem jI{ρ:bX}{G':Gh}(hK:G.K.le G'.K)(hs:∀s b,G.sm s=some b->G'.sm s=some b):∀{x:AV}{v:Value},bI x=true->aD ρ G x v->aD ρ G' x v
 | .pv p,_,_,h=>by simp only[aD]at h⊢;exact h.mono hK
 | .un,_,_,h=>by simpa only[aD]using h
 | .dr _,_,_,h=>by simp only[aD]at h⊢;obtain⟨b,l,e,r⟩:=h;exact⟨b,l,e,r.mono hK⟩
 | .aV s o,_,_,h=>by simp only[aD]at h⊢;obtain⟨b,e,r⟩:=h;exact⟨b,hs _ _ e,r⟩
 | .aP s _ n _,_,_,h=>by simp only[aD]at h⊢;obtain⟨b,c,e,r⟩:=h;exact⟨b,c,hs _ _ e,r⟩
 | .h_ _,_,_,h=>by simp only[aD]at h⊢;obtain⟨b,o,vs,e,f,r⟩:=h;exact⟨b,o,vs,e,f.mono hK,dO.mono hK _ _ r⟩
 | .ia,_,_,h=>by simpa only[aD]using h
 | .jL s,_,_,h=>by simp only[aD]at h⊢;obtain⟨b,e,r⟩:=h;exact⟨b,hs _ _ e,r⟩
 | .ri s _ _,_,_,h=>by simp only[aD]at h⊢;obtain⟨b,x,c,e,r⟩:=h;exact⟨b,x,c,hs _ _ e,r⟩
 | .fH _,_,_,h=>by simp only[aD]at h
 | .fn g cap,_,hp,h=>by
  simp only[bI]at hp;simp only[aD]at h⊢;obtain⟨f,vs,e1,e2,r⟩:=h;exact⟨f,vs,e1,e2,oh hK hs hp r⟩
 | .agg cs,_,hp,h=>by
  simp only[bI]at hp;simp only[aD]at h⊢;obtain⟨vs,e,r⟩:=h;exact⟨vs,e,oh hK hs hp r⟩
 | .rf cs,_,hp,h=>by
  simp only[bI]at hp;simp only[aD]at h⊢;obtain⟨vs,e,r⟩:=h;exact⟨vs,e,oh hK hs hp r⟩
 | .own _ _,_,hp,_=>by simp[bI]at hp
 | .au _ _,_,hp,_=>by simp[bI]at hp
 | .kF _ _,_,hp,_=>by simp[bI]at hp
theorem oh{ρ:bX}{G':Gh}(hK:G.K.le G'.K)(hs:∀s b,G.sm s=some b->G'.sm s=some b):∀{xs:List AV}{vs:List Value},bI.eL xs=true->aC ρ G xs vs->aC ρ G' xs vs
 |[],_,_,h=>by simpa only[aC]using h
 |x::xs,_,hp,h=>by
  simp only[bI.eL,zah]at hp;simp only[aC]at h⊢;obtain⟨v,r,e,e1,e2⟩:=h;exact⟨v,r,e,jI hK hs hp.1 e1,oh hK hs hp.2 e2⟩
end
mutual
theorem mm:∀{x:AV},ca x=true->bI x=true
 | .pv _,_=>rfl
 | .aV ..,_=>rfl
 | .aP ..,_=>rfl
 | .ia,_=>rfl
 | .jL _,_=>rfl
 | .fH _,_=>rfl
 | .ri ..,h=>by simp[ca]at h
 | .fn _ cap,h=>by simp only[ca]at h;simp only[bI];exact pk h
 | .un,h=>by simp[ca]at h
 | .dr _,h=>by simp[bI]
 | .own _ _,h=>by simp[ca]at h
 | .agg _,h=>by simp only[ca]at h;simp only[bI];exact pk h
 | .rf _,h=>by simp[ca]at h
 | .au _ _,h=>by simp[ca]at h
 | .kF _ _,h=>by simp[ca]at h
 | .h_ _,h=>by simp[ca]at h
theorem pk:∀{xs:List AV},ca.jq xs=true->bI.eL xs=true
 |[],_=>rfl
 |x::xs,h=>by
  simp only[ca.jq,zah]at h;simp only[bI.eL,zah];exact⟨mm h.1,pk h.2⟩
end
def xA{ρ:bX}{G':Gh}(hK:G.K.le G'.K)(hs:∀s b,G.sm s=some b->G'.sm s=some b)(ht:∀τ t,G.tk τ=some t->G'.tk τ=some t){x:AV}{v:Value}(hf:kK x=true)(h:aD ρ G x v):aD ρ G' x v:=by
 cases x with
 |own l τ=>
  simp only[aD]at h⊢;obtain⟨t,e1,e2,e3,e4⟩:=h;exact⟨t,ht _ _ e1,e2,e3.mono hK,fun hl=>⟨(e4 hl).1,Q5 (e4 hl).2 fun⟨b,o,e,r⟩=>⟨b,o,e,Row.mono hK _ _ _ _ r⟩⟩⟩
 |_=>exact jI hK hs (by simpa[kK]using hf) h
def jW{ρ:bX}{G':Gh}(hK:G.K.le G'.K)(hs:∀s b,G.sm s=some b->G'.sm s=some b)(ht:∀τ t,G.tk τ=some t->G'.tk τ=some t):∀{xs:List AV}{vs:List Value},gv xs=true->aC ρ G xs vs->aC ρ G' xs vs
 |[],_,_,h=>by simpa only[aC]using h
 |x::xs,_,hp,h=>by
  simp only[gv,zah]at hp;simp only[aC]at h⊢;obtain⟨v,r,e,e1,e2⟩:=h;exact⟨v,r,e,xA hK hs ht hp.1 e1,jW hK hs ht hp.2 e2⟩
def pn{x:AV}(h:aY x=true):bI x=true\/∃l τ,x=.own l τ:=by
 cases x with
 |own l τ=>exact .inr ⟨l,τ,rfl⟩
 |fn g cap=>exact .inl (mm (by simpa[aY]using h))
 |pv p=>exact .inl rfl
 |dr _=>exact .inl rfl
 |aV _ _=>exact .inl rfl
 |aP _ _ _ _=>exact .inl rfl
 |ia=>exact .inl rfl
 |jL _=>exact .inl rfl
 |fH _=>exact .inl rfl
 |_=>simp[aY]at h
def dQ{live:List Nat}{env:List (Nat×AV)}:∀{l:List Nat}{t:Nat}{v:AV},look (bJ live env l) t=some v->look env t=some v/\en live v=true/\t∈l
 |[],t,v,h=>by simp[bJ,look]at h
 |s::l,t,v,h=>by
  simp only[bJ]at h;split at h
  .rename_i u hu;split at h
   .rename_i a;simp only[look]at h;split at h
    .rename_i e;subst e;cases h;exact⟨hu,a,by simp⟩
    .obtain⟨h1,h2,h3⟩:=dQ h;exact⟨h1,h2,by simp[h3]⟩
   .obtain⟨h1,h2,h3⟩:=dQ h;exact⟨h1,h2,by simp[h3]⟩
  .obtain⟨h1,h2,h3⟩:=dQ h;exact⟨h1,h2,by simp[h3]⟩
def dR{mem:List (Nat×List AV)}:∀{l:List Nat}{t:Nat},look (bQ mem l) t=if t∈l then look mem t else none
 |[],t=>by simp[bQ,look]
 |s::l,t=>by
  simp only[bQ];by_cases t7:s=t
  .subst t7;cases hm:look mem s with
   |none=>simp only[hm];rw[dR,hm];simp
   |some v=>simp[look]
  .have tP:t≠s:=fun e=>t7 e.symm;cases hm:look mem s with
   |none=>simp only[hm];rw[dR];simp[tP]
   |some v=>simp only[look,t7,zbI];rw[dR];simp[tP]
def Gh.aW(G:Gh)(live:List Nat):Gh:={G with pm:=fun d=>if d∈live then G.pm d else none}
def BE{ρ:bX}{live:List Nat}{x:AV}{v:Value}(a:en live x=true)(h:aD ρ G x v):aD ρ (G.aW live) x v:=by
 have flat:bI x=true->aD ρ (G.aW live) x v:=fun hf=>jI (G:=G) (G':=G.aW live) (bt.le_refl G.K) (fun _ _ h=>h) hf h;cases x with
 |au d o=>
  simp only[aD]at h⊢;obtain⟨b,e,r⟩:=h;simp[en]at a;exact⟨b,by simp[Gh.aW,a,e],r⟩
 |kF d o=>
  simp only[aD]at h⊢;obtain⟨b,e,r⟩:=h;simp[en]at a;exact⟨b,by simp[Gh.aW,a,e],r⟩
 |own l τ=>
  simp only[aD]at h⊢;exact h
 |agg cs=>
  simp only[aD]at h⊢;obtain⟨vs,e,r⟩:=h;exact⟨vs,e,jW (G:=G) (G':=G.aW live) (bt.le_refl G.K) (fun _ _ h=>h) (fun _ _ h=>h) (by simpa[en]using a) r⟩
 |_=>exact flat (by simpa[en]using a)
def Jz{ρ:bX}{live:List Nat}{x:AV}{v:Value}(hl:aY x=true)(h:aD ρ G x v):aD ρ (G.aW live) x v:=by
 rcases pn hl with hf|⟨l,τ,rfl⟩
 .exact jI (G:=G) (G':=G.aW live) (bt.le_refl G.K) (fun _ _ h=>h) hf h
 .simp only[aD]at h⊢;exact h
def nj{ρ:bX}{live:List Nat}:∀{xs:List AV}{vs:List Value},xs.all aY=true->aC ρ G xs vs->aC ρ (G.aW live) xs vs
 |[],_,_,h=>by simpa only[aC]using h
 |x::xs,_,hl,h=>by
  simp only[zaQ,zah]at hl;simp only[aC]at h⊢;obtain⟨v,r,e,e1,e2⟩:=h;exact⟨v,r,e,Jz hl.1 e1,nj hl.2 e2⟩
def Inv.aW{mem:List (Nat×List AV)}{sh:Sh}{aa:aF}(hi:Inv (num ns) G w mem sh aa)(live:List Nat):Inv (num ns) (G.aW live) w (bQ mem live) sh aa where
 known:=hi.known
 bm:=hi.bm
 fresh:=hi.fresh
 di:=fun d cells hd=>by
  rw[dR]at hd;split at hd
  .rename_i hl;obtain⟨b,e1,e2,e3⟩:=hi.di d cells hd;obtain⟨hr,c,t,f,a⟩:=e2;exact⟨b,by simp[Gh.aW,hl,e1],⟨hr,c,t,f,nj e3 a⟩,e3⟩
  .simp at hd
 iu:=fun d b hd=>by
  simp only[Gh.aW]at hd;split at hd
  .rename_i hl;rw[dR,zan hl];exact hi.iu d b hd
  .simp at hd
 dH:=fun s cells hs=>by
  obtain⟨b,e1,e2,e3,e4⟩:=hi.dH s cells hs;obtain⟨hr,o,f,a⟩:=e2;exact⟨b,e1,⟨hr,o,f,a.to (fun _ _ _ h=>h) (fun _ e=>e) (fun _ r=>nj (jw e3) r)⟩,e3,e4⟩
 fu:=hi.fu
 dV:=fun τ n hn=>by
  obtain⟨t,e1,e2,e3⟩:=hi.dV τ n hn;exact⟨t,e1,e2,e3.cap,e3.zero,e3.spare⟩
 gF:=hi.gF
 mP:=hi.mP
def bY.aW(live:List Nat):bY G w (G.aW live) w:=
 {size:=zas _,os:=rfl,tape:=rfl,output:=rfl,K:=bt.le_refl G.K,sm:=fun _ _ h=>h,fe:=fun _ _ h=>⟨h,rfl⟩,jt:=fun _ τ _ h=>.inr ⟨τ,h⟩,iG:=fun _ _ _ _ _ h=>h}
def iv.restrict{n0 N:Nat}{st:St}{a:Act}(h:iv (num ns) n0 N G st a w)(live:List Nat):iv (num ns) n0 N (G.aW live) (restrict live st) a w:=
 ⟨⟨h.env.size,fun t x hx=>by
  obtain⟨h1,h2,_⟩:=dQ hx;obtain⟨v,h3,h4⟩:=h.env.env t x h1;exact⟨v,h3,BE h2 h4⟩⟩,h.inv.aW live,h.marks.wQ (bY.aW live) rfl⟩
end
end Go.Ab
namespace Go.Ab
section
variable {ns:Names} {G:Gh} {w:World}
structure NS(G:Gh)(aH ts:aF)(m:Nat->Option Nat)(tks:List Tk):Prop where
 ts:ts=tks.map (·.len)
 map:∀τ k,m τ=some k->∃t,G.tk τ=some t/\tks[k]?=some t
 inj:∀τ σ k,m τ=some k->m σ=some k->τ=σ
 free:∀τ t,G.tk τ=some t->m τ=none->aH[τ]?=some t.len
 used:∀τ t k,G.tk τ=some t->m τ=some k->aH[τ]?=some (t.len+1)
 cap:∀k t,tks[k]?=some t->(∃τ,m τ=some k)\/(t.cap=t.len/\t.own=false)
def Gh.m9(G:Gh)(m:Nat->Option Nat)(tks:List Tk):Gh:=
 {G with tk:=fun k=>tks[k]?,role:=fun b=>match G.role b with| .tok τ=>(match m τ with|some k=>.tok k|none=>.fe)|r=>r}
def Vu{m m':Nat->Option Nat}{tks ext:List Tk}:(G.m9 m tks).le (G.m9 m' (tks++ext)) where
 K:=bt.le_refl G.K
 pm:=fun _ _ h=>h
 sm:=fun _ _ h=>h
 tk:=fun k t h=>⟨t,by
  simp only[Gh.m9]at h⊢;rw[zar (zaa.1 h).1];exact h,⟨zas _,Tk.iP _⟩,fun _=>rfl⟩
def BF{ρ:bX}{m:Nat->Option Nat}{tks:List Tk}{x:AV}{v:Value}(hf:bI x=true)(h:aD ρ G x v):aD ρ (G.m9 m tks) x v:=
 jI (G:=G) (G':=G.m9 m tks) (bt.le_refl G.K) (fun _ _ h=>h) hf h
def mo{m:Nat->Option Nat}{tks:List Tk}{b τ:Nat}(h:G.role b=.tok τ):(G.m9 m tks).role b=match m τ with|some k=>.tok k|none=>.fe:=by
 show (match G.role b with| .tok τ=>(match m τ with|some k=>pc.tok k|none=>.fe)|r=>r)=_;rw[h]
def mR:AV->Bool
 | .au ..| .kF ..| .own ..=>true
 | .agg cs=>gv cs
 |v=>bI v
structure JA(ns:Names)(G:Gh)(m:Nat->Option Nat)(tks:List Tk)(old' ts':aF)(m':Nat->Option Nat)(tks':List Tk):Prop where
 BG:NS G old' ts' m' tks'
 ext:∃ext,tks'=tks++ext
def JA.le{m m':Nat->Option Nat}{tks tks':List Tk}{old' ts':aF}(h:JA ns G m tks old' ts' m' tks'):(G.m9 m tks).le (G.m9 m' tks'):=by
 obtain⟨ext,e⟩:=h.ext;subst e;exact Vu
theorem sU{aH ts:aF}{m:Nat->Option Nat}{tks:List Tk}(hN:NS G aH ts m tks){x:AV}{v:Value}(hx:kK x=true)(h:aD (num ns) G x v):
   ∃m' tks',JA ns G m tks (eM aH ts x).2.1 (eM aH ts x).2.2 m' tks'/\aD (num ns) (G.m9 m' tks') (eM aH ts x).1 v:=by
 have flat:bI x=true->eM aH ts x=(x,aH,ts)->∃m' tks',JA ns G m tks (eM aH ts x).2.1 (eM aH ts x).2.2 m' tks'/\aD (num ns) (G.m9 m' tks') (eM aH ts x).1 v:=by
  intro hf e;rw[e];exact⟨m,tks,⟨hN,[],by simp⟩,BF hf h⟩
 cases x with
 |own l τ=>
  simp only[aD]at h;obtain⟨t,e1,e2,e3,e4⟩:=h;simp only[eM];split
  .rename_i g
   have hm:m τ=none:=by
    cases hm:m τ with
    |none=>rfl
    |some k=>
     have:=hN.used τ t k e1 hm;rw[g]at this;simp at this;omega
   have b:l.length=t.len:=by
    have:=hN.free τ t e1 hm;rw[g]at this;simpa using this
   have i:ts.length=tks.length:=(by rw[hN.ts];simp);refine⟨fun σ=>if σ=τ then some tks.length else m σ,tks++[t],⟨⟨?_,?_,?_,?_,?_,?_⟩,[t],rfl⟩,?_⟩
   .rw[hN.ts,b];simp
   .intro σ k a;split at a
    .rename_i e;subst e;simp at a;subst a;exact⟨t,e1,by simp⟩
    .obtain⟨t',g1,g2⟩:=hN.map σ k a;exact⟨t',g1,by rw[zar (zaa.1 g2).1];exact g2⟩
   .intro σ f k h1 h2;split at h1
    .rename_i e;subst e;split at h2
     .rename_i d;exact d.symm
     .simp at h1;subst h1;obtain⟨t',_,g2⟩:=hN.map f _ h2;have:=(zaa.1 g2).1;omega
    .split at h2
     .rename_i d;subst d;simp at h2;subst h2;obtain⟨t',_,g2⟩:=hN.map σ _ h1;have:=(zaa.1 g2).1;omega
     .exact hN.inj σ f k h1 h2
   .intro σ t' h1 h2;split at h2
    .simp at h2
    .rename_i e;rw[zaA,zai (fun d=>e d.symm)];exact hN.free σ t' h1 h2
   .intro σ t' k h1 h2;split at h2
    .rename_i e;subst e;rw[e1]at h1;cases h1;rw[zaA,zan rfl,zan (zaa.1 g).1,b]
    .rename_i e;rw[zaA,zai (fun d=>e d.symm)];exact hN.used σ t' k h1 h2
   .intro k t' a;rw[zbn]at a;split at a
    .rcases hN.cap k t' a with⟨σ,c⟩|hc
     .left;refine⟨σ,?_⟩;rw[zai]
      .exact c
      .rintro rfl;rw[hm]at c;simp at c
     .exact .inr hc
    .rename_i j;left;refine⟨τ,?_⟩
     have:k=tks.length:=by
      have:=(zaa.1 a).1;simp at this;omega
     simp[this]
   .simp only[aD];refine⟨t,by simp[Gh.m9,i],⟨by omega,e2.2⟩,e3,fun _=>e4 b⟩
  .exact⟨m,tks,⟨hN,[],by simp⟩,by simp only[aD];exact e3⟩
 |_=>exact flat (by simpa[kK]using hx) rfl
def qk:∀{xs:List AV}{vs:List Value}{aH ts:aF}{m:Nat->Option Nat}{tks:List Tk},NS G aH ts m tks->gv xs=true->aC (num ns) G xs vs->
   ∃m' tks',JA ns G m tks (cS aH ts xs).2.1 (cS aH ts xs).2.2 m' tks'/\aC (num ns) (G.m9 m' tks') (cS aH ts xs).1 vs
 |[],vs,aH,ts,m,tks,hN,_,h=>⟨m,tks,⟨hN,[],by simp⟩,by simpa only[cS,aC]using h⟩
 |x::xs,vs,aH,ts,m,tks,hN,hl,h=>by
  simp only[gv,zah]at hl;simp only[aC]at h;obtain⟨v,r,e,e1,e2⟩:=h;subst e;obtain⟨f,t1,g1,g2⟩:=sU hN hl.1 e1;obtain⟨m2,t2,k1,k2⟩:=qk g1.BG hl.2 e2;refine⟨m2,t2,⟨k1.BG,?_⟩,?_⟩
  .obtain⟨a,d⟩:=g1.ext;obtain⟨b,c⟩:=k1.ext;exact⟨a++b,by rw[c,d,zaP]⟩
  .simp only[cS,aC];exact⟨v,r,rfl,g2.mono k1.le,k2⟩
def nk{aH ts:aF}{m:Nat->Option Nat}{tks:List Tk}(hN:NS G aH ts m tks){x:AV}{v:Value}(hx:mR x=true)(h:aD (num ns) G x v):
   ∃m' tks',JA ns G m tks (bM aH ts x).2.1 (bM aH ts x).2.2 m' tks'/\aD (num ns) (G.m9 m' tks') (bM aH ts x).1 v:=by
 have flat:bI x=true->bM aH ts x=(x,aH,ts)->∃m' tks',JA ns G m tks (bM aH ts x).2.1 (bM aH ts x).2.2 m' tks'/\aD (num ns) (G.m9 m' tks') (bM aH ts x).1 v:=by
  intro hf e;rw[e];exact⟨m,tks,⟨hN,[],by simp⟩,BF hf h⟩
 cases x with
 |own l τ=>exact sU (x:=.own l τ) hN rfl h
 |dr l=>
  simp only[aD]at h;obtain⟨base,len,rfl,f⟩:=h;have i:ts.length=tks.length:=by rw[hN.ts];simp
  have c:=f.1
  obtain⟨sz,g⟩:∃sz,l=[]\/∃b o,base=some ⟨b,o,none⟩/\Row G.K b o sz l:=by
   rcases f.2 with h1|⟨b,o,sz,e,hr⟩
   .exact⟨0,.inl h1⟩
   .exact⟨sz,.inr ⟨b,o,e,hr⟩⟩
  let t:Tk:=⟨base,len,len,sz,false⟩
  refine⟨m,tks++[t],⟨⟨?_,?_,hN.inj,hN.free,hN.used,?_⟩,[t],rfl⟩,?_⟩
  .simp only[bM];rw[hN.ts];simp[t,c]
  .intro σ k a;obtain⟨t',g1,g2⟩:=hN.map σ k a;exact⟨t',g1,by rw[zar (zaa.1 g2).1];exact g2⟩
  .intro k t' a;rw[zbn]at a;split at a
   .exact hN.cap k t' a
   .right
    have:t'=t:=by
     have h1:=zcN a;simpa using h1
    rw[this];exact⟨rfl,rfl⟩
  .simp only[bM,aD];refine⟨t,by simp[Gh.m9,i],⟨by simp[t,c],t.t5⟩,cq.2 ⟨_,_,_,rfl,zas _,f⟩,fun _=>⟨rfl,g⟩⟩
 |au d o=>
  simp only[bM];exact⟨m,tks,⟨hN,[],by simp⟩,by simp only[aD]at h⊢;exact h⟩
 |kF d o=>
  simp only[bM];exact⟨m,tks,⟨hN,[],by simp⟩,by simp only[aD]at h⊢;exact h⟩
 |pv p=>exact flat rfl rfl
 |un=>exact flat rfl rfl
 |aV _ _=>exact flat rfl rfl
 |aP _ _ _ _=>exact flat rfl rfl
 |h_ _=>exact flat rfl rfl
 |ia=>exact flat rfl rfl
 |fn _ _=>exact flat (by simpa[mR]using hx) rfl
 |agg cs=>
  by_cases hf:bI.eL cs=true
  .exact flat (by simpa[bI]using hf) (by simp only[bM];rw[zan hf])
  .simp only[aD]at h;obtain⟨vs,rfl,r⟩:=h;obtain⟨m',tks',g1,g2⟩:=qk hN (by simpa[mR]using hx) r;have e:bM aH ts (.agg cs)=(.agg (cS aH ts cs).1,(cS aH ts cs).2.1,(cS aH ts cs).2.2):=by simp only[bM];rw[zai hf]
   rw[e];exact⟨m',tks',g1,by simp only[aD];exact⟨vs,rfl,g2⟩⟩
 |rf _=>exact flat (by simpa[mR]using hx) rfl
 |jL _=>exact flat rfl rfl
 |ri _ _ _=>exact flat rfl rfl
 |fH _=>simp only[aD]at h
def Ez{x:AV}(h:aY x=true):mR x=true:=by
 rcases pn h with hf|⟨l,τ,rfl⟩
 .cases x<;>simp_all[mR,bI,aY]
 .rfl
theorem EA{aH ts:aF}{x:AV}(h:aY x=true):aY (bM aH ts x).1=true:=by
 cases x with
 |own l τ=>simp only[bM];split<;>rfl
 |dr l=>rfl
 |agg _=>simp[aY]at h
 |_=>exact h
def np:∀{xs:List AV}{vs:List Value}{aH ts:aF}{m:Nat->Option Nat}{tks:List Tk},NS G aH ts m tks->xs.all aY=true->aC (num ns) G xs vs->
   ∃m' tks',JA ns G m tks (br aH ts xs).2.1 (br aH ts xs).2.2 m' tks'/\aC (num ns) (G.m9 m' tks') (br aH ts xs).1 vs/\(br aH ts xs).1.all aY=true
 |[],vs,aH,ts,m,tks,hN,_,h=>⟨m,tks,⟨hN,[],by simp⟩,by simpa only[br,aC]using h,rfl⟩
 |x::xs,vs,aH,ts,m,tks,hN,hl,h=>by
  simp only[zaQ,zah]at hl;simp only[aC]at h;obtain⟨v,r,e,e1,e2⟩:=h;subst e;obtain⟨f,t1,g1,g2⟩:=nk hN (Ez hl.1) e1;obtain⟨m2,t2,k1,k2,k3⟩:=np g1.BG hl.2 e2;refine⟨m2,t2,⟨k1.BG,?_⟩,?_,?_⟩
  .obtain⟨a,d⟩:=g1.ext;obtain⟨b,c⟩:=k1.ext;exact⟨a++b,by rw[c,d,zaP]⟩
  .simp only[br,aC];exact⟨v,r,rfl,g2.mono k1.le,k2⟩
  .simp only[br,zaQ,k3,zcS];exact EA hl.1
def sV{a:Act}:∀{env:List (Nat×AV)}{aH ts:aF}{m:Nat->Option Nat}{tks:List Tk},NS G aH ts m tks->
   (∀p∈env,mR p.2=true/\∃v,a.tmps[p.1]?=some v/\aD (num ns) G p.2 v)->
   ∃m' tks',JA ns G m tks (dx aH ts env).2.1 (dx aH ts env).2.2 m' tks'/\∀p∈(dx aH ts env).1,∃v,a.tmps[p.1]?=some v/\aD (num ns) (G.m9 m' tks') p.2 v
 |[],aH,ts,m,tks,hN,_=>⟨m,tks,⟨hN,[],by simp⟩,by simp[dx]⟩
 |(t,x)::env,aH,ts,m,tks,hN,h=>by
  obtain⟨hx,v,hv,hr⟩:=h (t,x) (by simp);obtain⟨e,t1,g1,g2⟩:=nk hN hx hr;obtain⟨m2,t2,k1,k2⟩:=sV (env:=env) (a:=a) g1.BG (fun p hp=>h p (by simp[hp]));refine⟨m2,t2,⟨k1.BG,?_⟩,?_⟩
  .obtain⟨a,d⟩:=g1.ext;obtain⟨b,c⟩:=k1.ext;exact⟨a++b,by rw[c,d,zaP]⟩
  .intro p hp;simp only[dx,zau]at hp;rcases hp with rfl|hp
   .exact⟨v,hv,g2.mono k1.le⟩
   .exact k2 p hp
def Vv(ns:Names)(G:Gh)(w:World)(d:Nat)(cells:List AV)(G':Gh):Prop:=
 ∃b c t,G.pm d=some b/\G.role b=.mW d/\w.heap[b]?=some (.cells c t (0,0))/\aC (num ns) G' cells c.toList/\cells.all aY=true
def sW:∀{mem:List (Nat×List AV)}{aH ts:aF}{m:Nat->Option Nat}{tks:List Tk},NS G aH ts m tks->
   (∀p∈mem,Vv ns G w p.1 p.2 G)->
   ∃m' tks',JA ns G m tks (fR aH ts mem).2.1 (fR aH ts mem).2.2 m' tks'/\∀p∈(fR aH ts mem).1,Vv ns G w p.1 p.2 (G.m9 m' tks')
 |[],aH,ts,m,tks,hN,_=>⟨m,tks,⟨hN,[],by simp⟩,by simp[fR]⟩
 |(d,cells)::mem,aH,ts,m,tks,hN,h=>by
  obtain⟨b,c,t,h1,h2,h3,h4,h5⟩:=h (d,cells) (by simp);obtain⟨i,t1,g1,g2,g⟩:=np hN h5 h4;obtain⟨m2,t2,k1,k2⟩:=sW (mem:=mem) g1.BG (fun p hp=>h p (by simp[hp]));refine⟨m2,t2,⟨k1.BG,?_⟩,?_⟩
  .obtain⟨a,f⟩:=g1.ext;obtain⟨b,e⟩:=k1.ext;exact⟨a++b,by rw[e,f,zaP]⟩
  .intro p hp;simp only[fR,zau]at hp;rcases hp with rfl|hp
   .exact⟨b,c,t,h1,h2,h3,aC.mono k1.le g2,g⟩
   .exact k2 p hp
def EB{aH ts:aF}{n:Nat}{x:AV}(h:aJ n x=true):aJ n (eM aH ts x).1=true:=by
 unfold eM;split
 .split<;>simp[aJ]
 .exact h
theorem sY{n:Nat}:∀{xs:List AV}{aH ts:aF},aJ.cI n xs=true->aJ.cI n (cS aH ts xs).1=true
 |[],_,_,_=>rfl
 |x::xs,aH,ts,h=>by
  simp only[aJ.cI,zah]at h;simp only[cS,aJ.cI,EB h.1,zcv];exact sY h.2
def EC{aH ts:aF}{n:Nat}{x:AV}(h:aJ n x=true):aJ n (bM aH ts x).1=true:=by
 unfold bM;split
 .split<;>simp[aJ]
 .simp[aJ]
 .split
  .exact h
  .simp only[aJ]at h⊢;exact sY h
 .exact h
theorem uV{n:Nat}:∀{xs:List AV}{aH ts:aF},xs.all (aJ n)=true->(br aH ts xs).1.all (aJ n)=true
 |[],_,_,_=>rfl
 |x::xs,aH,ts,h=>by
  simp only[zaQ,zah]at h;simp only[br,zaQ,EC h.1,zcv];exact uV h.2
def kR:∀{sh:Sh}{aH ts:aF}{m:Nat->Option Nat}{tks:List Tk}(R:Nat->Option (Obj×Nat)),NS G aH ts m tks->
   (∀s cells,sh[s]?=some (some cells)->cells.all aY=true/\∃o,R s=some o/\Holds (num ns) G o.1 o.2 cells)->
   ∃m' tks',JA ns G m tks (bg aH ts sh).2.1 (bg aH ts sh).2.2 m' tks'/\(bg aH ts sh).1.length=sh.length /\
     ∀s cells',(bg aH ts sh).1[s]?=some (some cells')->∃cells,sh[s]?=some (some cells)/\(∃o,R s=some o/\Holds (num ns) (G.m9 m' tks') o.1 o.2 cells')/\cells'.all aY=true/\∀n,cells.all (aJ n)=true->cells'.all (aJ n)=true
 |[],aH,ts,m,tks,R,hN,_=>⟨m,tks,⟨hN,[],by simp⟩,rfl,fun s cells' h=>by simp[bg]at h⟩
 |none::sh,aH,ts,m,tks,R,hN,h=>by
  obtain⟨f,t1,g1,g2,e⟩:=kR (sh:=sh) (fun s=>R (s+1)) hN (fun s cells hs=>h (s+1) cells (by simpa using hs));refine⟨f,t1,g1,by simp[bg,g2],fun s cells' hs=>?_⟩;cases s with
  |zero=>simp[bg]at hs
  |succ s=>
   obtain⟨cells,k1,k2⟩:=e s cells' (by simpa[bg]using hs);exact⟨cells,by simpa using k1,k2⟩
 |some cs::sh,aH,ts,m,tks,R,hN,h=>by
  obtain⟨hl,o,p,hr⟩:=h 0 cs rfl
  obtain⟨f,t1,g1,g2,e⟩:∃m' tks',JA ns G m tks (br aH ts cs).2.1 (br aH ts cs).2.2 m' tks'/\Holds (num ns) (G.m9 m' tks') o.1 o.2 (br aH ts cs).1/\(br aH ts cs).1.all aY=true:=by
   rcases hr with⟨c,t,vs,suf,g,e3,e4,hr⟩|⟨es,d,kvs,g,rfl,hm⟩
   .obtain⟨f,t1,g1,g2,e⟩:=np hN hl hr;exact⟨f,t1,g1,.inl ⟨c,t,vs,suf,g,e3,e4,g2⟩,e⟩
   .exact⟨m,tks,⟨hN,[],by simp⟩,.inr ⟨es,d,kvs,g,rfl,hm⟩,rfl⟩
  obtain⟨m2,t2,k1,k2,k3⟩:=kR (sh:=sh) (fun s=>R (s+1)) g1.BG (fun s cells hs=>h (s+1) cells (by simpa using hs));refine⟨m2,t2,⟨k1.BG,?_⟩,by simp[bg,k2],fun s cells' hs=>?_⟩
  .obtain⟨a,l⟩:=g1.ext;obtain⟨b,k⟩:=k1.ext;exact⟨a++b,by rw[k,l,zaP]⟩
  .cases s with
   |zero=>
    simp only[bg,List.getElem?_cons_zero,zag]at hs;subst hs;exact⟨cs,rfl,⟨o,p,g2.mono k1.le⟩,e,fun n hn=>uV hn⟩
   |succ s=>
    obtain⟨cells,j,i⟩:=k3 s cells' (by simpa[bg]using hs);exact⟨cells,by simpa using j,i⟩
def mq(G:Gh)(w:World)(s:Nat):Option (Obj×Nat):=(G.sm s).bind fun b=>(w.heap[b.1]?).map fun o=>(o,b.2)
def Inv.mq{mem:List (Nat×List AV)}{sh:Sh}{aa:aF}(hi:Inv (num ns) G w mem sh aa):∀s cells,sh[s]?=some (some cells)->cells.all aY=true/\∃o,Go.Ab.mq G w s=some o/\Holds (num ns) G o.1 o.2 cells:=by
 intro s cells hs;obtain⟨b,e1,e2,e3,e4⟩:=hi.dH s cells hs;obtain⟨hr,o,c,a⟩:=e2;exact⟨e3,(o,b.2),by simp[Go.Ab.mq,e1,c],a⟩
def Inv.TY{mem:List (Nat×List AV)}{sh:Sh}{aa:aF}(hi:Inv (num ns) G w mem sh aa){sh':Sh}{G':Gh}(c:∀s,G'.sm s=G.sm s)(a:∀b s,G.role b=.shr s->G'.role b=.shr s)
   (h:∀s cells',sh'[s]?=some (some cells')->∃cells,sh[s]?=some (some cells)/\(∃o,Go.Ab.mq G w s=some o/\Holds (num ns) G' o.1 o.2 cells')/\cells'.all aY=true/\∀n,cells.all (aJ n)=true->cells'.all (aJ n)=true):
   ∀s cells,sh'[s]?=some (some cells)->∃b,G'.sm s=some b/\yW (num ns) G' w b (.shr s) cells/\cells.all da=true/\cells.all (aJ (s+1))=true:=by
 intro s cells' hs;obtain⟨cells,h1,⟨o,h2,d⟩,h3,h4⟩:=h s cells' hs;obtain⟨b,e1,e2,e3,e4⟩:=hi.dH s cells h1;simp only[Go.Ab.mq,e1,zbg,zac]at h2;obtain⟨o',h5,rfl⟩:=h2;exact⟨b,by rw[c];exact e1,⟨a b.1 s e2.role,o',h5,d⟩,h3,h4 _ e4⟩
def uW{α:Type}:∀{l:List (Nat×α)}{t:Nat}{x:α},look l t=some x->(t,x)∈l
 |[],_,_,h=>by simp[look]at h
 |(s,y)::l,t,x,h=>by
  simp only[look]at h;split at h
  .rename_i e;subst e;cases h;simp
  .exact zcc _ (uW h)
def uX:∀{mem:List (Nat×List AV)}{aH ts:aF}{d:Nat},(look mem d).isSome=true->(look (fR aH ts mem).1 d).isSome=true
 |[],_,_,d,h=>by simp[look]at h
 |(s,y)::mem,aH,ts,d,h=>by
  simp only[fR,look]at h⊢;split
  .rfl
  .rename_i a;rw[zai a]at h;exact uX h
def NS.start{mem:List (Nat×List AV)}{sh:Sh}{aa:aF}(hi:Inv (num ns) G w mem sh aa):NS G aa [] (fun _=>none) [] where
 ts:=rfl
 map:=by intro τ k h;simp at h
 inj:=by intro τ σ k h;simp at h
 free:=fun τ t h _=>hi.gF τ t h
 used:=by intro τ t k _ h;simp at h
 cap:=by intro k t h;simp at h
def gS{live:List Nat}{env:List (Nat×AV)}:∀{l:List Nat}{p:Nat×AV},p∈bJ live env l->look env p.1=some p.2/\en live p.2=true
 |[],p,h=>by simp[bJ]at h
 |s::l,p,h=>by
  simp only[bJ]at h;split at h
  .rename_i u hu;split at h
   .rename_i a;simp only[zau]at h;rcases h with rfl|h
    .exact⟨hu,a⟩
    .exact gS h
   .exact gS h
  .exact gS h
def jl{mem:List (Nat×List AV)}:∀{l:List Nat}{p:Nat×List AV},p∈bQ mem l->look mem p.1=some p.2/\p.1∈l
 |[],p,h=>by simp[bQ]at h
 |s::l,p,h=>by
  simp only[bQ]at h;split at h
  .rename_i u hu;simp only[zau]at h;rcases h with rfl|h
   .exact⟨hu,by simp⟩
   .obtain⟨h1,h2⟩:=jl h;exact⟨h1,by simp[h2]⟩
  .obtain⟨h1,h2⟩:=jl h;exact⟨h1,by simp[h2]⟩
theorem iv.head{n0 N:Nat}{st:St}{a:Act}(h:iv (num ns) n0 N G st a w)(live:List Nat):∃G',iv (num ns) n0 N G' (norm (Go.Ab.restrict live st)) a w/\bY G w G' w:=by
 have h0:=h.restrict live;have hi:=h0.inv
 have J:∀p∈(Go.Ab.restrict live st).env,mR p.2=true/\∃v,a.tmps[p.1]?=some v/\aD (num ns) (G.aW live) p.2 v:=by
  intro p hp;obtain⟨h1,h2⟩:=gS hp;obtain⟨v,h3,h4⟩:=h.env.env p.1 p.2 h1;refine⟨?_,v,h3,BE h2 h4⟩;cases z:p.2<;>rw[z]at h2<;>simp_all[mR,en,bI]
 have I:∀p∈(Go.Ab.restrict live st).mem,Vv ns (G.aW live) w p.1 p.2 (G.aW live):=by
  intro p hp;obtain⟨h1,h2⟩:=jl hp
  have h3:look (Go.Ab.restrict live st).mem p.1=some p.2:=by
   show look (bQ st.mem live) p.1=some p.2;rw[dR,zan h2,h1]
  obtain⟨b,e1,e2,e3⟩:=hi.di p.1 p.2 h3;obtain⟨hr,c,t,H,j⟩:=e2;exact⟨b,c,t,e1,hr,H,j,e3⟩
 obtain⟨O,t1,g1,g2⟩:=sV (NS.start hi) J;obtain⟨m3,t3,k1,k2⟩:=sW (w:=w) g1.BG I;obtain⟨m2,t2,q,E,D⟩:=kR (mq (G.aW live) w) k1.BG hi.mq;have hN:=q.BG;have l:=q.le;have B:=Gh.le_trans k1.le q.le
 have f:∀b r,(G.aW live).role b=r->(∀τ,r≠.tok τ)->((G.aW live).m9 m2 t2).role b=r:=by
  intro b r hr hn;show(match(G.aW live).role b with| .tok τ=>(match m2 τ with|some k=>pc.tok k|none=>.fe)|r=>r)=r;rw[hr];cases r with
  |tok τ=>exact absurd rfl (hn τ)
  |_=>rfl
 have g:bY G w ((G.aW live).m9 m2 t2) w:={
   size:=zas _,os:=rfl,tape:=rfl,output:=rfl,K:=bt.le_refl G.K,sm:=fun _ _ h=>h,
   fe:=fun b _ hr=>⟨f b _ hr (by simp),rfl⟩
   jt:=fun b τ _ hr=>by
    have y:(G.aW live).role b=.tok τ:=hr;rw[mo y];cases m2 τ with
    |none=>exact .inl rfl
    |some k=>exact .inr ⟨k,rfl⟩
   iG:=fun _ _ _ _ _ h=>h}
 refine⟨(G.aW live).m9 m2 t2,⟨⟨h.env.size,fun t x hx=>?_⟩,?_,h.marks.wQ g rfl⟩,g⟩
 .obtain⟨v,h1,h2⟩:=g2 (t,x) (uW hx);exact⟨v,h1,h2.mono B⟩
 .constructor
  .exact hi.known
  .intro b o v F;rcases hi.bm b o v F with h1|⟨τ,h1⟩
   .exact .inl (f b _ h1 (by simp))
   .rw[mo h1];cases m2 τ with
    |none=>exact .inl rfl
    |some k=>exact .inr ⟨k,rfl⟩
  .intro b m;exact f b _ (hi.fresh b m) (by simp)
  .intro d cells hd;obtain⟨b,c,t,h1,h2,h3,h4,h5⟩:=k2 (d,cells) (uW hd);exact⟨b,h1,⟨f b _ h2 (by simp),c,t,h3,aC.mono l h4⟩,h5⟩
  .intro d b hd;exact uX (hi.iu d b hd)
  .exact hi.TY (G':=(G.aW live).m9 m2 t2) (fun _=>rfl) (fun b s hr=>f b _ hr (by simp)) D
  .intro s b hs;have:=hi.fu s b hs;have e:(norm (Go.Ab.restrict live st)).sh.length=(Go.Ab.restrict live st).sh.length:=E;omega
  .intro k n hn;have tP:(norm (Go.Ab.restrict live st)).aa=t2.map (·.len):=hN.ts;rw[tP,zaK,zac]at hn;obtain⟨t,ht,rfl⟩:=hn;refine⟨t,ht,rfl,?_⟩;rcases hN.cap k t ht with⟨τ,i⟩|hc
   .obtain⟨t',h1,h2⟩:=hN.map τ k i;rw[ht]at h2;cases h2;obtain⟨C,e1,e2,e3⟩:=hi.dV τ _ (hi.gF τ t h1);rw[h1]at e1;cases e1;refine⟨e3.cap,e3.zero,fun A=>?_⟩;obtain⟨b,o,c,ty,f1,f2,f3,M,L⟩:=e3.spare A;refine⟨b,o,c,ty,f1,?_,f3,M,L⟩;rw[mo f2,i]
   .exact⟨by omega,fun h=>by omega,fun h=>h.elim (fun h=>by omega) (fun h=>by rw[hc.2]at h;cases h)⟩
  .intro k t ht;have tP:(norm (Go.Ab.restrict live st)).aa=t2.map (·.len):=hN.ts;rw[tP,zaK];have u:t2[k]?=some t:=ht;rw[u];rfl
  .exact fun b c m=>⟨f b _ (hi.mP b c m).1 (by simp),(hi.mP b c m).2⟩
end
end Go.Ab
namespace Go.Ab
section
variable {P:Program} {ns:Names} {G:Gh} {w:World}
theorem BH{x:AV}(h:lK x=true):kK x=true:=by
 cases x with
 |own _ _=>rfl
 |_=>simpa[kK,lK]using mm (by simpa[lK]using h)
theorem mr:∀{xs:List AV},fM xs=true->gv xs=true
 |[],_=>rfl
 |x::xs,h=>by
  simp only[fM,zah]at h;simp only[gv,BH h.1,mr h.2,zcT]
theorem BI{x:AV}(h:bU x=true):mR x=true:=by
 cases x with
 |own _ _=>rfl
 |au _ _=>rfl
 |agg cs=>simp only[mR];exact mr (by simpa[bU]using h)
 |_=>simpa[mR,bU]using mm (by simpa[bU]using h)
def BJ{aH ts:aF}{x:AV}(h:lK x=true):lK (eM aH ts x).1=true:=by
 unfold eM;split
 .split<;>rfl
 .exact h
theorem sZ:∀{xs:List AV}{aH ts:aF},fM xs=true->fM (cS aH ts xs).1=true
 |[],_,_,_=>rfl
 |x::xs,aH,ts,h=>by
  simp only[fM,zah]at h;simp only[cS,fM,BJ h.1,zcv];exact sZ h.2
def BK{aH ts:aF}{x:AV}(h:bU x=true):bU (bM aH ts x).1=true:=by
 unfold bM;split
 .split<;>rfl
 .rfl
 .split
  .exact h
  .simp only[bU]at h⊢;exact sZ h
 .exact h
theorem i_:∀{xs:List AV}{aH ts:aF},xs.all bU=true->(br aH ts xs).1.all bU=true
 |[],_,_,_=>rfl
 |x::xs,aH,ts,h=>by
  simp only[zaQ,zah]at h;simp only[br,zaQ,BK h.1,zcv];exact i_ h.2
theorem BL{x:AV}(h:aY x=true):bU x=true:=by
 cases x with
 |own _ _=>rfl
 |fn g cap=>simpa[aY,bU]using h
 |pv _=>rfl
 |dr _=>rfl
 |aV _ _=>rfl
 |aP _ _ _ _=>rfl
 |ia=>rfl
 |jL _=>rfl
 |fH _=>rfl
 |_=>simp[aY]at h
def jA{xs:List AV}(h:xs.all aY=true):xs.all bU=true:=by
 rw[zaq]at*;exact fun x hx=>BL (h x hx)
def ql:∀{xs:List AV}{vs:List Value}{aH ts:aF}{m:Nat->Option Nat}{tks:List Tk},NS G aH ts m tks->xs.all bU=true->aC (num ns) G xs vs->
   ∃m' tks',JA ns G m tks (br aH ts xs).2.1 (br aH ts xs).2.2 m' tks'/\aC (num ns) (G.m9 m' tks') (br aH ts xs).1 vs
 |[],vs,aH,ts,m,tks,hN,_,h=>⟨m,tks,⟨hN,[],by simp[br]⟩,by simpa only[br,aC]using h⟩
 |x::xs,vs,aH,ts,m,tks,hN,hp,h=>by
  simp only[zaQ,zah]at hp;simp only[aC]at h;obtain⟨v,r,e,e1,e2⟩:=h;subst e;obtain⟨f,t1,g1,g2⟩:=nk hN (BI hp.1) e1;obtain⟨m2,t2,k1,k2⟩:=ql g1.BG hp.2 e2;refine⟨m2,t2,⟨k1.BG,?_⟩,?_⟩
  .obtain⟨a,d⟩:=g1.ext;obtain⟨b,c⟩:=k1.ext;exact⟨a++b,by rw[c,d,zaP]⟩
  .simp only[br,aC];exact⟨v,r,rfl,g2.mono k1.le,k2⟩
def JB{aH ts:aF}{x:AV}:(eM aH ts x).2.1.length=aH.length:=by
 unfold eM;split
 .split<;>simp
 .rfl
theorem uY:∀{xs:List AV}{aH ts:aF},(cS aH ts xs).2.1.length=aH.length
 |[],_,_=>rfl
 |x::xs,aH,ts=>by simp only[cS];rw[uY,JB]
def JC{aH ts:aF}{x:AV}:(bM aH ts x).2.1.length=aH.length:=by
 unfold bM;split
 .split<;>simp
 .rfl
 .split
  .rfl
  .exact uY
 .rfl
theorem rG:∀{xs:List AV}{aH ts:aF},(br aH ts xs).2.1.length=aH.length
 |[],_,_=>rfl
 |x::xs,aH,ts=>by simp only[br];rw[rG,JC]
theorem rH:∀{sh:Sh}{aH ts:aF},(bg aH ts sh).2.1.length=aH.length
 |[],_,_=>rfl
 |none::sh,aH,ts=>by simp only[bg];exact rH
 |some cs::sh,aH,ts=>by simp only[bg];rw[rH,rG]
def Gh.to(G:Gh)(m:Nat->Option Nat)(tks:List Tk):Gh:=
 {K:=G.K,role:=fun b=>match G.role b with| .shr s=>.shr s| .tok τ=>(match m τ with|some k=>.tok k|none=>.fe)|_=>.fe,pm:=fun _=>none,sm:=G.sm,tk:=fun k=>tks[k]?}
def Vw{m:Nat->Option Nat}{tks:List Tk}{b s:Nat}(h:G.role b=.shr s):(G.to m tks).role b=.shr s:=by simp[Gh.to,h]
def zd{m:Nat->Option Nat}{tks:List Tk}{b τ k:Nat}(h:G.role b=.tok τ)(hm:m τ=some k):(G.to m tks).role b=.tok k:=by simp[Gh.to,h,hm]
def qm{m:Nat->Option Nat}{tks:List Tk}{b τ:Nat}(h:G.role b=.tok τ)(hm:m τ=none):(G.to m tks).role b=.fe:=by simp[Gh.to,h,hm]
def nq{m:Nat->Option Nat}{tks:List Tk}{b:Nat}(h:G.role b=.fe):(G.to m tks).role b=.fe:=by simp[Gh.to,h]
def ze{m:Nat->Option Nat}{tks:List Tk}{b d:Nat}(h:G.role b=.mW d):(G.to m tks).role b=.fe:=by simp[Gh.to,h]
def ED{ρ:bX}{G':Gh}(hK:G.K.le G'.K)(hs:∀s b,G.sm s=some b->G'.sm s=some b)(ht:∀τ t,G.tk τ=some t->G'.tk τ=some t){xs:List AV}{vs:List Value}(hp:fM xs=true)(h:aC ρ G xs vs):aC ρ G' xs vs:=
 jW hK hs ht (mr hp) h
def JD{ρ:bX}{G':Gh}(hK:G.K.le G'.K)(hs:∀s b,G.sm s=some b->G'.sm s=some b)(ht:∀τ t,G.tk τ=some t->G'.tk τ=some t){x:AV}{v:Value}(hp:bU x=true)(h:aD ρ G x v):aD ρ G' x v:=by
 cases x with
 |own l τ=>
  simp only[aD]at h⊢;obtain⟨t,e1,e2,e3,e4⟩:=h;exact⟨t,ht _ _ e1,e2,e3.mono hK,fun hl=>⟨(e4 hl).1,Q5 (e4 hl).2 fun⟨b,o,e,r⟩=>⟨b,o,e,Row.mono hK _ _ _ _ r⟩⟩⟩
 |agg cs=>
  simp only[aD]at h⊢;obtain⟨vs,e,r⟩:=h;exact⟨vs,e,ED hK hs ht (by simpa[bU]using hp) r⟩
 |_=>exact og hK hs (by simpa[bU]using hp) h
def jX{ρ:bX}{G':Gh}(hK:G.K.le G'.K)(hs:∀s b,G.sm s=some b->G'.sm s=some b)(ht:∀τ t,G.tk τ=some t->G'.tk τ=some t):∀{xs:List AV}{vs:List Value},xs.all bU=true->aC ρ G xs vs->aC ρ G' xs vs
 |[],_,_,h=>by simpa only[aC]using h
 |x::xs,_,hp,h=>by
  simp only[zaQ,zah]at hp;simp only[aC]at h⊢;obtain⟨v,r,e,e1,e2⟩:=h;exact⟨v,r,e,JD hK hs ht hp.1 e1,jX hK hs ht hp.2 e2⟩
def Inv.M_{mem:List (Nat×List AV)}{sh:Sh}{aa:aF}(hi:Inv (num ns) G w mem sh aa){xs:List AV}{vs:List Value}(hp:xs.all bU=true)(hr:aC (num ns) G xs vs):
   ∃m tks,NS G (de aa xs sh).2.2.1 (de aa xs sh).2.2.2 m tks/\Inv (num ns) (G.to m tks) w [] (de aa xs sh).2.1 (de aa xs sh).2.2.2/\aC (num ns) (G.to m tks) (de aa xs sh).1 vs:=by
 obtain⟨m0,p,A,f⟩:=ql (NS.start hi) hp hr;obtain⟨m,tks,q,y,x⟩:=kR (Go.Ab.mq G w) A.BG hi.mq;have hN:=q.BG;refine⟨m,tks,hN,?_,jX (G:=G.m9 m tks) (G':=G.to m tks) (bt.le_refl _) (fun _ _ h=>h) (fun _ _ h=>h) (i_ hp) (aC.mono q.le f)⟩;constructor
 .exact hi.known
 .intro b o v z;rcases hi.bm b o v z with h|⟨τ,h⟩
  .exact .inl (nq h)
  .cases hm:m τ with
   |none=>exact .inl (qm h hm)
   |some k=>exact .inr ⟨k,zd h hm⟩
 .intro b g;exact nq (hi.fresh b g)
 .intro d cells h;simp[look]at h
 .intro d b h;simp[Gh.to]at h
 .refine hi.TY (G':=G.to m tks) (fun _=>rfl) (fun b s hr=>Vw hr) fun s cells' hs=>?_;obtain⟨cells,h1,h2,h3,h4⟩:=x s cells' hs;obtain⟨o,h2,l⟩:=h2;exact⟨cells,h1,⟨o,h2,l.to (fun _ _ _ h=>h) (fun _ e=>e) (fun _ r=>jX (G:=G.m9 m tks) (G':=G.to m tks) (bt.le_refl _) (fun _ _ h=>h) (fun _ _ h=>h) (jA h3) r)⟩,h3,h4⟩
 .intro s b hs;have:=hi.fu s b hs;have e:(de aa xs sh).2.1.length=sh.length:=y;omega
 .intro k n hn;have tP:(de aa xs sh).2.2.2=tks.map (·.len):=hN.ts;rw[tP,zaK,zac]at hn;obtain⟨t,ht,rfl⟩:=hn;refine⟨t,ht,rfl,?_⟩;rcases hN.cap k t ht with⟨τ,a⟩|hc
  .obtain⟨t',h1,h2⟩:=hN.map τ k a;rw[ht]at h2;cases h2;obtain⟨u,e1,e2,e3⟩:=hi.dV τ _ (hi.gF τ t h1);rw[h1]at e1;cases e1;refine⟨e3.cap,e3.zero,fun j=>?_⟩;obtain⟨b,o,c,ty,f1,f2,f3,C,B⟩:=e3.spare j;exact⟨b,o,c,ty,f1,zd f2 a,f3,C,B⟩
  .exact⟨by omega,fun h=>by omega,fun h=>h.elim (fun h=>by omega) (fun h=>by rw[hc.2]at h;cases h)⟩
 .intro k t ht;have tP:(de aa xs sh).2.2.2=tks.map (·.len):=hN.ts;rw[tP,zaK];have i:tks[k]?=some t:=ht;rw[i];rfl
 .exact fun b c g=>⟨nq (hi.mP b c g).1,(hi.mP b c g).2⟩
def JE{aa:aF}{xs:List AV}{sh:Sh}:(de aa xs sh).2.2.1.length=aa.length:=by
 unfold de;simp only[rH,rG]
def bY.to{G1:Gh}{w1:World}(h:bY G w G1 w1)(m:Nat->Option Nat)(tks:List Tk):bY G w (G1.to m tks) w1 where
 size:=h.size
 os:=h.os
 tape:=h.tape
 output:=h.output
 K:=h.K
 sm:=h.sm
 fe:=fun b a hr=>⟨nq (h.fe b a hr).1,(h.fe b a hr).2⟩
 jt:=fun b τ a hr=>by
  rcases h.jt b τ a hr with h1|⟨τ',h1⟩
  .exact .inl (nq h1)
  .cases hm:m τ' with
   |none=>exact .inl (qm h1 hm)
   |some k=>exact .inr ⟨k,zd h1 hm⟩
 iG:=h.iG
def po(N:Nat):pc->pc
 | .tok k=>.tok (k+N)
 | .shr s=>.shr s
 |_=>.fe
def Gh.back(G:Gh)(m:Nat->Option Nat)(G1:Gh)(n N:Nat):Gh:=
 { K:=G1.K,
   role:=fun b=>if b<n then(match G.role b with| .shr _=>po N (G1.role b)| .tok τ=>(match m τ with|some _=>po N (G1.role b)|none=>.tok τ)|r=>r)else po N (G1.role b),
   pm:=G.pm,sm:=G1.sm,
   tk:=fun τ=>if τ<N then(match G.tk τ with|some t=>(match m τ with|some _=>some {t with base:=none,len:=t.len+1,cap:=t.len+1,own:=false}|none=>some t)|none=>none)else G1.tk (τ-N)}
def uZ{G1 G':Gh}{N:Nat}(hK:G1.K.le G'.K)(hs:∀s b,G1.sm s=some b->G'.sm s=some b)(ht:∀τ t,G1.tk τ=some t->G'.tk (τ+N)=some t){x:AV}{v:Value}(hp:lK x=true)(h:aD (num ns) G1 x v):aD (num ns) G' (jg N x) v:=by
 cases x with
 |own l τ=>
  simp only[jg,aD]at h⊢;obtain⟨t,e1,e2,e3,e4⟩:=h;exact⟨t,ht _ _ e1,e2,e3.mono hK,fun hl=>⟨(e4 hl).1,Q5 (e4 hl).2 fun⟨b,o,e,r⟩=>⟨b,o,e,Row.mono hK _ _ _ _ r⟩⟩⟩
 |_=>
  simp only[jg];exact og (G:=G1) (G':=G') hK hs (by simpa[lK]using hp) h
def s7{G1 G':Gh}{N:Nat}(hK:G1.K.le G'.K)(hs:∀s b,G1.sm s=some b->G'.sm s=some b)(ht:∀τ t,G1.tk τ=some t->G'.tk (τ+N)=some t):∀{xs:List AV}{vs:List Value},fM xs=true->aC (num ns) G1 xs vs->aC (num ns) G' (xs.map (jg N)) vs
 |[],_,_,h=>by simpa only[zaJ,aC]using h
 |x::xs,_,hp,h=>by
  simp only[fM,zah]at hp;simp only[zal,aC]at h⊢;obtain⟨v,r,e,e1,e2⟩:=h;exact⟨v,r,e,uZ hK hs ht hp.1 e1,s7 hK hs ht hp.2 e2⟩
def xB{G1 G':Gh}{N:Nat}(hK:G1.K.le G'.K)(hs:∀s b,G1.sm s=some b->G'.sm s=some b)(ht:∀τ t,G1.tk τ=some t->G'.tk (τ+N)=some t){x:AV}{v:Value}(hp:bU x=true)(h:aD (num ns) G1 x v):aD (num ns) G' (cY N x) v:=by
 cases x with
 |own l τ=>exact uZ (x:=.own l τ) hK hs ht rfl h
 |agg cs=>
  simp only[cY];split
  .rename_i hf;exact jI (G:=G1) (G':=G') hK hs (by simpa[bI]using hf) h
  .simp only[aD]at h⊢;obtain⟨vs,e,r⟩:=h;exact⟨vs,e,s7 hK hs ht (by simpa[bU]using hp) r⟩
 |_=>
  simp only[cY];exact og (G:=G1) (G':=G') hK hs (by simpa[bU]using hp) h
def pq{G1 G':Gh}{N:Nat}(hK:G1.K.le G'.K)(hs:∀s b,G1.sm s=some b->G'.sm s=some b)(ht:∀τ t,G1.tk τ=some t->G'.tk (τ+N)=some t):∀{xs:List AV}{vs:List Value},xs.all bU=true->aC (num ns) G1 xs vs->aC (num ns) G' (xs.map (cY N)) vs
 |[],_,_,h=>by simpa only[zaJ,aC]using h
 |x::xs,_,hp,h=>by
  simp only[zaQ,zah]at hp;simp only[zal,aC]at h⊢;obtain⟨v,r,e,e1,e2⟩:=h;exact⟨v,r,e,xB hK hs ht hp.1 e1,pq hK hs ht hp.2 e2⟩
def HX{m:Nat->Option Nat}{G1:Gh}{n N:Nat}:∀τ t,G1.tk τ=some t->(G.back m G1 n N).tk (τ+N)=some t:=by
 intro τ t h;simp only[Gh.back];rw[zai (by omega),Nat.add_sub_cancel];exact h
def JF{m:Nat->Option Nat}{G1:Gh}{n N:Nat}{xs:List AV}{vs:List Value}(hp:xs.all bU=true)(h:aC (num ns) G1 xs vs):aC (num ns) (G.back m G1 n N) (xs.map (cY N)) vs:=
 pq (G1:=G1) (G':=G.back m G1 n N) (N:=N) (bt.le_refl G1.K) (fun _ _ h=>h) HX hp h
theorem BM{N n:Nat}{x:AV}(h:aJ n x=true):aJ n (jg N x)=true:=by
 cases x with
 |own _ _=>rfl
 |_=>exact h
theorem qn{N n:Nat}:∀{xs:List AV},aJ.cI n xs=true->aJ.cI n (xs.map (jg N))=true
 |[],_=>rfl
 |x::xs,h=>by
  simp only[aJ.cI,zah]at h;simp only[zal,aJ.cI,BM h.1,qn h.2,zcT]
theorem BN{N n:Nat}{x:AV}(h:aJ n x=true):aJ n (cY N x)=true:=by
 cases x with
 |own _ _=>rfl
 |agg cs=>
  simp only[cY];split
  .exact h
  .simp only[aJ]at h⊢;exact qn h
 |_=>exact h
theorem BO{N:Nat}{x:AV}(h:aY x=true):aY (cY N x)=true:=by
 cases x with
 |own _ _=>rfl
 |agg _=>simp[aY]at h
 |_=>exact h
def Inv.back{G1:Gh}{w1:World}{mem:List (Nat×List AV)}{sh sh':Sh}{aa aH ts ts':aF}{m:Nat->Option Nat}{tks:List Tk}(hi:Inv (num ns) G w mem sh aa)(hN:NS G aH ts m tks)(N:aH.length=aa.length)
   (h1:Inv (num ns) G1 w1 [] sh' ts') (g:bY (G.to m tks) w G1 w1):
   Inv (num ns) (G.back m G1 w.heap.size aa.length) w1 mem (dU aa.length sh') (aH++ts')/\G.le (G.back m G1 w.heap.size aa.length)/\bY G w (G.back m G1 w.heap.size aa.length) w1:=by
 have L:∀τ t,G.tk τ=some t->τ<aa.length:=fun τ t h=>(zaa.1 (hi.gF τ t h)).1
 have p:∀τ t,G.tk τ=some t->m τ=none->(G.back m G1 w.heap.size aa.length).tk τ=some t:=by
  intro τ t h hm;simp only[Gh.back,zan (L τ t h),h,hm]
 have l:∀τ t k,G.tk τ=some t->m τ=some k->(G.back m G1 w.heap.size aa.length).tk τ=some {t with base:=none,len:=t.len+1,cap:=t.len+1,own:=false}:=by
  intro τ t k h hm;simp only[Gh.back,zan (L τ t h),h,hm]
 have O:G.le (G.back m G1 w.heap.size aa.length):=⟨g.K,fun _ _ h=>h,g.sm,fun τ t h=>by
  cases hm:m τ with
  |none=>exact⟨t,p τ t h hm,⟨zas _,Tk.iP _⟩,fun _=>rfl⟩
  |some k=>exact⟨_,l τ t k h hm,⟨by simp,fun _=>⟨rfl,by simp⟩,.inl ⟨rfl,by simp⟩⟩,fun e=>by simp at e⟩⟩
 have E:∀b,b<w.heap.size->G.role b=.fe->(G.back m G1 w.heap.size aa.length).role b=.fe:=by intro b a hr;simp only[Gh.back,zan a,hr]
 have H:∀b d,b<w.heap.size->G.role b=.mW d->(G.back m G1 w.heap.size aa.length).role b=.mW d:=by intro b d a hr;simp only[Gh.back,zan a,hr]
 have i:∀b τ,b<w.heap.size->G.role b=.tok τ->m τ=none->(G.back m G1 w.heap.size aa.length).role b=.tok τ:=by intro b τ a hr hm;simp only[Gh.back,zan a,hr,hm]
 have q:∀b τ k,b<w.heap.size->G.role b=.tok τ->m τ=some k->(G.back m G1 w.heap.size aa.length).role b=po aa.length (G1.role b):=by intro b τ k a hr hm;simp only[Gh.back,zan a,hr,hm]
 have C:∀b s,b<w.heap.size->G.role b=.shr s->(G.back m G1 w.heap.size aa.length).role b=po aa.length (G1.role b):=by intro b s a hr;simp only[Gh.back,zan a,hr]
 have u:∀b,¬b<w.heap.size->(G.back m G1 w.heap.size aa.length).role b=po aa.length (G1.role b):=by intro b a;simp only[Gh.back,zai a]
 have D:∀b,G1.role b≠.fe->(G.back m G1 w.heap.size aa.length).role b=po aa.length (G1.role b):=by
  intro b hn;by_cases a:b<w.heap.size
  .cases hr:G.role b with
   |shr s=>exact C b s a hr
   |fe=>exact absurd (g.fe b a (nq hr)).1 hn
   |mW d=>exact absurd (g.fe b a (ze hr)).1 hn
   |tok τ=>
    cases hm:m τ with
    |none=>exact absurd (g.fe b a (qm hr hm)).1 hn
    |some k=>exact q b τ k a hr hm
  .exact u b a
 have f:∀b o v,G1.K b o=some v->po aa.length (G1.role b)=.fe\/∃τ,po aa.length (G1.role b)=.tok τ:=by
  intro b o v J;rcases h1.bm b o v J with h|⟨τ,h⟩
  .left;rw[h];rfl
  .right;exact⟨τ+aa.length,by rw[h];rfl⟩
 have F:bY G w (G.back m G1 w.heap.size aa.length) w1:={
           size:=g.size,os:=g.os,tape:=g.tape,output:=g.output,K:=g.K,sm:=g.sm,
           fe:=fun b a hr=>⟨E b a hr,(g.fe b a (nq hr)).2⟩
           jt:=fun b τ a hr=>by
            cases hm:m τ with
            |none=>exact .inr ⟨τ,i b τ a hr hm⟩
            |some k=>
             rw[q b τ k a hr hm];rcases g.jt b k a (zd hr hm)with h|⟨τ',h⟩
             .left;rw[h];rfl
             .right;exact⟨τ'+aa.length,by rw[h];rfl⟩
           iG:=fun b o v a hr J=>g.iG b o v a (nq hr) J}
 refine⟨⟨h1.known,?_,?_,?_,hi.iu,?_,?_,?_,?_,hi.jj F⟩,O,F⟩
 .intro b o v J;have B:G1.K b o=some v:=J;by_cases a:b<w.heap.size
  .cases hr:G.role b with
   |shr s=>rw[C b s a hr];exact f b o v B
   |fe=>exact .inl (E b a hr)
   |tok τ=>
    cases hm:m τ with
    |none=>exact .inr ⟨τ,i b τ a hr hm⟩
    |some k=>rw[q b τ k a hr hm];exact f b o v B
   |mW d=>
    exfalso;have R:G.K b o=some v:=g.iG b o v a (ze hr) B;rcases hi.bm b o v R with h|⟨τ,h⟩<;>rw[hr]at h<;>simp at h
  .rw[u b a];exact f b o v B
 .intro b a;have:=g.size;rw[u b (by omega),h1.fresh b a];rfl
 .intro d cs hd;obtain⟨b,e1,e2,e3⟩:=hi.di d cs hd;obtain⟨hr,c,t,P,z⟩:=e2;have a:=db P;exact⟨b,e1,⟨H b d a hr,c,t,((g.fe b a (ze hr)).2).trans P,aC.mono O z⟩,e3⟩
 .intro s V M;simp only[dU,zaK,zac]at M;obtain⟨o,hs,Q⟩:=M;cases o with
  |none=>simp at Q
  |some cs=>
   simp at Q;subst Q;obtain⟨b,e1,e2,e3,e4⟩:=h1.dH s cs hs;obtain⟨hr,o,P,z⟩:=e2;refine⟨b,e1,⟨?_,o,P,z.to (fun _ _ _ h=>h) (fun kvs e=>by subst e;rfl) (fun _ r=>JF (jA e3) r)⟩,?_,?_⟩
   .rw[D b.1 (by rw[hr];simp),hr];rfl
   .rw[zaq];intro x hx;obtain⟨y,hy,rfl⟩:=zat.1 hx;exact BO (zaq.1 e3 y hy)
   .rw[zaq];intro x hx;obtain⟨y,hy,rfl⟩:=zat.1 hx;exact BN (zaq.1 e4 y hy)
 .intro s b h;have:=h1.fu s b h;simp only[dU,zak];exact this
 .intro τ n hn;by_cases A:τ<aa.length
  .rw[zar (by omega)]at hn;obtain⟨t,e1,e2,e3⟩:=hi.dV τ _ (zbe A);cases hm:m τ with
   |none=>
    have:=hN.free τ t e1 hm;rw[hn]at this;simp at this;refine⟨t,p τ t e1 hm,this.symm,e3.cap,e3.zero,fun I=>?_⟩;obtain⟨b,o,c,ty,f1,f2,f3,T,S⟩:=e3.spare I;have a:=db f3;exact⟨b,o,c,ty,f1,i b τ a f2 hm,((g.fe b a (qm f2 hm)).2).trans f3,T,fun j v J=>S j v (g.iG b j v a (qm f2 hm) J)⟩
   |some k=>
    have:=hN.used τ t k e1 hm;rw[hn]at this;simp at this;exact⟨_,l τ t k e1 hm,this.symm,⟨zas _,fun h=>by simp at h,fun h=>by simp at h⟩⟩
  .rw[zaB (by omega),N]at hn;obtain⟨t,e1,e2,e3⟩:=h1.dV _ n hn;refine⟨t,by simp only[Gh.back,zai A];exact e1,e2,e3.cap,e3.zero,fun I=>?_⟩;obtain⟨b,o,c,ty,f1,f2,f3,T,S⟩:=e3.spare I;refine⟨b,o,c,ty,f1,?_,f3,T,S⟩;rw[D b (by rw[f2];simp),f2];simp only[po];rw[Nat.sub_add_cancel (by omega)]
 .intro τ t ht;simp only[Gh.back]at ht;split at ht
  .rename_i A;rw[zar (by omega)];split at ht
   .rename_i U h0;split at ht
    .rename_i k hm;simp at ht;subst ht;exact hN.used τ U k h0 hm
    .rename_i hm;simp at ht;subst ht;exact hN.free τ U h0 hm
   .simp at ht
  .rename_i A;rw[zaB (by omega),N];exact h1.gF _ t ht
def zg{G1 G':Gh}{N:Nat}(hK:G1.K.le G'.K)(hs:∀s b,G1.sm s=some b->G'.sm s=some b)(ht:∀τ t,G1.tk τ=some t->G'.tk (τ+N)=some t){rs:List AV}{v:Value}(hp:rs.all bU=true)(h:dJ (num ns) G1 rs v):dJ (num ns) G' (rs.map (cY N)) v:=by
 unfold dJ at h;split at h
 .rename_i r;simp only[zaQ,List.all_nil,zcS]at hp;simp only[zal,zaJ,dJ];exact xB hK hs ht hp h
 .rename_i hn;obtain⟨vs,e,h⟩:=h;unfold dJ;split
  .rename_i r c;cases rs with
   |nil=>simp at c
   |cons a rs=>
    cases rs with
    |nil=>exact absurd rfl (hn a)
    |cons _ _=>simp at c
  .exact⟨vs,e,pq hK hs ht hp h⟩
def BP{m:Nat->Option Nat}{G1:Gh}{n N:Nat}{rs:List AV}{v:Value}(hp:rs.all bU=true)(h:dJ (num ns) G1 rs v):dJ (num ns) (G.back m G1 n N) (rs.map (cY N)) v:=
 zg (G1:=G1) (G':=G.back m G1 n N) (N:=N) (bt.le_refl G1.K) (fun _ _ h=>h) HX hp h
end
end Go.Ab
namespace Go.Ab
section
variable {P:Program} {ns:Names} {G:Gh} {w:World}
def xD{rs:List PV}{v:Value}(h:iJ G.K rs v):aD (num ns) G (uF rs) v:=by
 match rs,h with
 |[r],h=>simp only[iJ]at h;simp only[uF,aD];exact h
 |[],h=>simp only[iJ]at h;simp only[uF,aD];obtain⟨vs,e,h⟩:=h;exact⟨vs,e,iQ h⟩
 |_::_::_,h=>simp only[iJ]at h;simp only[uF,aD];obtain⟨vs,e,h⟩:=h;exact⟨vs,e,iQ h⟩
def JG{rs:List AV}{v:Value}(h:dJ (num ns) G rs v):aD (num ns) G (tH rs) v:=by
 match rs,h with
 |[r],h=>simp only[dJ]at h;simp only[tH];exact h
 |[],h=>simp only[dJ]at h;simp only[tH,aD];exact h
 |_::_::_,h=>simp only[dJ]at h;simp only[tH,aD];exact h
def JH{v:AV}{a:Value}(h:aD (num ns) G v a):aD (num ns) G (lJ v) a:=by
 unfold lJ;split
 .rename_i p hp;simp only[aD];exact yZ hp h
 .exact h
def u_{own:List Nat}:∀{i:Nat}{xs:List AV}{vs:List Value},aC (num ns) G xs vs->aC (num ns) G (eB own i xs) vs
 |_,[],_,h=>by simpa[eB,aC]using h
 |i,x::xs,_,h=>by
  simp only[aC]at h;obtain⟨v,r,rfl,e1,e2⟩:=h;simp only[eB,aC];refine⟨v,r,rfl,?_,u_ e2⟩;split
  .exact e1
  .exact JH e1
def Nc{A:lG}{dst:Option Nat}{c:Call}{k:AK}{args:List Operand}(h:bR P ns A dst (.call c)=some (k,args))(b:k.calls=true):
   (∃f g,c.callee=.value (.func f)/\ns.of f=some g/\args=c.args.toList/\(k=.aE g\/k=.d8 g\/(∃own,k=.bB g own)\/(∃sz a,(k=.clone sz a\/∃ag,k=.ie sz a ag)/\look ns.cl g=some (sz,a))\/k=.uD g))\/
   (∃t,c.callee=.value (.tmp t)/\args=.tmp t::c.args.toList/\(k=.gk\/k=.fq)):=by
 obtain⟨callee,j,i⟩:=c;simp only[bR]at h;split at h
 .split at h<;>simp at h<;>(obtain⟨rfl,_⟩:=h;simp[AK.calls]at b)
 .split at h<;>simp at h;obtain⟨rfl,_⟩:=h;simp[AK.calls]at b
 .split at h<;>simp at h;obtain⟨rfl,_⟩:=h;simp[AK.calls]at b
 .split at h
  .split at h
   .rw[zab]at h;obtain⟨_,h⟩:=h;split at h
    .simp only[zac,zaD]at h;obtain⟨_,_,rfl,_⟩:=h;simp[AK.calls]at b
    .split at h<;>(simp at h;obtain⟨rfl,_⟩:=h;simp[AK.calls]at b)
   .simp at h
  .simp at h
 .split at h
  .split at h
   .split at h<;>simp at h
    obtain⟨rfl,_⟩:=h;simp[AK.calls]at b
   .simp at h
  .simp at h
 .split at h
  .split at h<;>simp at h
   obtain⟨rfl,_⟩:=h;simp[AK.calls]at b
  .simp at h
 .rename_i f;left;split at h
  .rename_i g d;split at h
   .rename_i sz a e;rw[zab]at h;obtain⟨_,h⟩:=h;split at h
    .split at h
     .simp only[zac,zaD]at h;obtain⟨ag,_,h1,h2⟩:=h;exact⟨f,g,rfl,d,h2.symm,.inr (.inr (.inr (.inl ⟨sz,a,.inr ⟨ag,h1.symm⟩,e⟩)))⟩
     .simp at h
    .simp only[zag,zaD]at h;exact⟨f,g,rfl,d,h.2.symm,.inr (.inr (.inr (.inl ⟨sz,a,.inl h.1.symm,e⟩)))⟩
   .split at h
    .simp at h;exact⟨f,g,rfl,d,h.2.symm,.inr (.inr (.inr (.inr h.1.symm)))⟩
    .split at h
     .simp at h;exact⟨f,g,rfl,d,h.2.symm,.inr (.inr (.inl ⟨_,h.1.symm⟩))⟩
     .split at h
      .simp at h;exact⟨f,g,rfl,d,h.2.symm,.inr (.inl h.1.symm)⟩
      .simp at h;exact⟨f,g,rfl,d,h.2.symm,.inl h.1.symm⟩
  .simp at h
 .rename_i t;right;split at h
  .simp at h;exact⟨t,rfl,h.2.symm,.inr h.1.symm⟩
  .simp at h;exact⟨t,rfl,h.2.symm,.inl h.1.symm⟩
 .simp at h
mutual
theorem HY:∀{a b:PV},oM a b=true->a=b
 | .bool a,b,h=>by cases b<;>simp[oM]at h;rw[h]
 | .int k n,b,h=>by cases b<;>simp[oM]at h;rw[h.1,h.2]
 | .str s,b,h=>by cases b<;>simp[oM]at h;rw[h]
 | .agg l,b,h=>by
  cases b with
  |agg q=>simp only[oM]at h;rw[ve h]
  |_=>simp[oM]at h
 | .aq l,b,h=>by
  cases b with
  |aq q=>simp only[oM]at h;rw[ve h]
  |_=>simp[oM]at h
theorem ve:∀{a b:List PV},p_ a b=true->a=b
 |[],b,h=>by cases b with|nil=>rfl|cons _ _=>simp[p_]at h
 |x::r,b,h=>by
  cases b with
  |nil=>simp[p_]at h
  |cons y q=>
   simp only[p_,zah]at h;rw[HY h.1,ve h.2]
end
def HZ:∀{a b:List AV},wT a b=true->a=b
 |[],b,h=>by cases b with|nil=>rfl|cons _ _=>simp[wT]at h
 |x::r,b,h=>by
  cases b with
  |nil=>simp[wT]at h
  |cons y q=>
   simp only[wT,zah]at h;rw[HZ h.2];have h1:=h.1;cases x with
   |pv p=>cases y with
    |pv p'=>simp only[Xx]at h1;rw[HY h1]
    |_=>simp[Xx]at h1
   |_=>simp[Xx]at h1
def zh:∀{a b:Sh},oN a b=true->a=b
 |[],b,h=>by cases b with|nil=>rfl|cons _ _=>simp[oN]at h
 |none::r,b,h=>by
  cases b with
  |nil=>simp[oN]at h
  |cons y q=>cases y with
   |none=>simp only[oN]at h;rw[zh h]
   |some _=>simp[oN]at h
 |some x::r,b,h=>by
  cases b with
  |nil=>simp[oN]at h
  |cons y q=>cases y with
   |none=>simp[oN]at h
   |some y=>
    simp only[oN,zah]at h;rw[HZ h.1,zh h.2]
def wX{orc:eY}{vals:List AV}{cells:Option (List AV)}{sh:Sh}{aa:aF}{out:Out}(h:exec orc .fq vals cells sh aa=some out):exec orc .gk vals cells sh aa=some out:=by
 cases vals with
 |nil=>simp[exec]at h
 |cons f vals=>
  cases f with
  |fn g cap=>
   simp only[exec,zaF]at h;obtain⟨⟨v,sh',ts⟩,h1,h2⟩:=h;simp only[roK,zab,zag]at h2;obtain⟨h3,rfl⟩:=h2;have:=zh h3;subst this;simp[exec,h1]
  |_=>simp[exec]at h
def nr{orc:eY}(b:iD P ns orc){f g:Nat}{own:List Nat}(o:ns.of f=some g){vals:List AV}{vs:List Value}{x:AV}{mem:List (Nat×List AV)}{sh sh':Sh}{aa toks':aF}
   (hr:aC (num ns) G vals vs) (hi:Inv (num ns) G w mem sh aa) (h:ek orc g own vals sh aa=some (x,sh',toks')):
   Calls P f vs.toArray w fun e w'=>∃v G',e=.returned v/\aD (num ns) G' x v/\Inv (num ns) G' w' mem sh' toks'/\G.le G'/\bY G w G' w':=by
 unfold ek at h;simp only[zab,zac]at h;obtain⟨hp,⟨rs,j,d⟩,h1,h2⟩:=h;simp only[zaD]at h2;obtain⟨rfl,rfl,rfl⟩:=h2;obtain⟨hC,l⟩:=b.i g f _ _ rs _ j d o (i_ hp) h1;obtain⟨m,tks,hN,k,a⟩:=hi.M_ hp (u_ (own:=own) (i:=0) hr);refine(hC (G.to m tks) w vs k a).mono ?_
 rintro e w' ⟨v,G1,rfl,jk,n,c⟩
 obtain⟨g1,g2,p⟩:=hi.back hN JE n c;exact⟨v,_,rfl,JG (BP l jk),g1,g2,p⟩
def Ra(Y:fy P ns){orc:eY}(i:iD P ns orc){A:lG}{o:Oper}{k:AK}{args:List Operand}(hc:bR P ns A o.dst o.op=some (k,args)){a:Act}{vals:List AV}{out:Out}
   {mem:List (Nat×List AV)} {sh:Sh} {aa:aF} (hr:aC (num ns) G vals (args.map a.eval)) (hi:Inv (num ns) G w mem sh aa)
   (h:exec orc k vals (k.key.bind (look mem)) sh aa=some out) {next:Act->World->Prop} {Q:Exit->Act->World->Prop}
   (hn:∀v w' G',aD (num ns) G' out.val v->Inv (num ns) G' w' (fQ mem k.key out.cells) out.sh out.aa->G.le G'->bY G w G' w'->next (a.put o.dst v) w'):o.wp P a w next Q:=by
 cases X:k.calls with
 |false=>
  obtain⟨n,v,w',G',g1,g2,l,g4,g5,g6⟩:=sR hc X hr hi h;unfold Oper.wp;rw[g1];rcases g2 with rfl|⟨rfl,rfl⟩
  .exact hn v w' G' l g4 g5 g6
  .exact hn undef w' G' l g4 g5 g6
 |true=>
  obtain⟨dst,op,type,pos,after,guard⟩:=o;have E:∃c,op=.call c:=Ey (k:=k) (by cases k<;>simp_all[AK.calls]) hc;obtain⟨c,rfl⟩:=E;rcases Nc hc X with⟨f,g,j,C,rfl,V⟩|⟨t,j,rfl,J⟩
  .have d:(execOp a.eval ⟨dst,.call c,type,pos,after,guard⟩).run P w=.ok (.enter f ((c.args.toList.map a.eval).toArray)) w:=by
    obtain⟨callee,H,B⟩:=c;simp only at j;subst j;simp only[execOp,resolve,zay,Act.eval,Deferred.ofValue,zaG,zam,invoke];rw[qh Y C];congr 2;apply zbQ;simp
   rcases V with rfl|rfl|⟨own,rfl⟩|⟨sz,N,z,W⟩|rfl
   .-- for pure M
    simp only[exec]at h;split at h
    .rename_i dN hp;simp only[zac]at h;obtain⟨rs,h1,rfl⟩:=h;have hC:=i.p g f dN rs C h1 G.K w _ (fun b c F=>(hi.mP b c F).2) hi.known (pe hp hr);unfold Oper.wp;rw[d];refine hC.mono ?_
     rintro e w' ⟨v,K',rfl,jk,hK,m,D,F⟩
     obtain⟨g1,g2,l⟩:=hi.pure hK m D F;exact hn v w' _ (xD jk) (by simpa[AK.key,fQ]using g1) g2 l
    .simp at h
   .-- for pure M,T frozen
    simp only[exec]at h;split at h
    .rename_i dN hp;simp only[zac]at h;obtain⟨rs,h1,rfl⟩:=h;obtain⟨G1,k1,k2,k3,k4,k5⟩:=Inv.kill (vals.flatMap eA) hi;have hC:=i.p g f dN rs C h1 G1.K w _ (fun b c F=>(k1.mP b c F).2) k1.known (sT k2 k4 hi.uU (fun s hs=>hs) hp hr);unfold Oper.wp;rw[d];refine hC.mono ?_
     rintro e w' ⟨v,K',rfl,jk,hK,m,D,F⟩
     obtain⟨g1,g2,l⟩:=k1.pure hK m D F;exact hn v w' _ (xD jk) (by simpa[AK.key,fQ,cQ]using g1) (Gh.le_trans k2 g2) (k3.trans l)
    .simp at h
   .-- with the R S
    simp only[exec,zac]at h;obtain⟨⟨x,sh',ts'⟩,h1,rfl⟩:=h;have hC:=nr i C hr hi h1;unfold Oper.wp;rw[d];refine hC.mono ?_
    rintro e w' ⟨v,G',rfl,g1,g2,l,g4⟩
    exact hn v w' G' g1 (by simpa[AK.key,fQ]using g2) l g4
   .-- O.Clone
    have q:k.key=none:=by rcases z with rfl|⟨ag,rfl⟩<;>rfl
    rw[q]at hn;rcases vals with _|⟨x,_|⟨_,_⟩⟩
    .rcases z with rfl|⟨ag,rfl⟩<;>simp[exec]at h
    .obtain⟨U,y,sh',ts',h1,rfl⟩:∃U y sh' ts',gA U sz N x sh aa=some (y,sh',ts')/\out=⟨y,none,sh',ts'⟩:=by
      rcases z with rfl|⟨ag,rfl⟩
      .simp only[exec,zac]at h;obtain⟨⟨y,ts'⟩,h1,rfl⟩:=h;exact⟨none,y,sh,ts',by simp[gA,h1],rfl⟩
      .simp only[exec,zac]at h;obtain⟨⟨y,sh',ts'⟩,h1,rfl⟩:=h;exact⟨some ag,y,sh',ts',h1,rfl⟩
     have hl:=hr.length;obtain⟨v,hv⟩:∃v,c.args.toList.map a.eval=[v]:=List.length_eq_one_iff.1 (by simpa using hl);rw[hv]at hr;simp only[aC]at hr;obtain⟨v',r,e,hx,rfl⟩:=hr;cases e;have hC:=i.c g sz N f W C U G w mem sh sh' aa ts' x y v hi hx h1;unfold Oper.wp;rw[d,hv];refine hC.mono ?_
     rintro e w' ⟨u,G',rfl,g1,g2,l,g4⟩
     exact hn u w' G' g1 (by simpa[fQ]using g2) l g4
    .rcases z with rfl|⟨ag,rfl⟩<;>simp[exec]at h
   .simp[exec]at h
  .-- a I value
   have q:k.key=none:=by rcases J with rfl|rfl<;>rfl
   replace h:exec orc .gk vals none sh aa=some out:=by
    rcases J with rfl|rfl
    .exact h
    .exact wX h
   rw[q]at hn;cases vals with
   |nil=>simp[aC]at hr
   |cons Z vals=>
    simp only[zal,aC]at hr;obtain⟨fv,r,e,hf,hr⟩:=hr;simp only[zbH]at e;obtain⟨rfl,rfl⟩:=e;cases Z with
    |fn g cap=>
     simp only[exec,zac]at h;obtain⟨⟨x,sh',ts'⟩,h1,rfl⟩:=h;simp only[aD]at hf;obtain⟨f,vs,C,hv,L⟩:=hf
     have d:(execOp a.eval ⟨dst,.call c,type,pos,after,guard⟩).run P w=.ok (.enter f ((c.args.toList.map a.eval++vs).toArray)) w:=by
      obtain⟨callee,H,B⟩:=c;simp only at j;subst j;simp only[execOp,resolve,zay];rw[hv];simp only[Deferred.ofValue,zaG,zam,invoke];rw[qh Y C];congr 2;apply zbQ;simp
     have hC:=nr i C (aC.append hr L) hi h1;unfold Oper.wp;rw[d];refine hC.mono ?_
     rintro e w' ⟨v,G',rfl,g1,g2,l,g4⟩
     exact hn v w' G' g1 (by simpa[AK.key,fQ]using g2) l g4
    |_=>simp[exec]at h
end
end Go.Ab
namespace Go.Ab
section
variable {n0:Nat} {P:Program} {ns:Names} {G:Gh} {w:World}
def ng.mono{G':Gh}{N:Nat}{env:List (Nat×AV)}{a:Act}(h:ng (num ns) G N env a)(b:G.le G'):ng (num ns) G' N env a:=
 ⟨h.size,fun t x hx=>let ⟨v,h1,h2⟩:=h.env t x hx;⟨v,h1,h2.mono b⟩⟩
def ng.put{N:Nat}{env:List (Nat×AV)}{a:Act}(h:ng (num ns) G N env a){dst:Option Nat}(hd:(dst.map (fun d=>decide (d<N))).getD true=true){x:AV}{v:Value}(hx:aD (num ns) G x v):
   ng (num ns) G N (gB env dst x) (a.put dst v):=by
 cases dst with
 |none=>exact h
 |some d=>
  simp at hd;refine⟨by simp[Act.put,h.size],fun t y hy=>?_⟩;simp only[gB]at hy;by_cases ht:d=t
  .subst ht;rw[bN]at hy;cases hy;exact⟨v,by simp[Act.put,h.size,hd],hx⟩
  .rw[bZ _ _ _ _ ht]at hy;obtain⟨u,h1,h2⟩:=h.env t y hy;exact⟨u,by simp only[Act.put];rw[za1 ht];exact h1,h2⟩
def put_defers(a:Act)(dst:Option Nat)(v:Value):(a.put dst v).defers=a.defers:=by cases dst<;>rfl
def mu{A:lG}{N:Nat}{ops:Array Oper}{o:Oper}{a:dM}(h:cA P ns A N ops o=some a):
   ∃args,bR P ns A o.dst o.op=some (a.op,args)/\cg (js ns) args=some a.args/\a.dst=o.dst/\(o.dst.map (fun d=>decide (d<N))).getD true=true /\
     ((o.guard=none/\a.guard=none)\/∃j b t,o.guard=some (j,b)/\(ops[j]?).bind (·.dst)=some t/\a.guard=some (t,b)):=by
 unfold cA at h;split at h
 .rename_i k args e;split at h
  .rename_i as f;simp only[zab]at h;obtain⟨hd,h⟩:=h;split at h
   .rename_i c;simp at h;subst h;exact⟨args,e,f,rfl,hd,.inl ⟨c,rfl⟩⟩
   .rename_i j b c;split at h
    .rename_i t ht;simp at h;subst h;exact⟨args,e,f,rfl,hd,.inr ⟨j,b,t,c,ht,rfl⟩⟩
    .simp at h
  .simp at h
 .simp at h
def qo{A:lG}{N:Nat}{ops:Array Oper}{o:Oper}{e:dM}{env:List (Nat×AV)}{a:Act}(h:cA P ns A N ops o=some e)(d:ng (num ns) G N env a){r:Bool}
   (hw:ga env e.guard=some r):Region.wanted o (yielded ops a.tmps)=r:=by
 obtain⟨_,_,_,_,_,f⟩:=mu h;rcases f with⟨h1,h2⟩|⟨j,b,t,h1,h2,h3⟩
 .rw[h2]at hw;simp[ga]at hw;simp[Region.wanted,h1,hw]
 .rw[h3]at hw;simp only[ga]at hw;split at hw
  .rename_i c hc;obtain⟨v,e1,e2⟩:=d.env t _ hc;simp only[aD,jP]at e2;simp at hw;simp[Region.wanted,h1,yielded,h2,e1,e2,hw]
  .rename_i hc;obtain⟨v,e1,e2⟩:=d.env t _ hc;simp only[aD]at e2;simp at hw;simp[Region.wanted,h1,yielded,h2,e1,e2,undef,<-hw]
  .simp at hw
def EE(g:fy P ns){orc:eY}(d:iD P ns orc){A:lG}{N:Nat}{ops:Array Oper}{o:Oper}{e:dM}(hc:cA P ns A N ops o=some e)
   {st c:St} {a:Act} (hs:iv (num ns) n0 N G st a w) (b:d_ orc e st=some c) {next:Act->World->Prop} {Q:Exit->Act->World->Prop}
   (hn:∀G' v w',iv (num ns) n0 N G' c (a.put o.dst v) w'->bY G w G' w'->next (a.put o.dst v) w'):
   (Region.wanted o (yielded ops a.tmps)=true/\o.wp P a w next Q)\/(Region.wanted o (yielded ops a.tmps)=false/\next (a.put o.dst undef) w):=by
 obtain⟨args,h1,h2,h3,h4,_⟩:=mu hc;unfold d_ at b;split at b
 .simp at b
 .rename_i hw;right;refine⟨qo hc hs.env hw,?_⟩;simp at b;subst b;refine hn G _ w ⟨?_,hs.inv,hs.marks.wQ (bY.refl G w) (put_defers _ _ _)⟩ (bY.refl G w);simp only[h3];exact hs.env.put h4 (by simp[aD])
 .rename_i hw;left;refine⟨qo hc hs.env hw,?_⟩;split at b
  .simp at b
  .rename_i vals hv;split at b
   .simp at b
   .rename_i out f;simp at b;subst b;have hr:=Bb hs.env h2 hv;refine Ra g d h1 hr hs.inv f ?_;intro v w' G' g1 g2 h g4;refine hn G' _ w' ⟨?_,g2,hs.marks.wQ g4 (put_defers _ _ _)⟩ g4;simp only[h3];exact(hs.env.mono h).put h4 g1
end
end Go.Ab
namespace Go.Ab
section
variable {orc:eY}
def Nd(E:Nat->Option AV):fp->Option AV
 | .t n=>E n
 | .c v=>some v
def lN(E:Nat->Option AV):List fp->Option (List AV)
 |[]=>some []
 |x::r=>match Nd E x,lN E r with
  |some v,some vs=>some (v::vs)
  |_,_=>none
def oi(E:Nat->Option AV):Option (Nat×Bool)->Option Bool
 |none=>some true
 |some (t,b)=>match E t with
  |some (.pv (.bool c))=>some (c == b)
  |some .un=>some false
  |_=>none
def dd(orc:eY)(o:dM)(E:Nat->Option AV)(M:Nat->Option (List AV))(sh:Sh)(aa:aF):Option Out:=
 match oi E o.guard with
 |none=>none
 |some false=>some ⟨.un,none,sh,aa⟩
 |some true=>match lN E o.args with
  |none=>none
  |some vals=>exec orc o.op vals (o.op.key.bind M) sh aa
theorem vf(env:List (Nat×AV)):∀l,eC env l=lN (look env) l
 |[]=>rfl
 |x::l=>by
  have:iB env x=Nd (look env) x:=by cases x<;>rfl
  simp only[eC,lN,this,vf env l];rfl
theorem ef(o:dM)(st:St):d_ orc o st=(dd orc o (look st.env) (look st.mem) st.sh st.aa).map
   fun r=>{env:=gB st.env o.dst r.val,mem:=fQ st.mem o.op.key r.cells,sh:=r.sh,aa:=r.aa}:=by
 unfold d_ dd
 have hw:ga st.env o.guard=oi (look st.env) o.guard:=by
  cases o.guard with
  |none=>rfl
  |some g=>rfl
 rw[hw];cases oi (look st.env) o.guard with
 |none=>rfl
 |some b=>cases b with
  |false=>simp[gg]
  |true=>
   simp only[vf];cases lN (look st.env) o.args with
   |none=>rfl
   |some vals=>
    simp only;cases exec orc o.op vals (o.op.key.bind (look st.mem)) st.sh st.aa<;>rfl
theorem nu{E a:Nat->Option AV}:∀{l:List fp},(∀t∈l.filterMap (fun| .t n=>some n|_=>none),E t=a t)->lN E l=lN a l
 |[],_=>rfl
 | .c v::l,h=>by
  simp only[lN,Nd];rw[nu (l:=l) (fun t ht=>h t (by simpa using ht))]
 | .t n::l,h=>by
  simp only[lN,Nd];rw[nu (l:=l) (fun t ht=>h t (by simp only[List.filterMap_cons,zau];exact .inr ht)),h n (by simp)]
theorem ij{o:dM}{E a:Nat->Option AV}{M c:Nat->Option (List AV)}{sh:Sh}{aa:aF}(d:∀t∈o.looks,E t=a t)(h:∀k,o.op.key=some k->M k=c k):
   dd orc o E M sh aa=dd orc o a c sh aa:=by
 have h1:oi E o.guard=oi a o.guard:=by
  cases f:o.guard with
  |none=>rfl
  |some g=>
   obtain⟨t,b⟩:=g;simp only[oi];rw[d t (by simp[dM.looks,f])]
 have h2:lN E o.args=lN a o.args:=nu fun t ht=>d t (by simp only[dM.looks,zaz];exact .inl ht)
 have h3:o.op.key.bind M=o.op.key.bind c:=by
  cases e:o.op.key with
  |none=>rfl
  |some k=>exact h k e
 unfold dd;rw[h1,h2,h3]
def Vx{op:AK}{vals:List AV}{cells:Option (List AV)}{sh:Sh}{aa:aF}{r:Out}(ht:op.ji=false)(h:exec orc op vals cells sh aa=some r):
   r.sh=sh/\∀sh',exec orc op vals cells sh' aa=some {r with sh:=sh'}:=by
 cases op with
 |v a=>
  simp only[exec,zac]at h⊢;obtain⟨x,h1,rfl⟩:=h;exact⟨rfl,fun sh'=>⟨x,h1,rfl⟩⟩
 |cr k o s ag=>
  obtain⟨cs,x,rfl,rfl,hx,rfl⟩:=iI h;exact⟨rfl,fun sh'=>by simp[exec,hx]⟩
 |bH k o s=>
  obtain⟨cs,v,rfl,rfl,h1,h2,h3,rfl⟩:=iY h;exact⟨rfl,fun sh'=>by simp[exec,h1,h2,h3]⟩
 |alloc k z=>
  obtain⟨rfl,rfl,rfl⟩:=jU h;exact⟨rfl,fun sh'=>by simp[exec]⟩
 |box k s=>
  obtain⟨v,rfl,rfl,h1,h2,rfl⟩:=ni h;exact⟨rfl,fun sh'=>by simp only[exec];rw[zan ⟨h1,h2⟩]⟩
 |iU d s b z=>
  obtain⟨k,k',n,rfl,h1,h2,h3,h4,rfl,rfl⟩:=jV h;exact⟨rfl,fun sh'=>by simp[exec,h1,h2,h3,h4]⟩
 |append s b=>
  obtain⟨s,x,y,ts,rfl,h1,rfl⟩:=kQ h;exact⟨rfl,fun sh'=>by simp[exec,h1]⟩
 |dk s b ag=>simp[AK.ji]at ht
 |ig s z=>simp[AK.ji]at ht
 |kJ s=>simp[AK.ji]at ht
 |clone s b=>
  obtain⟨x,y,ts,rfl,h1,rfl⟩:=pj h;exact⟨rfl,fun sh'=>by simp[exec,h1]⟩
 |aE g=>
  simp only[exec]at h⊢;split at h
  .rename_i dN hp;simp only[zac]at h;obtain⟨rs,h1,rfl⟩:=h;exact⟨rfl,fun sh'=>by simp[h1]⟩
  .simp at h
 |_=>first|(simp[AK.ji]at ht;done)|(simp[exec]at h;done)|(simp[exec]at e;done)|(simp[exec];done)
def Vy{op:AK}{vals:List AV}{cells:Option (List AV)}{sh:Sh}{aa:aF}{r:Out}(ht:op.gD=false)(h:exec orc op vals cells sh aa=some r):
   r.aa=aa/\∀ts,exec orc op vals cells sh ts=some {r with aa:=ts}:=by
 cases op with
 |v i=>
  simp only[exec,zac]at h⊢;obtain⟨x,h1,rfl⟩:=h;exact⟨rfl,fun ts=>⟨x,h1,rfl⟩⟩
 |cr k o s ag=>
  obtain⟨cs,x,rfl,rfl,hx,rfl⟩:=iI h;exact⟨rfl,fun ts=>by simp[exec,hx]⟩
 |bH k o s=>
  obtain⟨cs,v,rfl,rfl,h1,h2,h3,rfl⟩:=iY h;exact⟨rfl,fun ts=>by simp[exec,h1,h2,h3]⟩
 |alloc k z=>
  obtain⟨rfl,rfl,rfl⟩:=jU h;exact⟨rfl,fun ts=>by simp[exec]⟩
 |box k s=>
  obtain⟨v,rfl,rfl,h1,h2,rfl⟩:=ni h;exact⟨rfl,fun ts=>by simp only[exec];rw[zan ⟨h1,h2⟩]⟩
 |iU d s b z=>
  obtain⟨k,k',n,rfl,h1,h2,h3,h4,rfl,rfl⟩:=jV h;exact⟨rfl,fun ts=>by simp[exec,h1,h2,h3,h4]⟩
 |append s b=>simp[AK.gD]at ht
 |dk s b ag=>simp[AK.gD]at ht
 |yR s b=>simp[AK.gD]at ht
 |clone s b=>simp[AK.gD]at ht
 |ie s b ag=>
  rcases vals with _|⟨x,_|⟨_,_⟩⟩
  .simp[exec]at h
  .simp only[exec,gA]at h⊢;split at h
   .rename_i xs hx;split at h
    .rename_i f;simp only[Option.map_map,zac]at h;obtain⟨⟨y,sh'⟩,h1,rfl⟩:=h;refine⟨rfl,fun ts=>?_⟩;simp[hx,f,h1]
    .simp at h
   .simp at h
  .simp[exec]at h
 |ig s z=>
  obtain⟨x,sh',rfl,h1,rfl⟩:=sP h;exact⟨rfl,fun ts=>by simp[exec,h1]⟩
 |kJ s=>
  obtain⟨x,y,xs,k,sh',rfl,h0,h1,rfl⟩:=mi h;exact⟨rfl,fun ts=>by simp[exec,h0,h1]⟩
 |aE g=>
  simp only[exec]at h⊢;split at h
  .rename_i dN hp;simp only[zac]at h;obtain⟨rs,h1,rfl⟩:=h;exact⟨rfl,fun ts=>by simp[h1]⟩
  .simp at h
 |d8 g=>
  simp only[exec]at h⊢;split at h
  .rename_i dN hp;simp only[zac]at h;obtain⟨rs,h1,rfl⟩:=h;exact⟨rfl,fun ts=>by simp[h1]⟩
  .simp at h
 |bB g own=>simp[AK.gD]at ht
 |uD g=>simp[AK.gD]at ht
 |gk=>simp[AK.gD]at ht
 |fq=>simp[AK.gD]at ht
 |eg s ag=>
  obtain⟨p,x,rfl,rfl,c⟩:=mg h;refine⟨rfl,fun ts=>?_⟩;rcases c with⟨cs,rfl,hx⟩|⟨b,off,cs,rfl,a,hm,hx⟩
  .simp[exec,hx]
  .simp[exec,a,hm,hx]
 |fK s=>
  obtain⟨b,off,v,cs,rfl,a,h0,h1,h2,h3,h4,rfl⟩:=iZ h;refine⟨rfl,fun ts=>?_⟩;simp only[exec,a];rw[zan ⟨h0,h1,h2,h3,h4⟩]
 |p7 s=>
  obtain⟨v,rfl,h1,h2,h3,rfl⟩:=oe h;refine⟨rfl,fun ts=>?_⟩;simp only[exec];rw[zan ⟨h1,h2,h3⟩]
 |jM z=>
  obtain⟨rfl,rfl⟩:=kP h;exact⟨rfl,fun ts=>by simp[exec]⟩
 |jN s b ag z=>
  obtain⟨k,k',n,rfl,h1,h2,h3,h4,rfl⟩:=mh h;exact⟨rfl,fun ts=>by simp[exec,h1,h2,h3,h4]⟩
 |_=>first|(simp[exec]at h;done)|(simp[exec]at e;done)|(simp[exec];done)
def Vz{op:AK}{vals:List AV}{cells:Option (List AV)}{sh:Sh}{aa:aF}{r:Out}(ht:op.iO=false)(a:op.key≠none)(h:exec orc op vals cells sh aa=some r):r.cells=none:=by
 cases op with
 |cr k o s ag=>
  obtain⟨cs,x,rfl,rfl,hx,rfl⟩:=iI h;rfl
 |bH k o s=>simp[AK.iO]at ht
 |alloc k z=>simp[AK.iO]at ht
 |box k s=>simp[AK.iO]at ht
 |iU d s b z=>simp[AK.iO]at ht
 |_=>simp[AK.key]at a
def wY{sz:Nat}{ag:Bool}{vals:List AV}{cells:Option (List AV)}{sh:Sh}{aa:aF}{r:Out}(h:exec orc (.eg sz ag) vals cells sh aa=some r):r.sh=sh:=by
 obtain⟨p,x,rfl,rfl,_⟩:=mg h;rfl
def wZ{c:CK}{ok:Bool}{z:PV}{vals:List AV}{cells:Option (List AV)}{sh:Sh}{aa:aF}{r:Out}(h:exec orc (.A9 c ok z) vals cells sh aa=some r):r.sh=sh:=by simp[exec]at h
def vg{vals:List AV}{cells:Option (List AV)}{sh:Sh}{aa:aF}{r:Out}(h:exec orc .fq vals cells sh aa=some r):r.sh=sh:=by
 cases vals with
 |nil=>simp[exec]at h
 |cons f vals=>
  cases f with
  |fn g cap=>
   simp only[exec,zaF]at h;obtain⟨⟨v,sh',ts⟩,_,h2⟩:=h;simp only[roK,zab,zag]at h2;rw[<-h2.2]
  |_=>simp[exec]at h
def vh{o:dM}{E:Nat->Option AV}{M:Nat->Option (List AV)}{sh:Sh}{aa:aF}{r:Out}(ht:o.op.ji=false)(h:dd orc o E M sh aa=some r):
   r.sh=sh/\∀sh',dd orc o E M sh' aa=some {r with sh:=sh'}:=by
 unfold dd at*;split at h
 .simp at h
 .simp at h;subst h;exact⟨rfl,fun _=>rfl⟩
 .split at h
  .simp at h
  .exact Vx ht h
def BQ{o:dM}{E:Nat->Option AV}{M:Nat->Option (List AV)}{sh:Sh}{aa:aF}{r:Out}(ht:o.op.xq=true)(h:dd orc o E M sh aa=some r):r.sh=sh:=by
 unfold dd at*;split at h
 .simp at h
 .simp at h;subst h;rfl
 .split at h
  .simp at h
  .rename_i vals _;cases a:o.op with
   |eg sz ag=>
    rw[a]at h;have hl:=wY h;exact hl
   |A9 c ok z=>
    rw[a]at h;exact wZ h
   |fq=>
    rw[a]at h;exact vg h
   |_=>rw[a]at ht;simp[AK.xq]at ht
def qp{o:dM}{E:Nat->Option AV}{M:Nat->Option (List AV)}{sh:Sh}{aa:aF}{r:Out}(ht:o.op.gD=false)(h:dd orc o E M sh aa=some r):
   r.aa=aa/\∀ts,dd orc o E M sh ts=some {r with aa:=ts}:=by
 unfold dd at*;split at h
 .simp at h
 .simp at h;subst h;exact⟨rfl,fun _=>rfl⟩
 .split at h
  .simp at h
  .exact Vy ht h
def qq{o:dM}{E:Nat->Option AV}{M:Nat->Option (List AV)}{sh:Sh}{aa:aF}{r:Out}(ht:o.op.iO=false)(a:o.op.key≠none)(h:dd orc o E M sh aa=some r):r.cells=none:=by
 unfold dd at h;split at h
 .simp at h
 .simp at h;subst h;rfl
 .split at h
  .simp at h
  .exact Vz ht a h
structure lg(x y:St):Prop where
 env:∀t,look x.env t=look y.env t
 mem:∀t,look x.mem t=look y.mem t
 sh:x.sh=y.sh
 aa:x.aa=y.aa
def lg.refl(x:St):lg x x:=⟨fun _=>rfl,fun _=>rfl,rfl,rfl⟩
def lg.symm{x y:St}(h:lg x y):lg y x:=⟨fun t=>(h.env t).symm,fun t=>(h.mem t).symm,h.sh.symm,h.aa.symm⟩
def lg.trans{x y z:St}(h:lg x y)(k:lg y z):lg x z:=⟨fun t=>(h.env t).trans (k.env t),fun t=>(h.mem t).trans (k.mem t),h.sh.trans k.sh,h.aa.trans k.aa⟩
def eQ(env:List (Nat×AV))(d:Option Nat)(v:AV)(t:Nat):look (gB env d v) t=if d=some t then some v else look env t:=by
 cases d with
 |none=>simp[gB]
 |some d=>
  simp only[gB,zag];by_cases h:d=t
  .subst h;rw[zan rfl,bN]
  .rw[zai h,bZ _ _ _ _ h]
def oj(mem:List (Nat×List AV))(k:Option Nat)(c:Option (List AV))(t:Nat):look (fQ mem k c) t=if k=some t then(match c with|some cs=>some cs|none=>look mem t)else look mem t:=by
 cases c with
 |none=>rw[gg];split<;>rfl
 |some cs=>
  cases k with
  |none=>simp[fQ]
  |some k=>
   simp only[fQ,zag];by_cases h:k=t
   .subst h;rw[zan rfl,bN]
   .rw[zai h,bZ _ _ _ _ h]
def JI{o:dM}{x y b:St}(h:lg x y)(c:d_ orc o x=some b):∃a,d_ orc o y=some a/\lg b a:=by
 rw[ef,zac]at c;obtain⟨r,hr,rfl⟩:=c
 have:dd orc o (look y.env) (look y.mem) y.sh y.aa=some r:=by
  rw[<-h.sh,<-h.aa,<-hr];exact(ij (fun t _=>h.env t) (fun t _=>h.mem t)).symm
 refine⟨{env:=gB y.env o.dst r.val,mem:=fQ y.mem o.op.key r.cells,sh:=r.sh,aa:=r.aa},by rw[ef,this];rfl,⟨fun t=>?_,fun t=>?_,rfl,rfl⟩⟩
 .simp only[eQ,h.env]
 .simp only[oj,h.mem]
end
end Go.Ab
namespace Go.Ab
section
variable {orc:eY}
def rJ{x y:dM}(h:indep x y=true):
   (∀d,x.dst=some d->d∉y.looks/\y.dst≠some d)/\(∀d,y.dst=some d->d∉x.looks)/\(x.op.ji=false\/y.op.ji=false\/(x.op.xq=true/\y.op.xq=true))/\(x.op.gD=false\/y.op.gD=false)/\
   (∀k,x.op.key=some k->y.op.key=some k->x.op.iO=false/\y.op.iO=false):=by
 simp only[indep,zah,zbs,zc1,Bool.and_eq_false_iff]at h;obtain⟨⟨⟨⟨h1,h2⟩,h3⟩,h4⟩,h5⟩:=h;refine⟨fun d hd=>?_,fun d hd=>?_,h3.elim (fun h=>h.elim .inl fun h=>.inr (.inl h)) fun h=>.inr (.inr h),h4,fun k hx hy=>?_⟩
 .rw[hd]at h1;simp at h1;exact h1
 .rw[hd]at h2;simpa using h2
 .rw[hx,hy]at h5;simp at h5;exact h5
def Rb{x y:dM}(h:indep x y=true){st n m:St}(h1:d_ orc x st=some n)(h2:d_ orc y n=some m):
   ∃l j,d_ orc y st=some l/\d_ orc x l=some j/\lg j m:=by
 obtain⟨nv,xE,hS,hT,hK⟩:=rJ h;rw[ef,zac]at h1 h2;obtain⟨r1,d,rfl⟩:=h1;obtain⟨r2,s,rfl⟩:=h2;simp only at s
 have b:dd orc y (look st.env) (look st.mem) r1.sh r1.aa=some r2:=by
  rw[<-s];refine ij (fun t ht=>?_) (fun k v=>?_)
  .rw[eQ,zai];intro e;exact(nv t e).1 ht
  .rw[oj];split
   .rename_i e;have:=qq (hK k e v).1 (by rw[e];simp) d;rw[this]
   .rfl
 obtain⟨sh',ts',hy,g,tP⟩:∃sh' ts',dd orc y (look st.env) (look st.mem) st.sh st.aa=some {r2 with sh:=sh',aa:=ts'}/\
     ((x.op.ji=false/\sh'=r2.sh/\r1.sh=st.sh)\/(sh'=st.sh/\r2.sh=r1.sh))/\
     ((x.op.gD=false/\ts'=r2.aa/\r1.aa=st.aa)\/(y.op.gD=false/\ts'=st.aa/\r2.aa=r1.aa)):=by
   have c:∃sh',dd orc y (look st.env) (look st.mem) st.sh r1.aa=some {r2 with sh:=sh'}/\((x.op.ji=false/\sh'=r2.sh/\r1.sh=st.sh)\/(sh'=st.sh/\r2.sh=r1.sh)):=by
    rcases hS with hS|hS|⟨hS,w⟩
    .have e:=(vh hS d).1;exact⟨r2.sh,by rw[<-e];exact b,.inl ⟨hS,rfl,e⟩⟩
    .obtain⟨e,f⟩:=vh hS b;exact⟨st.sh,f st.sh,.inr ⟨rfl,e⟩⟩
    .have e:=BQ hS d;have e2:=BQ w b;exact⟨r2.sh,by rw[<-e];exact b,.inr ⟨e2.trans e,e2⟩⟩
   obtain⟨sh',o,g⟩:=c;rcases hT with hT|hT
   .have e:=(qp hT d).1;exact⟨sh',r2.aa,by rw[<-e];exact o,g,.inl ⟨hT,rfl,e⟩⟩
   .obtain⟨_,f⟩:=qp hT o;have e:=(qp hT b).1;exact⟨sh',st.aa,f st.aa,g,.inr ⟨hT,rfl,e⟩⟩
 refine⟨{env:=gB st.env y.dst r2.val,mem:=fQ st.mem y.op.key r2.cells,sh:=sh',aa:=ts'},?_⟩
 have hx:dd orc x (look (gB st.env y.dst r2.val)) (look (fQ st.mem y.op.key r2.cells)) st.sh st.aa=some r1:=by
  rw[<-d];refine ij (fun t ht=>?_) (fun k v=>?_)
  .rw[eQ,zai];intro e;exact xE t e ht
  .rw[oj];split
   .rename_i e;have:=qq (hK k v e).2 (by rw[e];simp) b;rw[this]
   .rfl
 obtain⟨a,u,p,i,r,q⟩:∃a,dd orc x (look (gB st.env y.dst r2.val)) (look (fQ st.mem y.op.key r2.cells)) sh' ts'=some a/\a.val=r1.val/\a.cells=r1.cells/\a.sh=r2.sh/\a.aa=r2.aa:=by
  have c:∃a,dd orc x (look (gB st.env y.dst r2.val)) (look (fQ st.mem y.op.key r2.cells)) sh' st.aa=some a/\a.val=r1.val/\a.cells=r1.cells/\a.sh=r2.sh/\a.aa=r1.aa:=by
   rcases g with⟨hS,rfl,_⟩|⟨rfl,e⟩
   .exact⟨_,(vh hS hx).2 r2.sh,rfl,rfl,rfl,rfl⟩
   .exact⟨r1,hx,rfl,rfl,e.symm,rfl⟩
  obtain⟨D,z,C,B,A,E⟩:=c;rcases tP with⟨hT,rfl,_⟩|⟨_,rfl,e⟩
  .exact⟨_,(qp hT z).2 r2.aa,C,B,A,rfl⟩
  .exact⟨D,z,C,B,A,E.trans e.symm⟩
 refine⟨{env:=gB (gB st.env y.dst r2.val) x.dst a.val,mem:=fQ (fQ st.mem y.op.key r2.cells) x.op.key a.cells,sh:=a.sh,aa:=a.aa},?_,?_,?_⟩
 .rw[ef,hy];rfl
 .rw[ef,u];rfl
 .refine⟨fun t=>?_,fun t=>?_,r,q⟩
  .simp only[eQ,p];by_cases hx:x.dst=some t
   .rw[zan hx,zai (nv t hx).2,zan hx]
   .rw[zai hx,zai hx]
  .simp only[oj,i];by_cases hx:x.op.key=some t
   .rw[zan hx,zan hx];by_cases hy:y.op.key=some t
    .rw[zan hy,zan hy];have e1:=qq (hK t hx hy).1 (by rw[hx];simp) d;have e2:=qq (hK t hx hy).2 (by rw[hy];simp) b;rw[e1,e2]
    .rw[zai hy,zai hy]
   .rw[zai hx,zai hx]
def zi{o:dM}{a:Nat}(h:o.addr=some a):∃r,o.args=.t a::r/\((∃sz ag,o.op=.eg sz ag)\/∃sz,o.op=.fK sz):=by
 unfold dM.addr at h;split at h
 .rename_i sz ag b r h1 h2;cases h;exact⟨r,h2,.inl ⟨sz,ag,h1⟩⟩
 .rename_i sz b r h1 h2;cases h;exact⟨r,h2,.inr ⟨sz,h1⟩⟩
 .cases h
def vi{o:dM}{a:Nat}(h:o.addr=some a):a∈o.looks:=by
 obtain⟨r,h1,_⟩:=zi h;simp[dM.looks,h1]
def BR{o:dM}{a:Nat}(h:o.addr=some a):o.op.key=none:=by
 obtain⟨r,_,h|h⟩:=zi h
 .obtain⟨_,_,h⟩:=h;rw[h];rfl
 .obtain⟨_,h⟩:=h;rw[h];rfl
def JJ(b:Nat)(g:Sh->Sh):Prop:=g=id\/∃x,g=fun s=>s.set b x
def JJ.other{b b':Nat}{g:Sh->Sh}(h:JJ b g)(a:b≠b')(s:Sh):(g s)[b']?=s[b']?:=by
 rcases h with rfl|⟨x,rfl⟩
 .rfl
 .exact List.getElem?_set_ne a
def JJ.comm{b b':Nat}{g a:Sh->Sh}(h:JJ b g)(h':JJ b' a)(c:b≠b')(s:Sh):g (a s)=a (g s):=by
 rcases h with rfl|⟨x,rfl⟩
 .rfl
 .rcases h' with rfl|⟨y,rfl⟩
  .rfl
  .exact(List.set_comm _ _ c.symm)
def s8{o:dM}{a:Nat}(h:o.addr=some a){E:Nat->Option AV}{M:Nat->Option (List AV)}{sh:Sh}{aa:aF}{r:Out}{b off:Nat}(j:E a=some (.aV b off))
   (hr:dd orc o E M sh aa=some r):r.cells=none/\r.aa=aa/\∃g,JJ b g/\r.sh=g sh/\∀sh',sh'[b]?=sh[b]?->dd orc o E M sh' aa=some {r with sh:=g sh'}:=by
 obtain⟨rest,h1,h2⟩:=zi h;unfold dd at hr⊢;split at hr
 .simp at hr
 .simp at hr;subst hr;exact⟨rfl,rfl,id,.inl rfl,rfl,fun sh' _=>rfl⟩
 .rw[h1]at hr⊢;simp only[lN,Nd,j]at hr⊢;cases hv:lN E rest with
  |none=>rw[hv]at hr;simp at hr
  |some vs=>
   rw[hv]at hr;simp only at hr⊢;rcases h2 with⟨sz,ag,h2⟩|⟨sz,h2⟩
   .rw[h2]at hr⊢;obtain⟨p,x,hp,rfl,e⟩:=mg hr;refine⟨rfl,rfl,id,.inl rfl,rfl,fun sh' hs=>?_⟩;cases vs with
    |cons _ _=>simp at hp
    |nil=>
     simp at hp;rcases e with⟨cs,rfl,hx⟩|⟨b',d,cs,rfl,c,hm,hx⟩
     .simp at hp
     .simp at hp;obtain⟨rfl,rfl⟩:=hp;simp[exec,hs,c,hm,hx]
   .rw[h2]at hr⊢;obtain⟨b',d,v,cs,hp,c,h0,i,f,h3,h4,rfl⟩:=iZ hr;simp at hp;obtain⟨⟨rfl,rfl⟩,rfl⟩:=hp;refine⟨rfl,rfl,fun s=>s.set b (some (aS cs off (cJ v))),.inr ⟨_,rfl⟩,rfl,fun sh' hs=>?_⟩;simp only[exec,hs,c];rw[zan ⟨h0,i,f,h3,h4⟩]
def Yb(F:Nat->Option AV)(x y:dM):Prop:=indep x y=true \/
 ((∀d,x.dst=some d->d∉y.looks/\y.dst≠some d)/\(∀d,y.dst=some d->d∉x.looks)/\∃a b,x.addr=some a/\y.addr=some b/\apart (F a) (F b)=true)
def xF{x y:Option AV}(h:apart x y=true):∃b o b' o',x=some (.aV b o)/\y=some (.aV b' o')/\b≠b':=by
 unfold apart at h;split at h
 .rename_i b o b' o';exact⟨b,o,b',o',rfl,rfl,by simpa using h⟩
 .cases h
def Nf{F:Nat->Option AV}{x y:dM}(h:Yb F x y){st m o:St}(hx:∀a,x.addr=some a->look st.env a=F a)(hy:∀a,y.addr=some a->look m.env a=F a)
   (h1:d_ orc x st=some m) (h2:d_ orc y m=some o):
   ∃c f,d_ orc y st=some c/\d_ orc x c=some f/\lg f o/\(∀a,y.addr=some a->look st.env a=F a)/\(∀a,x.addr=some a->look c.env a=F a):=by
 have i:(∀d,x.dst=some d->d∉y.looks/\y.dst≠some d)/\(∀d,y.dst=some d->d∉x.looks):=by
  rcases h with h|h
  .exact⟨(rJ h).1,(rJ h).2.1⟩
  .exact⟨h.1,h.2.1⟩
 have g:∀a,y.addr=some a->look st.env a=F a:=by
  intro a j;have h3:=hy a j;rw[ef,zac]at h1;obtain⟨r1,_,rfl⟩:=h1;rw[<-h3];simp only[eQ];rw[zai];intro e;exact(i.1 a e).1 (vi j)
 have l:∀c,d_ orc y st=some c->∀a,x.addr=some a->look c.env a=F a:=by
  intro c h3 a j;rw[ef,zac]at h3;obtain⟨r1,_,rfl⟩:=h3;rw[<-hx a j];simp only[eQ];rw[zai];intro e;exact i.2 a e (vi j)
 rcases h with h|⟨nv,xE,a,b,j,A,B⟩
 .obtain⟨c,f,g1,g2,K⟩:=Rb h h1 h2;exact⟨c,f,g1,g2,K,g,l c g1⟩
 .obtain⟨N,I,M,H,fa,L,n⟩:=xF B;have D:look st.env a=some (.aV N I):=(hx a j).trans fa;have C:look st.env b=some (.aV M H):=(g b A).trans L;have J:=h1;rw[ef,zac]at h1 h2;obtain⟨r1,z,rfl⟩:=h1;obtain⟨r2,r,rfl⟩:=h2;obtain⟨c1,t1,E,tx,s1,k1⟩:=s8 j D z;simp only at r
  have q:dd orc y (look st.env) (look st.mem) (E st.sh) st.aa=some r2:=by
   rw[<-r,s1,t1];refine ij (fun t ht=>?_) (fun k s=>?_)
   .rw[eQ,zai];intro e;exact(nv t e).1 ht
   .rw[BR A]at s;cases s
  obtain⟨c2,t2,u,ty,G,k2⟩:=s8 A C q;have v:=k2 st.sh (tx.other n st.sh).symm
  have p:d_ orc y st=some {env:=gB st.env y.dst r2.val,mem:=fQ st.mem y.op.key r2.cells,sh:=u st.sh,aa:=r2.aa}:=by
   rw[ef,v];rfl
  have w:dd orc x (look (gB st.env y.dst r2.val)) (look (fQ st.mem y.op.key r2.cells)) (u st.sh) r2.aa=some {r1 with sh:=E (u st.sh)}:=by
   rw[<-k1 (u st.sh) (ty.other (zb4 n) st.sh),t2];refine ij (fun t ht=>?_) (fun k s=>?_)
   .rw[eQ,zai];intro e;exact xE t e ht
   .rw[BR j]at s;cases s
  refine⟨_,{env:=gB (gB st.env y.dst r2.val) x.dst r1.val,mem:=fQ (fQ st.mem y.op.key r2.cells) x.op.key r1.cells,sh:=E (u st.sh),aa:=r1.aa},p,?_,?_,g,l _ p⟩
  .rw[ef,w];rfl
  .refine⟨fun t=>?_,fun t=>?_,?_,?_⟩
   .simp only[eQ];by_cases hx:x.dst=some t
    .rw[zan hx,zai (nv t hx).2,zan hx]
    .rw[zai hx,zai hx]
   .simp only[c1,c2,gg]
   .simp only[G];exact tx.comm ty n st.sh
   .simp only[t1,t2]
variable {ops:Array Oper} {as:List dM} {R:St->Prop} {F:Nat->Option AV}
def BS(orc:eY)(ops:Array Oper)(as:List dM)(F:Nat->Option AV)(R:St->Prop):Nat->Array Bool->St->Prop
 |0,b,st=>Region.ready .any ops b=[]/\R st
 |fuel+1,b,st=>(Region.ready .any ops b=[]->R st)/\
   ∀i∈Region.ready .any ops b,∃d c,as[i]?=some d/\(∀a,d.addr=some a->look st.env a=F a)/\d_ orc d st=some c/\BS orc ops as F R fuel (b.setIfInBounds i true) c
def xG(c:∀x y,lg x y->R x->R y):∀{fuel:Nat}{b:Array Bool}{x y:St},lg x y->BS orc ops as F R fuel b x->BS orc ops as F R fuel b y
 |0,_,_,_,hl,h=>⟨h.1,c _ _ hl h.2⟩
 |fuel+1,_,_,_,hl,h=>⟨fun h0=>c _ _ hl (h.1 h0),fun i hi=>by
  obtain⟨g,e,h1,h6,h2,h3⟩:=h.2 i hi;obtain⟨d,h4,h5⟩:=JI hl h2;exact⟨g,d,h1,fun a f=>(hl.env a).symm.trans (h6 a f),h4,xG c h5 h3⟩⟩
def Down(ops:Array Oper)(a:Array Bool):Prop:=∀k o,ops[k]?=some o->a.getD k false=true->∀e∈o.after,Region.binds .any e=true->a.getD e.on false=true
def Down.step{a:Array Bool}(h:Down ops a){i:Nat}(hi:i∈Region.ready .any ops a):Down ops (a.setIfInBounds i true):=by
 intro k o f g e j l;by_cases c:i=k
 .subst c;obtain⟨_,o',b,d⟩:=zcJ.1 hi;rw[f]at b;cases b;exact getD_set_true (d e j l)
 .rw[getD_set_ne false c]at g;exact getD_set_true (h k o f g e j l)
theorem EF(C:∀x y,lg x y->R x->R y){i:Nat}{p:dM}(t:as[i]?=some p){waits:Nat->Bool}
   (o:∀(b:Array Bool),Down ops b->∀j∈Region.ready .any ops b,waits j=true->b.getD i false=true):
   ∀(fuel:Nat)(b:Array Bool)(st g:St),Down ops b->
     (∀j u,as[j]?=some u->j≠i->b.getD j true=false->waits j=false->Yb F p u)->(∀a,p.addr=some a->look st.env a=F a)->
     i∈Region.ready .any ops b->d_ orc p st=some g->BS orc ops as F R fuel (b.setIfInBounds i true) g->BS orc ops as F R (fuel+1) b st:=by
 intro fuel;induction fuel with
 |zero=>
  intro b st g f e c hi l H;refine⟨fun h=>(by rw[h]at hi;cases hi),fun j hj=>?_⟩;by_cases d:j=i
  .subst d;exact⟨p,g,t,c,l,H⟩
  .have:=ready_mono hj d;rw[H.1]at this;cases this
 |succ fuel A=>
  intro b st g f e c hi l H;refine⟨fun h=>(by rw[h]at hi;cases hi),fun j hj=>?_⟩;by_cases d:j=i
  .subst d;exact⟨p,g,t,c,l,H⟩
  .obtain⟨u,z,h1,h6,h2,h3⟩:=H.2 j (ready_mono hj d);obtain⟨r,_⟩:=zcJ.1 hj
   have hw:waits j=false:=by
    cases hw:waits j with
    |false=>rfl
    |true=>
     have h1:=o b f j hj hw;have h0:=(zcJ.1 hi).1;rcases zcd i b.size with h'|h'
     .simp[h']at h0 h1;rw[h0]at h1;cases h1
     .simp[Array.getElem?_eq_none h']at h1
   obtain⟨m,q,g1,g2,D,g4,g5⟩:=Nf (e j u h1 d r hw) c h6 l h2;refine⟨u,m,h1,g4,g1,A (b.setIfInBounds j true) m q (f.step hj) ?_ g5 (ready_mono hi (zb4 d)) g2 ?_⟩
   .intro k E B w n v;refine e k E B w ?_ v;by_cases s:j=k
    .subst s;exact r
    .rw[getD_set_ne true s]at n;exact n
   .rw[Array.setIfInBounds_comm _ _ d];exact xG C D.symm h3
def qt(acc:List Nat)(i:Nat):∀(l:List Edge)(s:Nat),
   (l.foldl (fun s e=>if Region.binds .any e then s ||| 2 ^ e.on ||| acc.getD e.on 0 else s) s).testBit i=true->
   s.testBit i=true\/∃e∈l,Region.binds .any e=true/\(e.on=i\/(acc.getD e.on 0).testBit i=true)
 |[],s,h=>.inl h
 |e::l,s,h=>by
  simp only[zaS]at h;rcases qt acc i l _ h with h1|⟨b,h2,h3⟩
  .split at h1
   .rename_i a;rw[Nat.testBit_or,Nat.testBit_or,zbs,zbs]at h1;rcases h1 with(h1|h1)|h1
    .exact .inl h1
    .refine .inr ⟨e,by simp,a,.inl ?_⟩;rw[Nat.testBit_two_pow]at h1;simpa using h1
    .exact .inr ⟨e,by simp,a,.inr h1⟩
   .exact .inl h1
  .exact .inr ⟨b,by simp[h2],h3⟩
def vj:∀(l:List Oper)(acc:List Nat),(nc l acc).length=acc.length+l.length/\(∀j,j<acc.length->(nc l acc).getD j 0=acc.getD j 0)/\
   ∀k o,l[k]?=some o->∀i,((nc l acc).getD (acc.length+k) 0).testBit i=true->∃e∈o.after.toList,Region.binds .any e=true/\(e.on=i\/((nc l acc).getD e.on 0).testBit i=true)
 |[],acc=>⟨by simp[nc],fun j _=>rfl,fun k o h=>by simp at h⟩
 |o::l,acc=>by
  simp only[nc];obtain⟨h1,h2,h3⟩:=vj l (acc++[o.after.toList.foldl (fun s e=>if Region.binds .any e then s ||| 2 ^ e.on ||| acc.getD e.on 0 else s) 0]);refine⟨by rw[h1];simp;omega,fun j hj=>?_,fun k o' a i hi=>?_⟩
  .rw[h2 j (by simp;omega)];simp[List.getD,zar hj]
  .cases k with
   |zero=>
    simp at a;subst a;rw[zba,h2 acc.length (by simp)]at hi
    have:(acc++[o.after.toList.foldl (fun s e=>if Region.binds .any e then s ||| 2 ^ e.on ||| acc.getD e.on 0 else s) 0]).getD acc.length 0 =
        o.after.toList.foldl (fun s e=>if Region.binds .any e then s ||| 2 ^ e.on ||| acc.getD e.on 0 else s) 0:=by
      simp[List.getD]
    rw[this]at hi;rcases qt acc i _ _ hi with h|⟨e,h4,h5,h6⟩
    .simp at h
    .refine⟨e,h4,h5,Q5 h6 fun h=>?_⟩
     have b:e.on<acc.length:=by
      rcases zcd e.on acc.length with h'|h'
      .exact h'
      .simp[List.getD,za4 h']at h
     rw[h2 e.on (by simp;omega)];simpa[List.getD,zar b]using h
   |succ k=>
    have:=h3 k o' (by simpa using a) i (by simpa[zbN,Nat.add_comm 1 k]using hi);exact this
def jY:∀(l:List Oper)(i:Nat),iF i l=true->∀k o,l[k]?=some o->∀e∈o.after,Region.binds .any e=true->e.on<i+k
 |[],_,_,k,o,h,_,_,_=>by simp at h
 |o::l,i,hd,k,o',a,e,b,c=>by
  simp only[iF,zah,zaq]at hd;cases k with
  |zero=>
   simp at a;subst a;have:=hd.1 e (by simpa using b);simpa[c]using this
  |succ k=>
   have:=jY l (i+1) hd.2 k o' (by simpa using a) e b c;omega
def zj{l:List Oper}(hl:ops.toList=l)(hd:iF 0 l=true){a:Array Bool}(c:Down ops a)(i:Nat):∀(j:Nat)(o:Oper),ops[j]?=some o->
   (∀e∈o.after,Region.binds .any e=true->a.getD e.on false=true)->((nc l []).getD j 0).testBit i=true->a.getD i false=true:=by
 intro j;induction j using Nat.strongRecOn with
 |_ j q=>
  intro o p b h;have g:l[j]?=some o:=by rw[<-hl];simpa using p
  obtain⟨e,h1,h2,h3⟩:=(vj l []).2.2 j o g i (by simpa using h);have m:e∈o.after:=by simpa using h1
  rcases h3 with h3|h3
  .rw[<-h3];exact b e m h2
  .have r:=jY l 0 hd j o g e m h2;have f:e.on<j:=(by omega);have s:j<ops.size:=(zaW.1 p).1;have d:ops[e.on]?=some (ops[e.on]'(by omega)):=zbU (by omega);exact q e.on f _ d (fun t k n=>c e.on _ d (b e m h2) t k n) h3
def qv{ds:List (Nat×Nat)}{a:List Nat}{i:Nat}{x:dM}:∀(l:List dM)(j:Nat),tZ ds a i x j l=true->∀k y,l[k]?=some y->(a.getD (j+k) 0).testBit i=true\/(indep x y || Ba ds x y)=true
 |[],_,_,k,y,h=>by simp at h
 |z::l,j,hp,k,y,hy=>by
  simp only[tZ,zah,zbs]at hp;cases k with
  |zero=>simp at hy;subst hy;simpa[or_assoc]using hp.1
  |succ k=>
   have:=qv l (j+1) hp.2 k y (by simpa using hy)
   rwa [show j+1+k=j+(k+1) from by omega]at this
def oT{ds:List (Nat×Nat)}{a:List Nat}:∀(l:List dM)(i:Nat),nf ds a i l=true->∀k m x y,k<m->l[k]?=some x->l[m]?=some y->(a.getD (i+m) 0).testBit (i+k)=true\/(indep x y || Ba ds x y)=true
 |[],_,_,k,m,x,y,_,h,_=>by simp at h
 |z::l,i,hp,k,m,x,y,b,hx,hy=>by
  simp only[nf,zah]at hp;cases m with
  |zero=>omega
  |succ m=>
   cases k with
   |zero=>
    simp at hx;subst hx;have:=qv l (i+1) hp.1 m y (by simpa using hy)
    rwa [show i+1+m=i+(m+1) from by omega]at this
   |succ k=>
    have:=oT l (i+1) hp.2 k m x y (by omega) (by simpa using hx) (by simpa using hy)
    rwa [show i+1+m=i+(m+1) from by omega,show i+1+k=i+(k+1) from by omega]at this
def tQ{n:Nat}(hd:iF 0 ops.toList=true){k:Nat}{o:Oper}{a:Array Bool}(hs:a.size=n)(hl:∀j,j<n->a[j]?=some (decide (j<k)))(hn:ops.size=n)(b:ops[k]?=some o):
   k∈Region.ready .any ops a:=by
 have f:k<ops.size:=(zaW.1 b).1;rw[zcJ];refine⟨by simp[hl k (by omega)],o,b,fun e c d=>?_⟩;have:=jY _ 0 hd k o (by simpa using b) e c d;simp[hl e.on (by omega)];omega
def JK{ds:List (Nat×Nat)}{x y:dM}(h:Ba ds x y=true):
   (∀d,x.dst=some d->d∉y.looks/\y.dst≠some d)/\(∀d,y.dst=some d->d∉x.looks)/\∃a b,x.addr=some a/\y.addr=some b/\(a,b)∈ds:=by
 simp only[Ba,zah]at h;obtain⟨⟨h1,h2⟩,h3⟩:=h;refine⟨fun d hd=>?_,fun d hd=>?_,?_⟩
 .rw[hd]at h1;simp at h1;exact h1
 .rw[hd]at h2;simpa using h2
 .split at h3
  .rename_i a b e c;exact⟨a,b,e,c,by simpa using h3⟩
  .cases h3
def vk{env:List (Nat×AV)}:∀{ds:List (Nat×Nat)},jh env ds=true->∀a b,(a,b)∈ds->apart (look env a) (look env b)=true
 |[],_,a,b,h=>by simp at h
 |(c,b')::r,h,a,b,hm=>by
  simp only[jh,zah]at h;simp only[zau,zaD]at hm;rcases hm with⟨rfl,rfl⟩|hm
  .exact h.1
  .exact vk h.2 a b hm
def vm{t:Nat}:∀{l:List dM}{st a:St},l.all (fun o=>o.dst != some t)=true->bC orc l st=some a->look a.env t=look st.env t
 |[],st,a,_,h=>by simp[bC]at h;subst h;rfl
 |o::l,st,a,hl,h=>by
  simp only[zaQ,zah,bne_iff_ne,ne_eq]at hl;simp only[bC]at h;split at h
  .simp at h
  .rename_i b h1;rw[vm (by simpa using hl.2) h];rw[ef,zac]at h1;obtain⟨r1,_,rfl⟩:=h1;simp only[eQ];rw[zai hl.1]
def BT{ds:List (Nat×Nat)}(I:∀x y,lg x y->R x->R y)(hd:iF 0 ops.toList=true)(hp:nf ds (nc ops.toList []) 0 as=true)(p:as.length=ops.size)
   (hF:∀a b,(a,b)∈ds->apart (F a) (F b)=true):
   ∀(l:List dM)(k:Nat)(c:Array Bool)(st f:St),(∀j,l[j]?=as[k+j]?)->l.length+k=ops.size->c.size=ops.size->(∀j,j<ops.size->c[j]?=some (decide (j<k)))->Down ops c->
     yU l=true->(∀a,F a=look f.env a)->bC orc l st=some f->R f->BS orc ops as F R l.length c st
 |[],k,c,st,f,_,E,hs,hl,_,_,_,d,hr=>by
  simp[bC]at d;subst d;refine⟨?_,hr⟩;rw[List.eq_nil_iff_forall_not_mem];intro i hi;obtain⟨h1,o,D,_⟩:=zcJ.1 hi;have H:i<ops.size:=(zaW.1 D).1;simp at E;simp[hl i H]at h1;omega
 |x::l,k,c,st,f,u,E,hs,hl,g,q,A,d,hr=>by
  have w:=d;simp only[yU,zah]at q;simp only[bC]at d;split at d
  .simp at d
  .rename_i r t;simp only[zae]at E⊢;have hx:as[k]?=some x:=by simpa using(u 0).symm
   have v:k<ops.size:=(by omega);have D:ops[k]?=some ops[k]:=zbU v;have e:=tQ hd hs hl rfl D;refine EF I hx (waits:=fun j=>((nc ops.toList []).getD j 0).testBit k) ?_ l.length c st r g ?_ (fun a K=>?_) e t ?_
   .intro s n j hj hw;obtain⟨_,o,C,z⟩:=zcJ.1 hj;exact zj rfl hd n k j o C z hw
   .intro j N hj J B hw;have G:j<ops.size:=by rw[<-p];exact(zaa.1 hj).1
    have m:k<j:=by
     simp[hl j G]at B;omega
    have:=oT as 0 hp k j x N m hx hj;simp only[zbi]at this;rcases this with h|h
    .rw[h]at hw;simp at hw
    .rcases zbs _ _ |>.mp h with h|h
     .exact .inl h
     .obtain⟨f1,f2,a,b,f3,M,L⟩:=JK h;exact .inr ⟨f1,f2,a,b,f3,M,hF a b L⟩
   .have h1:=q.1;rw[K]at h1;rw[A a];exact(vm h1 w).symm
   .refine BT I hd hp p hF l (k+1) (c.setIfInBounds k true) r f (fun j=>?_) (by omega) (by simp[hs]) (fun j hj=>?_) (g.step e) q.2 A d hr
    .have:=u (j+1);rw[show k+(j+1)=k+1+j from by omega]at this;simpa using this
    .by_cases m:k=j
     .subst m;simp[hs,v]
     .rw[za1 m,hl j hj];congr 1;simp;omega
end
section
variable {n0:Nat} {P:Program} {ns:Names}
def iv.VA{n0 N:Nat}{G:Gh}{x y:St}{a:Act}{w:World}(h:iv (num ns) n0 N G x a w)(hl:lg x y):iv (num ns) n0 N G y a w:=by
 refine⟨⟨h.env.size,fun t v ht=>h.env.env t v (by rw[hl.env];exact ht)⟩,?_,h.marks⟩;have hi:=h.inv;rw[hl.sh,hl.aa]at hi
 exact { hi with
  di:=fun d cells hd=>hi.di d cells (by rw[hl.mem];exact hd)
  iu:=fun d b hd=>by rw[<-hl.mem];exact hi.iu d b hd}
def iv.drew{n0 N:Nat}{G:Gh}{x:St}{a:Act}{w:World}(h:iv (num ns) n0 N G x a w):iv (num ns) n0 N G x a w.drew:=⟨h.env,h.inv.drew,h.marks.wQ (bY.drew G w) rfl⟩
end
end Go.Ab
namespace Go.Ab
section
variable {n0:Nat} {P:Program} {ns:Names} {ro:Option Nat} {n:Nat}
def wR(ro:Option Nat):Fence:={Fence.wide with round:=ro}
def JL{f:FuncId}{args:Array Value}{w:World}{R:Ending->World->Prop}(h:Calls P f args w R):CallsIn (wR ro) n P f args w R:=by
 have h0:=zc6 (n:=n).2 h;cases ro with
 |none=>exact h0
 |some l=>exact h0.inRound l
def Ng{row:String}{args:Array Value}{w:World}{R:Value->World->Prop}(h:Rows P row args w R):RowsIn (wR ro) n P row args w R:=by
 intro c cs _;obtain⟨v,w',r,s⟩:=h c cs;have h0:=stepsIn_wide.2 s;exact⟨v,w',r,h0⟩
def t8{o:Oper}(hd:∀c,o.op≠.defer c){a:Act}{w:World}{next:Act->World->Prop}{Q:Exit->Act->World->Prop}
   (h:o.wp P a w next (fun _ _ _=>False)):o.wpIn (wR ro) n P a w next Q:=by
 refine⟨fun _ _=>trivial,?_⟩;rw[zcX _ _ _ hd];unfold Oper.wp at h;generalize (execOp a.eval o).run P w=r at h⊢;cases r with
 |ok x w'=>
  cases x<;>simp only[Oper.upon,Oper.uponIn]at h⊢<;>try exact h
  .refine⟨fun e=>by simp[wR,Fence.wide]at e,JL (h.mono ?_)⟩;intro e d b;cases e with
   |returned v=>exact b
   |panicked c=>exact b.elim
   |outgrown=>obtain⟨_,_,hf⟩:=b;exact hf.elim
  .exact⟨fun e=>by simp[wR,Fence.wide]at e,Ng h⟩
 |halt x w'=>cases x<;>simp only[Oper.upon,Oper.uponIn]at h⊢<;>exact h.elim
def zk{A:lG}{N:Nat}{ops:Array Oper}{o:Oper}{a:dM}(hc:cA P ns A N ops o=some a):∀c,o.op≠.defer c:=by
 intro c e;obtain⟨args,h1,_⟩:=mu hc;rw[e]at h1;simp[bR]at h1
def zm{G:Gh}{w:World}(g:fy P ns){orc:eY}(c:iD P ns orc){A:lG}{N:Nat}{ops:Array Oper}{o:Oper}{e:dM}(hc:cA P ns A N ops o=some e)
   {st b:St} {a:Act} (hs:iv (num ns) n0 N G st a w) (d:d_ orc e st=some b) {next:Act->World->Prop} {Q:Exit->Act->World->Prop}
   (hn:∀G' v w',iv (num ns) n0 N G' b (a.put o.dst v) w'->bY G w G' w'->next (a.put o.dst v) w'):
   if Region.wanted o (yielded ops a.tmps)then o.wpIn (wR ro) n P a w next Q else(∀f,o.about P w a.eval=some f->(wR ro).fn f)/\next (a.put o.dst undef) w:=by
 rcases EE (Q:=fun _ _ _=>False) g c hc hs d hn with⟨h1,h2⟩|⟨h1,h2⟩
 .rw[zan h1];exact t8 (zk hc) h2
 .rw[h1,zai (by simp)];exact⟨fun _ _=>trivial,h2⟩
def BU(q:fy P ns){orc:eY}(d:iD P ns orc){A:lG}{N:Nat}{ops:Array Oper}{Q:Exit->Act->World->Prop}:∀{l:List Oper}{as:List dM}{st c:St}{G:Gh}{a:Act}{w:World},
   cg (cA P ns A N ops) l=some as->iv (num ns) n0 N G st a w->bC orc as st=some c->
   (∀G' m w',iv (num ns) n0 N G' c m w'->bY G w G' w'->Q .normal m w')->wpListIn (wR ro) n P ops Q l a w
 |[],as,st,c,G,a,w,hc,hs,b,i=>by
  simp[cg]at hc;subst hc;simp[bC]at b;subst b;exact i G a w hs (bY.refl G w)
 |o::l,as,st,c,G,a,w,hc,hs,b,i=>by
  simp only[cg]at hc;split at hc
  .rename_i u t h1 h2;simp at hc;subst hc;simp only[bC]at b;split at b
   .simp at b
   .rename_i r e;unfold wpListIn;exact zm q d h1 hs e (fun G' m w' h s=>BU q d h2 h b (fun p k g f j=>i p k g f (s.trans j)))
  .simp at hc
def H0(t:fy P ns){orc:eY}(c:iD P ns orc){A:lG}{N:Nat}{ops:Array Oper}{as:List dM}(hc:cg (cA P ns A N ops) ops.toList=some as){F:Nat->Option AV}{R:St->Prop}{Q:Exit->Act->World->Prop}:
   ∀{fuel:Nat}{b:Array Bool}{st:St}{G:Gh}{a:Act}{w:World},iv (num ns) n0 N G st a w->BS orc ops as F R fuel b st->
     (∀d G' q w',R d->iv (num ns) n0 N G' d q w'->bY G w G' w'->Q .normal q w')->wpAnyIn (wR ro) n P .any ops Q fuel b a w
 |0,_,st,G,a,w,hs,h,g=>⟨h.1,g st G a w h.2 hs (bY.refl G w)⟩
 |fuel+1,b,st,G,a,w,hs,h,g=>by
  refine⟨fun h0=>g st G a w (h.1 h0) hs (bY.refl G w),fun i hi=>?_⟩;obtain⟨v,d,h1,_,h2,h3⟩:=h.2 i hi;obtain⟨_,o,s,_⟩:=zcJ.1 hi
  have m:cA P ns A N ops o=some v:=by
   obtain⟨y,g1,g2⟩:=Bj hc (i:=i) (x:=o) (by simpa using s);rw[h1]at g1;cases g1;exact g2
  unfold wpOpIn;simp only[s];exact zm t c m hs h2 (fun G' q w' k u=>H0 t c hc k h3 (fun e r p j hr f l=>g e r p j hr f (u.trans l)))
def xH(hm:P.follows .mixedOrders=true)(t:fy P ns){orc:eY}(g:iD P ns orc){A:lG}{N id:Nat}{ops:Array Oper}{e:Bool}{as:List dM}
   (hc:cg (cA P ns A N ops) ops.toList=some as) {ds:List (Nat×Nat)} (hd:e=true->yV ds ops.toList as=true) {st c:St} {G:Gh} {a:Act} {w:World} (hs:iv (num ns) n0 N G st a w) (i:bC orc as st=some c) (h:jh c.env ds=true)
   {Q:Exit->Act->World->Prop} (r:∀G' m w',iv (num ns) n0 N G' c m w'->bY G w G' w'->Q .normal m w'):(Code.region id ops e).wpIn (wR ro) n P Q a w:=by
 cases e with
 |false=>exact za8 (BU t g hc hs i r)
 |true=>
  have f:=hd rfl;simp only[yV,zah]at f;have d:as.length=ops.size:=by have:=gW hc;simpa using this
  refine wpIn_region_any hm ?_
  have l:BS orc ops as (look c.env) (fun s=>lg s c) ops.size (Array.replicate ops.size false) st:=by
   have:=BT (orc:=orc) (ops:=ops) (as:=as) (F:=look c.env) (R:=fun s=>lg s c) (fun x y hl hr=>hl.symm.trans hr) f.1 f.2.1 d (fun a b=>vk h a b) as 0 (Array.replicate ops.size false) st c (fun j=>by simp) (by simp[d]) (by simp)
     (fun j hj=>by simp[hj]) (fun k o u v=>by
      exfalso;have q:k<ops.size:=(zaW.1 u).1;simp[q]at v) f.2.2 (fun _=>rfl) i (lg.refl _)
   rwa [d]at this
  exact H0 t g hc hs.drew l fun s G' m w' hl p z=>r G' m w' (p.VA hl) ((bY.drew G w).trans z)
end
end Go.Ab
namespace Go.Ab
def BV{α:Type}(f:Nat->Option α):Prop:=∀k k' r,k<=k'->f k=some r->f k'=some r
open Classical in
noncomputable def MV{α:Type}(f:Nat->Option α):Option α:=if h:∃r k,f k=some r then some h.choose else none
def vq{α:Type}{f:Nat->Option α}(hf:BV f){k:Nat}{r:α}(h:f k=some r):MV f=some r:=by
 have a:∃r k,f k=some r:=⟨r,k,h⟩;unfold MV;rw[dif_pos a];obtain⟨k',h'⟩:=a.choose_spec;have h1:=hf _ (max k k') _ (zbt _ _) h';have h2:=hf _ (max k k') _ (zbz _ _) h;rw[h1]at h2;exact h2
def ik{α:Type}{f:Nat->Option α}{r:α}(h:MV f=some r):∃k,f k=some r:=by
 unfold MV at h;split at h
 .rename_i a;obtain⟨k,b⟩:=a.choose_spec;cases h;exact⟨k,b⟩
 .simp at h
theorem vt{α:Type}{f:Nat->Option α}(h:∀k,f k=none):MV f=none:=by
 cases hl:MV f with
 |none=>rfl
 |some r=>obtain⟨k,a⟩:=ik hl;rw[h k]at a;simp at a
def om{α:Type}{f:Nat->Option α}(hf:BV f){o:Option α}(h1:∀k r,f k=some r->o=some r)(h2:∀r,o=some r->∃k,f k=some r):MV f=o:=by
 cases a:o with
 |none=>exact vt fun k=>by cases b:f k with|none=>rfl|some r=>rw[h1 k r b]at a;simp at a
 |some r=>obtain⟨k,b⟩:=h2 r a;exact vq hf b
structure eY.le(a b:eY):Prop where
 p:∀g x r,a.p g x=some r->b.p g x=some r
 i:∀g x s t r,a.i g x s t=some r->b.i g x s t=some r
def eY.le_refl(a:eY):a.le a:=⟨fun _ _ _ h=>h,fun _ _ _ _ _ h=>h⟩
def lh{a b:eY}(h:a.le b){g:Nat}{own:List Nat}{vals:List AV}{sh:Sh}{aa:aF}{r:AV×Sh×aF}(e:ek a g own vals sh aa=some r):ek b g own vals sh aa=some r:=by
 unfold ek at*;split at e
 .rename_i hp;rw[zan hp];simp only[zac]at e⊢;obtain⟨x,h1,h2⟩:=e;exact⟨x,h.i _ _ _ _ _ h1,h2⟩
 .simp at e
def JM{a b:eY}(h:a.le b){op:AK}{vals:List AV}{cells:Option (List AV)}{sh:Sh}{aa:aF}{r:Out}(e:exec a op vals cells sh aa=some r):exec b op vals cells sh aa=some r:=by
 cases op with
 |aE g=>
  simp only[exec]at e⊢;split at e
  .simp only[zac]at e⊢;obtain⟨x,h1,h2⟩:=e;exact⟨x,h.p _ _ _ h1,h2⟩
  .simp at e
 |d8 g=>
  simp only[exec]at e⊢;split at e
  .simp only[zac]at e⊢;obtain⟨x,h1,h2⟩:=e;exact⟨x,h.p _ _ _ h1,h2⟩
  .simp at e
 |bB g own=>
  simp only[exec,zac]at e⊢;obtain⟨x,h1,h2⟩:=e;exact⟨x,lh h h1,h2⟩
 |fq=>
  cases vals with
  |nil=>simp[exec]at e
  |cons f vals=>
   cases f with
   |fn g cap=>
    simp only[exec,zaF]at e⊢;obtain⟨x,h1,h2⟩:=e;exact⟨x,lh h h1,h2⟩
   |_=>simp[exec]at e
 |gk=>
  cases vals with
  |nil=>simp[exec]at e
  |cons f vals=>
   cases f with
   |fn g cap=>
    simp only[exec,zac]at e⊢;obtain⟨x,h1,h2⟩:=e;exact⟨x,lh h h1,h2⟩
   |_=>simp[exec]at e
 |_=>first|(rw[<-e];unfold exec;split<;>first|rfl|(rename_i c;cases c;done)|(simp at*;done);done)|(simp[exec]at h;done)|(simp[exec]at e;done)|(simp[exec];done)
def xI{a b:eY}(h:a.le b){o:dM}{st r:St}(e:d_ a o st=some r):d_ b o st=some r:=by
 unfold d_ at*;cases hw:ga st.env o.guard with
 |none=>rw[hw]at e;simp at e
 |some t=>
  cases t with
  |false=>rw[hw]at e;exact e
  |true=>
   rw[hw]at e;dsimp only at e⊢;cases hv:eC st.env o.args with
   |none=>rw[hv]at e;simp at e
   |some vals=>
    rw[hv]at e;dsimp only at e⊢;cases c:exec a o.op vals (o.op.key.bind (look st.mem)) st.sh st.aa with
    |none=>rw[c]at e;simp at e
    |some out=>
     rw[c]at e;rw[JM h c];exact e
def pw{a b:eY}(h:a.le b):∀{l:List dM}{st r:St},bC a l st=some r->bC b l st=some r
 |[],_,_,e=>e
 |o::l,st,r,e=>by
  simp only[bC]at e⊢;split at e
  .simp at e
  .rename_i c d;rw[xI h d];exact pw h e
def jZ{f b:St->Option (bh×St)}{a:St->St}(h:∀s r,f s=some r->b s=some r):∀{n n':Nat}{st:St}{r:bh×St},n<=n'->fU f a n st=some r->fU b a n' st=some r
 |0,_,_,_,_,e=>by simp[fU]at e
 |n+1,0,_,_,hn,_=>by omega
 |n+1,n'+1,st,r,hn,e=>by
  simp only[fU]at e⊢;cases hf:f (a st)with
  |none=>rw[hf]at e;simp at e
  |some q=>
   rw[h _ _ hf];rw[hf]at e;obtain⟨x,s⟩:=q;cases x with
   |normal=>exact jZ h (by omega) e
   |ret=>exact e
   |exit id=>exact e
def py{f a:St->Option (bh×St)}(h:∀s r,f s=some r->a s=some r){live:List Nat}{pi px sz:Nat}{ag:Bool}{env:List (Nat×AV)}:∀{l:List (PV×Nat)}{st:St}{r:bh×St},
   m_ f live pi px sz ag env l st=some r->m_ a live pi px sz ag env l st=some r
 |[],_,_,e=>e
 |(el,i)::l,st,r,e=>by
  simp only[m_]at e⊢;cases hv:Vm sz ag el with
  |none=>rw[hv]at e;simp at e
  |some v=>
   rw[hv]at e;simp only at e⊢;cases hf:f (norm (restrict live {st with env:=dF (dF env pi (.pv (.int .i64 i))) px v}))with
   |none=>rw[hf]at e;simp at e
   |some q=>
    rw[h _ _ hf];rw[hf]at e;obtain⟨x,s⟩:=q;cases x with
    |normal=>exact py h e
    |ret=>exact e
    |exit id=>exact e
def w6{f a:St->Option (bh×St)}(h:∀s r,f s=some r->a s=some r){v:Option AV}{gb pi px sz:Nat}{ag:Bool}{live:List Nat}{st:St}{r:bh×St}
   (e:nb f v gb pi px sz ag live st=some r):nb a v gb pi px sz ag live st=some r:=by
 unfold nb at e⊢;split at e
 .split at e
  .rename_i b;rw[zan b];split at e
   .split at e
    .rename_i hl;rw[zan hl];exact py h e
    .simp at e
   .simp at e
  .simp at e
 .simp at e
def qw{f g b a:St->Option (bh×St)}(h:∀s r,f s=some r->b s=some r)(k:∀s r,g s=some r->a s=some r):∀s r,andThen f g s=some r->andThen b a s=some r:=by
 intro s r e;unfold andThen at e⊢;cases hf:f s with
 |none=>rw[hf]at e;simp at e
 |some q=>
  rw[h _ _ hf];rw[hf]at e;obtain⟨x,t⟩:=q;cases x with
  |normal=>exact k _ _ e
  |ret=>simp at e
  |exit id=>simp at e
def cB{a b:eY}(h:a.le b){k k':Nat}(d:k<=k'):∀{c:ah}{st:St}{r:bh×St},c_ a k c st=some r->c_ b k' c st=some r
 | .skip,_,_,e=>e
 | .gr _,_,_,e=>e
 | .TS _,_,_,e=>e
 | .mV _,_,_,e=>e
 | .m9 _,_,_,e=>e
 | .TT _,_,_,e=>e
 | .jf ops live,st,r,e=>by
  simp only[c_]at e⊢;split at e
  .rename_i f g;rw[pw h g];exact e
  .simp at e
 | .seq x y,st,r,e=>by
  simp only[c_]at e⊢;cases hx:c_ a k x st with
  |none=>rw[hx]at e;simp at e
  |some q=>
   rw[cB h d hx];rw[hx]at e;obtain⟨i,s⟩:=q;cases i with
   |normal=>exact cB h d e
   |ret=>exact e
   |exit id=>exact e
 | .cond c x y,st,r,e=>by
  simp only[c_]at e⊢;split at e
  .rename_i t hc;split at e
   .rename_i ht;rw[zan ht];exact cB h d e
   .rename_i ht;rw[zai ht];exact cB h d e
  .simp at e
 | .block id x,st,r,e=>by
  simp only[c_]at e⊢;cases hx:c_ a k x st with
  |none=>rw[hx]at e;simp at e
  |some q=>
   rw[cB h d hx];rw[hx]at e;exact e
 | .loop live x,st,r,e=>by
  simp only[c_]at e⊢;exact jZ (fun s r hs=>cB h d hs) d e
 | .exit id,_,_,e=>e
 | .ret,_,_,e=>e
 | .back c gb pi px sz ag live x y,st,r,e=>by
  simp only[c_]at e⊢;exact w6 (qw (fun s r hs=>cB h d hs) (fun s r hs=>cB h d hs)) e
def fh{a b:eY}(h:a.le b){k k':Nat}(c:k<=k'){aW:Bool}{af:aA}{args:List AV}{sh:Sh}{ts:aF}{r:List AV×Sh×aF}(e:ct a k aW af args sh ts=some r):ct b k' aW af args sh ts=some r:=by
 unfold ct at*;cases hc:c_ a k af.body {env:=cf 0 args,mem:=[],sh,aa:=ts}with
 |none=>rw[hc]at e;simp at e
 |some q=>rw[cB h c hc];rw[hc]at e;exact e
variable {AP:Nat->Option aA}
def cV:∀{n n' k k':Nat},n<=n'->k<=k'->(run AP k n).le (run AP k' n')
 |0,_,_,_,_,_=>⟨fun g x r e=>by simp[run]at e,fun g x s t r e=>by simp[run]at e⟩
 |n+1,0,_,_,h,_=>by omega
 |n+1,n'+1,k,k',h,c=>by
  have b:(run AP k n).le (run AP k' n'):=cV (by omega) c;refine⟨fun g x r e=>?_,fun g x s t r e=>?_⟩
  .simp only[run]at e⊢;cases a:AP g with
   |none=>rw[a]at e;simp at e
   |some af=>
    rw[a]at e;dsimp only at e⊢;cases hp:af.p8 with
    |some f=>rw[hp]at e;exact f.mono b.p e
    |none=>
     rw[hp]at e;dsimp only at e⊢;split at e
     .rename_i hc;rw[zan hc];cases d:ct (run AP k n) k false af (x.map .pv) [] []with
      |none=>rw[d]at e;simp at e
      |some q=>rw[fh b c d];rw[d]at e;exact e
     .simp at e
  .simp only[run]at e⊢;cases a:AP g with
   |none=>rw[a]at e;simp at e
   |some af=>
    rw[a]at e;dsimp only at e⊢;split at e
    .rename_i hc;rw[zan hc];exact fh b c e
    .simp at e
noncomputable def az(AP:Nat->Option aA):eY where
 p:=fun g x=>MV fun n=>(run AP n n).p g x
 i:=fun g x s t=>MV fun n=>(run AP n n).i g x s t
def t9(g:Nat)(x:List PV):BV fun n=>(run AP n n).p g x:=fun _ _ _ h e=>(cV h h).p _ _ _ e
def H6(g:Nat)(x:List AV)(s:Sh)(t:aF):BV fun n=>(run AP n n).i g x s t:=fun _ _ _ h e=>(cV h h).i _ _ _ _ _ e
def Nh(n:Nat):(run AP n n).le (az AP):=⟨fun g x _ e=>vq (t9 g x) e,fun g x s t _ e=>vq (H6 g x s t) e⟩
def t_{g:Nat}{x:List PV}{r:List PV}(h:(az AP).p g x=some r):∃n,(run AP n n).p g x=some r:=ik h
def Rc{g:Nat}{x:List AV}{s:Sh}{t:aF}{r:List AV×Sh×aF}(h:(az AP).i g x s t=some r):∃n,(run AP n n).i g x s t=some r:=ik h
def pz{g:Nat}{own:List Nat}{vals:List AV}{sh:Sh}{aa:aF}{r:AV×Sh×aF}(e:ek (az AP) g own vals sh aa=some r):∃n,ek (run AP n n) g own vals sh aa=some r:=by
 unfold ek at*;split at e
 .rename_i hp;simp only[zac]at e;obtain⟨x,h1,h2⟩:=e;obtain⟨n,hn⟩:=Rc h1;exact⟨n,by rw[zan hp,hn];simp only[zaT,h2]⟩
 .simp at e
def EG{op:AK}{vals:List AV}{cells:Option (List AV)}{sh:Sh}{aa:aF}{r:Out}(e:exec (az AP) op vals cells sh aa=some r):∃n,exec (run AP n n) op vals cells sh aa=some r:=by
 cases op with
 |aE g=>
  simp only[exec]at e⊢;split at e
  .rename_i dN hp;simp only[zac]at e;obtain⟨x,h1,h2⟩:=e;obtain⟨n,hn⟩:=t_ h1;exact⟨n,by rw[hn];simp only[zaT,h2]⟩
  .simp at e
 |d8 g=>
  simp only[exec]at e⊢;split at e
  .rename_i dN hp;simp only[zac]at e;obtain⟨x,h1,h2⟩:=e;obtain⟨n,hn⟩:=t_ h1;exact⟨n,by rw[hn];simp only[zaT,h2]⟩
  .simp at e
 |bB g own=>
  simp only[exec,zac]at e⊢;obtain⟨x,h1,h2⟩:=e;obtain⟨n,hn⟩:=pz h1;exact⟨n,x,hn,h2⟩
 |fq=>
  cases vals with
  |nil=>simp[exec]at e
  |cons f vals=>
   cases f with
   |fn g cap=>
    simp only[exec,zaF]at e⊢;obtain⟨x,h1,h2⟩:=e;obtain⟨n,hn⟩:=pz h1;exact⟨n,x,hn,h2⟩
   |_=>simp[exec]at e
 |gk=>
  cases vals with
  |nil=>simp[exec]at e
  |cons f vals=>
   cases f with
   |fn g cap=>
    simp only[exec,zac]at e⊢;obtain⟨x,h1,h2⟩:=e;obtain⟨n,hn⟩:=pz h1;exact⟨n,x,hn,h2⟩
   |_=>simp[exec]at e
 |_=>first|(exact⟨0,by rw[<-e];unfold exec;split<;>first|rfl|(rename_i a;cases a;done)|(simp at*;done)⟩;done)|(simp[exec]at h;done)|(simp[exec]at e;done)|(simp[exec];done)
def Ni{o:dM}{st r:St}(e:d_ (az AP) o st=some r):∃n,d_ (run AP n n) o st=some r:=by
 unfold d_ at*;cases hw:ga st.env o.guard with
 |none=>rw[hw]at e;simp at e
 |some t=>
  cases t with
  |false=>rw[hw]at e;exact⟨0,e⟩
  |true=>
   rw[hw]at e;dsimp only at e⊢;cases hv:eC st.env o.args with
   |none=>rw[hv]at e;simp at e
   |some vals=>
    rw[hv]at e;dsimp only at e⊢;cases a:exec (az AP) o.op vals (o.op.key.bind (look st.mem)) st.sh st.aa with
    |none=>rw[a]at e;simp at e
    |some out=>
     obtain⟨n,hn⟩:=EG a;rw[a]at e;exact⟨n,by rw[hn];exact e⟩
def xJ:∀{l:List dM}{st r:St},bC (az AP) l st=some r->∃n,bC (run AP n n) l st=some r
 |[],_,_,e=>⟨0,e⟩
 |o::l,st,r,e=>by
  simp only[bC]at e⊢;cases a:d_ (az AP) o st with
  |none=>rw[a]at e;simp at e
  |some s=>
   rw[a]at e;obtain⟨n,hn⟩:=Ni a;obtain⟨m,hm⟩:=xJ (l:=l) e;refine⟨max n m,?_⟩;rw[xI (cV (zbz n m) (zbz n m)) hn];exact pw (cV (zbt n m) (zbt n m)) hm
def vu{k:Nat}{c:ah}{a:St->St}(b:∀{st:St}{r:bh×St},c_ (az AP) k c st=some r->∃n,c_ (run AP n n) n c st=some r):
   ∀{j:Nat}{st:St}{r:bh×St},fU (c_ (az AP) k c) a j st=some r->∃n,fU (c_ (run AP n n) n c) a n st=some r
 |0,_,_,e=>by simp[fU]at e
 |j+1,st,r,e=>by
  simp only[fU]at e;cases hf:c_ (az AP) k c (a st)with
  |none=>rw[hf]at e;simp at e
  |some q=>
   obtain⟨n,hn⟩:=b hf;rw[hf]at e;obtain⟨x,s⟩:=q;cases x with
   |normal=>
    obtain⟨m,hm⟩:=vu b e;refine⟨max n m+1,?_⟩;simp only[fU];rw[cB (cV (n:=n) (n':=max n m+1) (by omega) (by omega)) (k:=n) (k':=max n m+1) (by omega) hn];exact jZ (fun s r hs=>cB (cV (n:=m) (by omega) (by omega)) (k:=m) (by omega) hs) (n:=m) (by omega) hm
   |ret=>
    refine⟨n+1,?_⟩;simp only[fU];rw[cB (cV (n:=n) (n':=n+1) (by omega) (by omega)) (k:=n) (k':=n+1) (by omega) hn];exact e
   |exit id=>
    refine⟨n+1,?_⟩;simp only[fU];rw[cB (cV (n:=n) (n':=n+1) (by omega) (by omega)) (k:=n) (k':=n+1) (by omega) hn];exact e
def rK{n m:Nat}(h:n<=m){c:ah}{st:St}{r:bh×St}(e:c_ (run AP n n) n c st=some r):c_ (run AP m m) m c st=some r:=cB (cV h h) h e
def w7{k:Nat}{x y:ah}(b:∀{st:St}{r:bh×St},c_ (az AP) k x st=some r->∃n,c_ (run AP n n) n x st=some r)(a:∀{st:St}{r:bh×St},c_ (az AP) k y st=some r->∃n,c_ (run AP n n) n y st=some r)
   {st:St} {r:bh×St} (e:andThen (c_ (az AP) k x) (c_ (az AP) k y) st=some r):∃n,andThen (c_ (run AP n n) n x) (c_ (run AP n n) n y) st=some r:=by
 unfold andThen at e⊢;cases hx:c_ (az AP) k x st with
 |none=>rw[hx]at e;simp at e
 |some q=>
  obtain⟨n,hn⟩:=b hx;rw[hx]at e;obtain⟨c,s⟩:=q;cases c with
  |normal=>
   obtain⟨m,hm⟩:=a e;exact⟨max n m,by rw[rK (zbz n m) hn];exact rK (zbt n m) hm⟩
  |ret=>simp at e
  |exit id=>simp at e
def vv{F:St->Option (bh×St)}{f:Nat->St->Option (bh×St)}(hm:∀{n m:Nat},n<=m->∀s r,f n s=some r->f m s=some r)(b:∀{st:St}{r:bh×St},F st=some r->∃n,f n st=some r)
   {live:List Nat} {pi px sz:Nat} {ag:Bool} {env:List (Nat×AV)}:∀{l:List (PV×Nat)}{st:St}{r:bh×St},m_ F live pi px sz ag env l st=some r->∃n,m_ (f n) live pi px sz ag env l st=some r
 |[],_,_,e=>⟨0,e⟩
 |(el,i)::l,st,r,e=>by
  simp only[m_]at e⊢;cases hv:Vm sz ag el with
  |none=>rw[hv]at e;simp at e
  |some v=>
   rw[hv]at e;simp only at e⊢;cases hf:F (norm (restrict live {st with env:=dF (dF env pi (.pv (.int .i64 i))) px v}))with
   |none=>rw[hf]at e;simp at e
   |some q=>
    obtain⟨n,hn⟩:=b hf;rw[hf]at e;obtain⟨x,s⟩:=q;cases x with
    |normal=>
     obtain⟨m,a⟩:=vv hm b e;exact⟨max n m,by rw[hm (zbz n m) _ _ hn];exact py (hm (zbt n m)) a⟩
    |ret=>exact⟨n,by rw[hn];exact e⟩
    |exit id=>exact⟨n,by rw[hn];exact e⟩
def jB{k:Nat}:∀{c:ah}{st:St}{r:bh×St},c_ (az AP) k c st=some r->∃n,c_ (run AP n n) n c st=some r
 | .skip,_,_,e=>⟨0,e⟩
 | .gr _,_,_,e=>⟨0,e⟩
 | .TS _,_,_,e=>⟨0,e⟩
 | .mV _,_,_,e=>⟨0,e⟩
 | .m9 _,_,_,e=>⟨0,e⟩
 | .TT _,_,_,e=>⟨0,e⟩
 | .jf ops live,st,r,e=>by
  simp only[c_]at e⊢;cases a:bC (az AP) ops st with
  |none=>rw[a]at e;simp at e
  |some s=>obtain⟨n,hn⟩:=xJ a;rw[a]at e;exact⟨n,by rw[hn];exact e⟩
 | .seq x y,st,r,e=>by
  simp only[c_]at e⊢;cases hx:c_ (az AP) k x st with
  |none=>rw[hx]at e;simp at e
  |some q=>
   obtain⟨n,hn⟩:=jB hx;rw[hx]at e;obtain⟨d,s⟩:=q;cases d with
   |normal=>
    obtain⟨m,hm⟩:=jB (c:=y) e;exact⟨max n m,by rw[rK (zbz n m) hn];exact rK (zbt n m) hm⟩
   |ret=>exact⟨n,by rw[hn];exact e⟩
   |exit id=>exact⟨n,by rw[hn];exact e⟩
 | .cond c x y,st,r,e=>by
  simp only[c_]at e⊢;split at e
  .rename_i t hc;split at e
   .rename_i ht;obtain⟨n,hn⟩:=jB e;exact⟨n,by rw[zan ht];exact hn⟩
   .rename_i ht;obtain⟨n,hn⟩:=jB e;exact⟨n,by rw[zai ht];exact hn⟩
  .simp at e
 | .block id x,st,r,e=>by
  simp only[c_]at e⊢;cases hx:c_ (az AP) k x st with
  |none=>rw[hx]at e;simp at e
  |some q=>
   obtain⟨n,hn⟩:=jB hx;rw[hx]at e;exact⟨n,by rw[hn];exact e⟩
 | .loop live x,st,r,e=>by
  simp only[c_]at e⊢;exact vu (fun h=>jB h) e
 | .exit id,_,_,e=>⟨0,e⟩
 | .ret,_,_,e=>⟨0,e⟩
 | .back c gb pi px sz ag live x y,st,r,e=>by
  simp only[c_]at e⊢;unfold nb at e⊢;split at e
  .split at e
   .rename_i b;split at e
    .split at e
     .rename_i hl;obtain⟨n,hn⟩:=vv (f:=fun n=>andThen (c_ (run AP n n) n x) (c_ (run AP n n) n y)) (fun h=>qw (fun s r hs=>rK h hs) (fun s r hs=>rK h hs)) (w7 (fun h=>jB h) (fun h=>jB h)) e;exact⟨n,by rw[zan b,zan hl];exact hn⟩
     .simp at e
    .simp at e
   .simp at e
  .simp at e
noncomputable def cl(AP:Nat->Option aA)(c:ah)(st:St):Option (bh×St):=MV fun k=>c_ (az AP) k c st
def ua(c:ah)(st:St):BV fun k=>c_ (az AP) k c st:=fun _ _ _ h e=>cB (eY.le_refl _) h e
def j8{c:ah}{st:St}{k:Nat}{r:bh×St}(h:c_ (az AP) k c st=some r):cl AP c st=some r:=vq (ua c st) h
def Rd{st:St}:cl AP .skip st=some (.normal,st):=j8 (k:=0) rfl
def Re{id:Nat}{st:St}:cl AP (.exit id) st=some (.exit id,st):=j8 (k:=0) rfl
def VB{ts:List Nat}{st:St}:cl AP (.gr ts) st=some (.normal,oO ts st):=j8 (k:=0) rfl
def VC{ts:List Nat}{st:St}:cl AP (.m9 ts) st=some (.normal,Eh ts st):=j8 (k:=0) rfl
def VD{ts:List Nat}{st:St}:cl AP (.TT ts) st=some (.normal,jO ts st):=j8 (k:=0) rfl
def VE{ps:List (Nat×Nat×Bool)}{st:St}:cl AP (.mV ps) st=some (.normal,yT ps st):=j8 (k:=0) rfl
def VF{st:St}:cl AP .ret st=some (.ret,st):=j8 (k:=0) rfl
def VG{ops:List dM}{live:List Nat}{st:St}:cl AP (.jf ops live) st=(bC (az AP) ops st).map fun a=>(.normal,restrict live a):=by
 cases h:bC (az AP) ops st with
 |none=>exact vt fun k=>by simp only[c_,h]
 |some s=>exact j8 (k:=0) (by simp only[c_,h])
def after(f:St->Option (bh×St)):Option (bh×St)->Option (bh×St)
 |some (.normal,st)=>f st
 |r=>r
def VH{a b:ah}{st:St}:cl AP (.seq a b) st=after (cl AP b) (cl AP a st):=by
 refine om (ua _ _) (fun k r h=>?_) fun r h=>?_
 .simp only[c_]at h;cases hx:c_ (az AP) k a st with
  |none=>rw[hx]at h;simp at h
  |some q=>
   rw[j8 hx];rw[hx]at h;obtain⟨e,s⟩:=q;cases e with
   |normal=>exact j8 h
   |ret=>exact h
   |exit id=>exact h
 .cases hx:cl AP a st with
  |none=>rw[hx]at h;simp[after]at h
  |some q=>
   obtain⟨k,d⟩:=ik hx;rw[hx]at h;obtain⟨e,s⟩:=q;cases e with
   |normal=>
    obtain⟨k',c⟩:=ik (show MV (fun k=>c_ (az AP) k b s)=some r from h);refine⟨max k k',?_⟩;simp only[c_];rw[cB (eY.le_refl _) (zbz k k') d];exact cB (eY.le_refl _) (zbt k k') c
   |ret=>exact⟨k,by simp only[c_];rw[d];exact h⟩
   |exit id=>exact⟨k,by simp only[c_];rw[d];exact h⟩
def Rf{c:fp}{a b:ah}{st:St}{t:Bool}(h:iB st.env c=some (.pv (.bool t))):cl AP (.cond c a b) st=if t then cl AP a st else cl AP b st:=by
 unfold cl;simp only[c_,h];cases t<;>rfl
def leave(id:Nat):Option (bh×St)->Option (bh×St)
 |some (.exit a,st)=>if a=id then some (.normal,st)else some (.exit a,st)
 |r=>r
def Nj{id:Nat}{b:ah}{st:St}:cl AP (.block id b) st=leave id (cl AP b st):=by
 refine om (ua _ _) (fun k r h=>?_) fun r h=>?_
 .simp only[c_]at h;cases hx:c_ (az AP) k b st with
  |none=>rw[hx]at h;simp at h
  |some q=>rw[j8 hx];rw[hx]at h;exact h
 .cases hx:cl AP b st with
  |none=>rw[hx]at h;simp[leave]at h
  |some q=>
   obtain⟨k,a⟩:=ik hx;rw[hx]at h;exact⟨k,by simp only[c_];rw[a];exact h⟩
def uc{live:List Nat}{b:ah}{st:St}:cl AP (.loop live b) st=after (cl AP (.loop live b)) (cl AP b (norm (restrict live st))):=by
 refine om (ua _ _) (fun k r h=>?_) fun r h=>?_
 .simp only[c_]at h;cases k with
  |zero=>simp[fU]at h
  |succ k=>
   simp only[fU]at h;cases hx:c_ (az AP) (k+1) b (norm (restrict live st))with
   |none=>rw[hx]at h;simp at h
   |some q=>
    rw[j8 hx];rw[hx]at h;obtain⟨c,s⟩:=q;cases c with
    |normal=>exact j8 (k:=k+1) (by simp only[c_];exact jZ (fun _ _ h=>h) (zb2 k) h)
    |ret=>exact h
    |exit id=>exact h
 .cases hx:cl AP b (norm (restrict live st))with
  |none=>rw[hx]at h;simp[after]at h
  |some q=>
   obtain⟨k,d⟩:=ik hx;rw[hx]at h;obtain⟨c,s⟩:=q;have up:∀m,k<=m->c_ (az AP) m b (norm (restrict live st))=some (c,s):=fun m hm=>cB (eY.le_refl _) hm d
   cases c with
   |normal=>
    obtain⟨k',a⟩:=ik (show MV (fun k=>c_ (az AP) k (.loop live b) s)=some r from h);refine⟨max k k'+1,?_⟩;simp only[c_,fU];rw[up _ (by omega)];simp only[c_]at a;exact jZ (fun _ _ h=>cB (eY.le_refl _) (by omega) h) (by omega) a
   |ret=>exact⟨k+1,by simp only[c_,fU];rw[up _ (by omega)];exact h⟩
   |exit id=>exact⟨k+1,by simp only[c_,fU];rw[up _ (by omega)];exact h⟩
def finish(aW:Bool)(af:aA)(sh:Sh):Option (bh×St)->Option (List AV×Sh×aF)
 |some (e,st)=>
  if e=.ret\/e=.normal then
   match eN st af.results with
   |some vs=>
    let rs:=cE aW af.ks st.sh vs
    let sh':=if rs.all (aJ sh.length)=true then(fD aW af.ks st.sh vs).take sh.length else fD aW af.ks st.sh vs
    if rs.all bU=true then some ((de st.aa rs sh').1,(de st.aa rs sh').2.1,(de st.aa rs sh').2.2.2)else none
   |none=>none
  else none
 |none=>none
theorem gT{orc:eY}{k:Nat}{aW:Bool}{af:aA}{args:List AV}{sh:Sh}{ts:aF}:ct orc k aW af args sh ts=finish aW af sh (c_ orc k af.body {env:=cf 0 args,mem:=[],sh,aa:=ts}):=by
 unfold ct finish;cases c_ orc k af.body {env:=cf 0 args,mem:=[],sh,aa:=ts}with
 |none=>rfl
 |some q=>obtain⟨e,st⟩:=q;rfl
noncomputable def oU(AP:Nat->Option aA)(aW:Bool)(af:aA)(args:List AV)(sh:Sh)(ts:aF):Option (List AV×Sh×aF):=
 finish aW af sh (cl AP af.body {env:=cf 0 args,mem:=[],sh,aa:=ts})
def xK{aW:Bool}{af:aA}{args:List AV}{sh:Sh}{ts:aF}{r:List AV×Sh×aF}(h:oU AP aW af args sh ts=some r):∃n,ct (run AP n n) n aW af args sh ts=some r:=by
 unfold oU at h;cases hc:cl AP af.body {env:=cf 0 args,mem:=[],sh,aa:=ts}with
 |none=>rw[hc]at h;simp[finish]at h
 |some q=>
  obtain⟨k,a⟩:=ik hc;obtain⟨n,hn⟩:=jB a;exact⟨n,by rw[gT,hn,<-hc];exact h⟩
def H7{n:Nat}{aW:Bool}{af:aA}{args:List AV}{sh:Sh}{ts:aF}{r:List AV×Sh×aF}(h:ct (run AP n n) n aW af args sh ts=some r):oU AP aW af args sh ts=some r:=by
 rw[gT]at h;unfold oU;cases hc:c_ (run AP n n) n af.body {env:=cf 0 args,mem:=[],sh,aa:=ts}with
 |none=>rw[hc]at h;simp[finish]at h
 |some q=>
  rw[j8 (cB (Nh n) (zas n) hc)];rw[hc]at h;exact h
def TZ{g:Nat}{af:aA}{x:List PV}(b:AP g=some af)(hp:af.p8=none)(h1:x.length=af.nparams)(h2:x.length<=af.ntmps):
   (az AP).p g x=(oU AP false af (x.map .pv) [] []).bind fun r=>gC r.1:=by
 refine om (t9 g x) (fun k r h=>?_) fun r h=>?_
 .cases k with
  |zero=>simp[run]at h
  |succ k=>
   simp only[run,b,hp]at h;rw[zan ⟨h1,h2⟩]at h;cases a:ct (run AP (k+1) k) (k+1) false af (x.map .pv) [] []with
   |none=>rw[a]at h;simp at h
   |some q=>
    rw[H7 (n:=k+1) (fh (cV (zb2 k) (zas _)) (zas _) a)];rw[a]at h;exact h
 .cases a:oU AP false af (x.map .pv) [] []with
  |none=>rw[a]at h;simp at h
  |some q=>
   obtain⟨n,hn⟩:=xK a;rw[a]at h;refine⟨n+1,?_⟩;simp only[run,b,hp];rw[zan ⟨h1,h2⟩,fh (cV (n:=n) (n':=n) (k:=n) (k':=n+1) (zas _) (zb2 n)) (zb2 n) hn];exact h
def xL:∀(l:List (Nat×List PV×List PV)),(∀c∈l,(az AP).p c.1 c.2.1=some c.2.2)->∃n,∀c∈l,(run AP n n).p c.1 c.2.1=some c.2.2
 |[],_=>⟨0,by simp⟩
 |c::l,h=>by
  obtain⟨n,hn⟩:=t_ (h c (by simp));obtain⟨m,hm⟩:=xL l fun c' hc=>h c' (by simp[hc]);refine⟨max n m,fun c' hc=>?_⟩;simp only[zau]at hc;rcases hc with rfl|hc
  .exact(cV (zbz n m) (zbz n m)).p _ _ _ hn
  .exact(cV (zbt n m) (zbt n m)).p _ _ _ (hm c' hc)
def zn{g:Nat}{af:aA}{x:List PV}{f:Prim}(a:AP g=some af)(hp:af.p8=some f):(az AP).p g x=f.f (az AP).p x:=by
 refine om (t9 g x) (fun k r h=>?_) fun r h=>?_
 .cases k with
  |zero=>simp[run]at h
  |succ k=>
   simp only[run,a,hp]at h;exact f.mono (fun g x r e=>(Nh (k+1)).p _ _ _ ((cV (zb2 k) (zas _)).p _ _ _ e)) h
 .obtain⟨l,h1,h2⟩:=f.fin _ _ _ h;obtain⟨n,hn⟩:=xL l h1;refine⟨n+1,?_⟩;simp only[run,a,hp];exact h2 _ fun c hc=>(cV (n:=n) (n':=n) (k:=n) (k':=n+1) (zas _) (zb2 n)).p _ _ _ (hn c hc)
def H8{g:Nat}{af:aA}{x:List PV}{f:List PV->Option (List PV)}(a:AP g=some af)(hp:af.p8=some (Prim.pure f)):(az AP).p g x=f x:=zn a hp
def T3{g:Nat}{af:aA}{x:List AV}{sh:Sh}{ts:aF}(a:AP g=some af)(h2:x.length<=af.ntmps):(az AP).i g x sh ts=oU AP true af x sh ts:=by
 refine om (H6 g x sh ts) (fun k r h=>?_) fun r h=>?_
 .cases k with
  |zero=>simp[run]at h
  |succ k=>
   simp only[run,a]at h;rw[zan h2]at h;exact H7 (n:=k+1) (fh (cV (zb2 k) (zas _)) (zas _) h)
 .obtain⟨n,hn⟩:=xK h;refine⟨n+1,?_⟩;simp only[run,a];rw[zan h2];exact fh (cV (n:=n) (n':=n) (k:=n) (k':=n+1) (zas _) (zb2 n)) (zb2 n) hn
end Go.Ab
namespace Go.Ab.Ev
section
variable {AP:Nat->Option aA} {O:eY}
noncomputable def branch(AP:Nat->Option aA)(o:Option AV)(a b:ah)(st:St):Option (bh×St):=
 match o with
 |some (.pv (.bool t))=>if t=true then cl AP a st else cl AP b st
 |_=>none
def JN{c:fp}{a b:ah}{st:St}:cl AP (.cond c a b) st=branch AP (iB st.env c) a b st:=by
 unfold branch;split
 .rename_i t h;rw[Rf h]
 .rename_i h;unfold cl;refine vt fun k=>?_;simp only[c_]
theorem BW{t:Bool}{a b:ah}{st:St}:branch AP (some (.pv (.bool t))) a b st=if t=true then cl AP a st else cl AP b st:=rfl
def vw(live:List Nat):Option St->Option (bh×St)
 |some st=>some (.normal,restrict live st)
 |none=>none
def JO{ops:List dM}{live:List Nat}{st:St}:cl AP (.jf ops live) st=vw live (bC (az AP) ops st):=by
 rw[VG];cases bC (az AP) ops st<;>rfl
theorem BX{live:List Nat}{st:St}:vw live (some st)=some (.normal,restrict live st):=rfl
def EH{live:List Nat}{c:Prop}[Decidable c]{x y:Option St}:vw live (if c then x else y)=if c then vw live x else vw live y:=by split<;>rfl
theorem zo{f:St->Option (bh×St)}{st:St}:after f (some (.normal,st))=f st:=rfl
theorem JP{f:St->Option (bh×St)}{st:St}:after f (some (.ret,st))=some (.ret,st):=rfl
theorem EI{f:St->Option (bh×St)}{st:St}{id:Nat}:after f (some (.exit id,st))=some (.exit id,st):=rfl
def JQ{f:St->Option (bh×St)}{c:Prop}[Decidable c]{x y:Option (bh×St)}:after f (if c then x else y)=if c then after f x else after f y:=by split<;>rfl
theorem zq{id:Nat}{st:St}:leave id (some (.normal,st))=some (.normal,st):=rfl
theorem JR{id:Nat}{st:St}:leave id (some (.ret,st))=some (.ret,st):=rfl
theorem EJ{id a:Nat}{st:St}:leave id (some (.exit a,st))=if a=id then some (.normal,st)else some (.exit a,st):=rfl
def JS{id:Nat}{c:Prop}[Decidable c]{x y:Option (bh×St)}:leave id (if c then x else y)=if c then leave id x else leave id y:=by split<;>rfl
def oo(O:eY)(l:List dM):Option St->Option St
 |some st=>bC O l st
 |none=>none
theorem JT{st:St}:bC O [] st=some st:=rfl
def mw{o:dM}{l:List dM}{st:St}:bC O (o::l) st=oo O l (d_ O o st):=by
 simp only[bC];cases d_ O o st<;>rfl
def EK{d:Option Nat}{args:List fp}{op:AK}{l:List dM}{st:St}:bC O (⟨d,none,args,op⟩::l) st=oo O l (d_ O ⟨d,none,args,op⟩ st):=mw
theorem zt{l:List dM}{st:St}:oo O l (some st)=bC O l st:=rfl
def BY{l:List dM}{c:Prop}[Decidable c]{x y:Option St}:oo O l (if c then x else y)=if c then oo O l x else oo O l y:=by split<;>rfl
def vz(d k:Option Nat)(env:List (Nat×AV))(mem:List (Nat×List AV)):Option Out->Option St
 |some out=>some {env:=gB env d out.val,mem:=fQ mem k out.cells,sh:=out.sh,aa:=out.aa}
 |none=>none
def Nk(O:eY)(op:AK)(vals:Option (List AV))(cells:Option (List AV))(sh:Sh)(aa:aF):Option Out:=
 match vals with
 |some vals=>exec O op vals cells sh aa
 |none=>none
theorem EL{d:Option Nat}{args:List fp}{op:AK}{env:List (Nat×AV)}{mem:List (Nat×List AV)}{sh:Sh}{aa:aF}:
   d_ O ⟨d,none,args,op⟩ ⟨env,mem,sh,aa⟩=vz d op.key env mem (Nk O op (eC env args) (op.key.bind (look mem)) sh aa):=by
 simp only[d_,ga];cases eC env args with
 |none=>rfl
 |some vals=>
  dsimp only[Nk];cases exec O op vals (op.key.bind (look mem)) sh aa<;>rfl
def vA(t:Nat)(b:Bool)(o:dM):dM:=
 match o.guard with
 |some (t',b')=>if t'=t then(if b'=b then {o with guard:=none}else⟨o.dst,none,[.c .un],.v .mv⟩)else o
 |none=>o
def JU(t:Nat):List dM->Bool
 |[]=>true
 |o::l=>(o.dst != some t) && JU t l
def oq{α:Type}{t t':Nat}{v:α}:∀{l:List (Nat×α)},look (dF l t v) t'=if t'=t then some v else look l t'
 |[]=>by
  simp only[dF,look];by_cases h:t'=t
  .subst h;simp
  .rw[zai (fun e=>h e.symm),zai h]
 |(k,u)::r=>by
  simp only[dF];by_cases a:k=t
  .subst a;simp only[zbc,look];by_cases h:t'=k
   .subst h;simp
   .rw[zai (fun e=>h e.symm),zai h,zai (fun e=>h e.symm)]
  .rw[zai a];simp only[look,oq (l:=r)];by_cases h:k=t'
   .subst h;simp[a]
   .rw[zai h,zai h]
def rL{α:Type}{t:Nat}{v:α}:∀{l:List (Nat×α)},look l t=some v->dF l t v=l
 |[],h=>by simp[look]at h
 |(k,u)::r,h=>by
  simp only[look]at h;simp only[dF];split at h
  .rename_i e;cases h;rw[zan e]
  .rename_i e;rw[zai e,rL h]
def xM{o:dM}{st a:St}{t:Nat}{v:AV}(hd:(o.dst != some t)=true)(h:look st.env t=some v)(e:d_ O o st=some a):look a.env t=some v:=by
 have key:∀x,look (gB st.env o.dst x) t=some v:=by
  intro x;cases b:o.dst with
  |none=>exact h
  |some d=>
   rw[b]at hd;simp only[gB,oq];rw[zai (by intro e;subst e;simp at hd)];exact h
 simp only[d_]at e;split at e
 .cases e
 .cases e;exact key _
 .split at e
  .cases e
  .split at e
   .cases e
   .cases e;exact key _
theorem JV{o:dM}{st:St}{t:Nat}{b:Bool}(h:look st.env t=some (.pv (.bool b))):d_ O o st=d_ O (vA t b o) st:=by
 obtain⟨d,g,args,op⟩:=o;cases g with
 |none=>rfl
 |some p=>
  obtain⟨t',b'⟩:=p;simp only[vA];by_cases ht:t'=t
  .subst ht;rw[zan rfl];by_cases c:b'=b
   .subst c;rw[zan rfl];simp only[d_,ga,h,beq_self_eq_true]
   .rw[zai c];have a:(b == b')=false:=by simpa using fun e=>c e.symm
    simp only[d_,ga,h,a];obtain⟨env,mem,sh,aa⟩:=st;rfl
  .rw[zai ht]
theorem pA{t:Nat}{b:Bool}:∀{l:List dM}{st:St},JU t l=true->look st.env t=some (.pv (.bool b))->bC O l st=bC O (l.map (vA t b)) st
 |[],_,_,_=>rfl
 |o::l,st,hn,h=>by
  simp only[JU,zah]at hn;rw[zal,mw,mw,<-JV h];cases e:d_ O o st with
  |none=>rfl
  |some a=>exact pA hn.2 (xM hn.1 h e)
def BZ{d:Option Nat}{t:Nat}{b:Bool}{args:List fp}{op:AK}{l:List dM}{env:List (Nat×AV)}{mem:List (Nat×List AV)}{sh:Sh}{aa:aF}{c:Bool}(h:look env t=some (.pv (.bool c)))(hn:JU t (⟨d,some (t,b),args,op⟩::l)=true):
   bC O (⟨d,some (t,b),args,op⟩::l) ⟨env,mem,sh,aa⟩=
     if c=true then bC O ((⟨d,some (t,b),args,op⟩::l).map (vA t true)) ⟨dF env t (.pv (.bool true)),mem,sh,aa⟩
     else bC O ((⟨d,some (t,b),args,op⟩::l).map (vA t false)) ⟨dF env t (.pv (.bool false)),mem,sh,aa⟩:=by
 cases c with
 |true=>rw[zan rfl,rL h];exact pA hn h
 |false=>rw[zai (by simp),rL h];exact pA hn h
def zu{d:Option Nat}{t:Nat}{b:Bool}{args:List fp}{op:AK}{l:List dM}{env:List (Nat×AV)}{mem:List (Nat×List AV)}{sh:Sh}{aa:aF}(h:look env t=some .un):
   bC O (⟨d,some (t,b),args,op⟩::l) ⟨env,mem,sh,aa⟩=bC O l ⟨gB env d .un,mem,sh,aa⟩:=by
 rw[mw];simp only[d_,ga,h];rfl
noncomputable def gd(O:eY)(t:Nat)(ops:List dM)(d:Option Nat)(l:List dM)(env:List (Nat×AV))(mem:List (Nat×List AV))(sh:Sh)(aa:aF):Option AV->Option St
 |some (.pv (.bool c))=>if JU t ops=true then(if c=true then bC O (ops.map (vA t true)) ⟨dF env t (.pv (.bool true)),mem,sh,aa⟩
     else bC O (ops.map (vA t false)) ⟨dF env t (.pv (.bool false)),mem,sh,aa⟩)else bC O ops ⟨env,mem,sh,aa⟩
 |some .un=>bC O l ⟨gB env d .un,mem,sh,aa⟩
 |_=>bC O ops ⟨env,mem,sh,aa⟩
def Nl{d:Option Nat}{t:Nat}{b:Bool}{args:List fp}{op:AK}{l:List dM}{env:List (Nat×AV)}{mem:List (Nat×List AV)}{sh:Sh}{aa:aF}:
   bC O (⟨d,some (t,b),args,op⟩::l) ⟨env,mem,sh,aa⟩=gd O t (⟨d,some (t,b),args,op⟩::l) d l env mem sh aa (look env t):=by
 unfold gd;split
 .rename_i c h;split
  .rename_i hn;exact BZ h hn
  .rfl
 .rename_i h;exact zu h
 .rfl
theorem Rg{t:Nat}{ops:List dM}{d:Option Nat}{l:List dM}{env:List (Nat×AV)}{mem:List (Nat×List AV)}{sh:Sh}{aa:aF}{c:Bool}:gd O t ops d l env mem sh aa (some (.pv (.bool c)))=
   if JU t ops=true then(if c=true then bC O (ops.map (vA t true)) ⟨dF env t (.pv (.bool true)),mem,sh,aa⟩
     else bC O (ops.map (vA t false)) ⟨dF env t (.pv (.bool false)),mem,sh,aa⟩)else bC O ops ⟨env,mem,sh,aa⟩:=rfl
theorem Yc{t:Nat}{ops:List dM}{d:Option Nat}{l:List dM}{env:List (Nat×AV)}{mem:List (Nat×List AV)}{sh:Sh}{aa:aF}:gd O t ops d l env mem sh aa (some .un)=bC O l ⟨gB env d .un,mem,sh,aa⟩:=rfl
theorem Rh{t:Nat}:JU t []=true:=rfl
def Nn{t d:Nat}{g:Option (Nat×Bool)}{args:List fp}{op:AK}{l:List dM}:JU t (⟨some d,g,args,op⟩::l)=(!(decide (d=t)) && JU t l):=by
 simp only[JU];congr 1
def Np{t:Nat}{g:Option (Nat×Bool)}{args:List fp}{op:AK}{l:List dM}:JU t (⟨none,g,args,op⟩::l)=JU t l:=by
 simp[JU]
theorem JW{t:Nat}{b:Bool}{d:Option Nat}{args:List fp}{op:AK}:vA t b ⟨d,none,args,op⟩=⟨d,none,args,op⟩:=rfl
theorem JX{t t':Nat}{b b':Bool}{d:Option Nat}{args:List fp}{op:AK}:vA t b ⟨d,some (t',b'),args,op⟩=if t'=t then(if b'=b then⟨d,none,args,op⟩else⟨d,none,[.c .un],.v .mv⟩)else⟨d,some (t',b'),args,op⟩:=rfl
theorem B2{d k:Option Nat}{env:List (Nat×AV)}{mem:List (Nat×List AV)}{v:AV}{cs:Option (List AV)}{sh:Sh}{aa:aF}:
   vz d k env mem (some ⟨v,cs,sh,aa⟩)=some ⟨gB env d v,fQ mem k cs,sh,aa⟩:=rfl
def EM{d k:Option Nat}{env:List (Nat×AV)}{mem:List (Nat×List AV)}{c:Prop}[Decidable c]{x y:Option Out}:vz d k env mem (if c then x else y)=if c then vz d k env mem x else vz d k env mem y:=by split<;>rfl
theorem EN{op:AK}{vals:List AV}{cells:Option (List AV)}{sh:Sh}{aa:aF}:Nk O op (some vals) cells sh aa=exec O op vals cells sh aa:=rfl
def Nq(sh:Sh)(aa:aF):Option AV->Option Out
 |some x=>some ⟨x,none,sh,aa⟩
 |none=>none
theorem JY{sh:Sh}{aa:aF}{x:AV}:Nq sh aa (some x)=some ⟨x,none,sh,aa⟩:=rfl
variable {vals:List AV} {cells:Option (List AV)} {sh:Sh} {aa:aF}
def VI{o:Q2}:exec O (.v o) vals cells sh aa=Nq sh aa (bG o vals):=by
 show (bG o vals).map _=_;cases bG o vals<;>rfl
def iI{key off sz d o:Nat}{ag:Bool}{cs:List AV}:exec O (.cr key off sz ag) [.au d o] (some cs) sh aa=if d=key/\o=off then Nq sh aa (cm ag sz cs off)else none:=by
 show (if d=key/\o=off then(cm ag sz cs off).map _ else none)=_;cases cm ag sz cs off<;>rfl
theorem iY{key off sz d o:Nat}{v:AV}{cs:List AV}:exec O (.bH key off sz) [.au d o,v] (some cs) sh aa =
   if d=key/\o=off/\(bq v).length=sz/\(bq v).all aY=true then if off+sz<=cs.length then some ⟨.un,some (aS cs off (bq v)),sh,aa⟩else none else none:=rfl
theorem jU{key:Nat}{zero:List PV}:exec O (.alloc key zero) [] none sh aa=some ⟨.au key 0,some (zero.map bG.zeroCell),sh,aa⟩:=rfl
theorem ni{key sz:Nat}{v:AV}:exec O (.box key sz) [v] none sh aa=if(bq v).length=sz/\(bq v).all aY=true then some ⟨.au key 0,some (bq v),sh,aa⟩else none:=rfl
def B3{sz:Nat}{ag:Bool}{cs:List PV}:exec O (.eg sz ag) [.h_ cs] cells sh aa=Nq sh aa (cR ag sz cs):=by
 show (cR ag sz cs).map _=_;cases cR ag sz cs<;>rfl
def vB(ag:Bool)(sz off:Nat):Option (Option (List AV))->Option AV
 |some (some cs)=>if bW cs=true then none else cm ag sz cs off
 |_=>none
theorem s9{ag:Bool}{sz off:Nat}{cs:List AV}:vB ag sz off (some (some cs))=if bW cs=true then none else cm ag sz cs off:=rfl
def B4{sz b off:Nat}{ag:Bool}:exec O (.eg sz ag) [.aV b off] cells sh aa=Nq sh aa (vB ag sz off sh[b]?):=by
 show (match sh[b]? with|some (some cs)=>if bW cs=true then none else(cm ag sz cs off).map _|_=>none)=_;split
 .rename_i cs h;rw[h,s9];split
  .rfl
  .cases cm ag sz cs off<;>rfl
 .rename_i h;unfold vB;split
  .rename_i cs e;exact absurd e (h cs)
  .rfl
def zw(b off sz:Nat)(vs:List AV)(sh:Sh)(aa:aF):Option (Option (List AV))->Option Out
 |some (some cs)=>if bW cs=false/\vs.length=sz/\off+sz<=cs.length/\vs.all da=true/\vs.all (aJ (b+1))=true then some ⟨.un,none,sh.set b (some (aS cs off vs)),aa⟩else none
 |_=>none
theorem qx{b off sz:Nat}{vs cs:List AV}:zw b off sz vs sh aa (some (some cs))=if bW cs=false/\vs.length=sz/\off+sz<=cs.length/\vs.all da=true/\vs.all (aJ (b+1))=true then some ⟨.un,none,sh.set b (some (aS cs off vs)),aa⟩else none:=rfl
def iZ{sz b off:Nat}{v:AV}:exec O (.fK sz) [.aV b off,v] cells sh aa=zw b off sz (cJ v) sh aa sh[b]?:=by
 show (match sh[b]? with|some (some cs)=>_|_=>none)=_;split
 .rename_i cs h;rw[h,qx]
 .rename_i h;unfold zw;split
  .rename_i cs e;exact absurd e (h cs)
  .rfl
theorem oe{sz:Nat}{v:AV}:exec O (.p7 sz) [v] cells sh aa=if(cJ v).length=sz/\(cJ v).all da=true/\(cJ v).all (aJ sh.length)=true then some ⟨.aV sh.length 0,none,sh++[some (cJ v)],aa⟩else none:=rfl
theorem kP{zero:List PV}:exec O (.jM zero) [] cells sh aa=some ⟨.aV sh.length 0,none,sh++[some (zero.map bG.zeroCell)],aa⟩:=rfl
theorem mh{sz bytes:Nat}{ag:Bool}{zero:List PV}{k k':IntKind}{n n':Int}:exec O (.jN sz bytes ag zero) [.pv (.int k n),.pv (.int k' n')] cells sh aa =
   if n=n'/\0<=n/\n<=9223372036854775807/\n*bytes<=140737488355328/\zero.length=sz then some ⟨.aP sh.length sz n.toNat ag,none,sh++[some ((List.replicate n.toNat (zero.map .pv)).flatten)],aa⟩else none:=rfl
theorem jV{key sz bytes:Nat}{zero:List PV}{k k':IntKind}{n n':Int}:exec O (.iU key sz bytes zero) [.pv (.int k n),.pv (.int k' n')] none sh aa =
   if n=n'/\0<=n/\n<=9223372036854775807/\n*bytes<=140737488355328/\zero.length=sz then some ⟨.kF key n.toNat,some ((List.replicate n.toNat (zero.map .pv)).flatten),sh,aa⟩else none:=rfl
theorem JZ{d s b:Nat}{z:List PV}:AK.key (.iU d s b z)=some d:=rfl
theorem EO{live:List Nat}{d n:Nat}:en live (.kF d n)=live.contains d:=rfl
def VJ(d sz:Nat)(ag:Bool)(st:St):Option (List AV)->St
 |some cells=>if cells.all da=true/\cells.all (aJ (st.sh.length+1))=true then
  {st with env:=tK d st.sh.length sz cells.length ag st.env (st.env.map (·.1)),mem:=tL d st.mem,sh:=st.sh++[some cells]}else st
 |none=>st
def Ri{d sz:Nat}{ag:Bool}{st:St}:Jm d sz ag st=VJ d sz ag st (look st.mem d):=by
 unfold Jm VJ;split<;>rename_i h<;>rw[h]
theorem J0{d sz:Nat}{ag:Bool}{env:List (Nat×AV)}{mem:List (Nat×List AV)}{cells:List AV}:VJ d sz ag ⟨env,mem,sh,aa⟩ (some cells)=
   if cells.all da=true/\cells.all (aJ (sh.length+1))=true then⟨tK d sh.length sz cells.length ag env (env.map (·.1)),tL d mem,sh++[some cells],aa⟩else⟨env,mem,sh,aa⟩:=rfl
theorem Ns{st:St}:yT [] st=st:=rfl
theorem J1{d sz:Nat}{ag:Bool}{r:List (Nat×Nat×Bool)}{st:St}:yT ((d,sz,ag)::r) st=yT r (Jm d sz ag st):=rfl
theorem Nt{d s sz n:Nat}{ag:Bool}{env:List (Nat×AV)}:tK d s sz n ag env []=[]:=rfl
def Yd(t:Nat)(r:List (Nat×AV)):Option AV->List (Nat×AV)
 |some v=>(t,v)::r
 |none=>r
theorem J3{t:Nat}{r:List (Nat×AV)}{v:AV}:Yd t r (some v)=(t,v)::r:=rfl
def J4{d s sz n t:Nat}{ag:Bool}{env:List (Nat×AV)}{r:List Nat}:tK d s sz n ag env (t::r)=Yd t (tK d s sz n ag env r) ((look env t).bind (A' d s sz n ag)):=by
 simp only[tK];split<;>rename_i h<;>rw[h]<;>rfl
theorem J5{d s sz n a o:Nat}{ag:Bool}:A' d s sz n ag (.au a o)=some (if a=d then .aV s o else .au a o):=rfl
theorem J6{d s sz n a m:Nat}{ag:Bool}:A' d s sz n ag (.kF a m)=if a=d then(if m*sz<=n then some (.aP s sz m ag)else none)else some (.kF a m):=rfl
theorem Rj{d s sz n:Nat}{ag:Bool}{p:PV}:A' d s sz n ag (.pv p)=some (.pv p):=rfl
theorem J7{d s sz n b z m:Nat}{ag g:Bool}:A' d s sz n ag (.aP b z m g)=some (.aP b z m g):=rfl
theorem Nu{α:Type}{d:Nat}:tL d ([]:List (Nat×α))=[]:=rfl
theorem J8{α:Type}{d k:Nat}{v:α}{r:List (Nat×α)}:tL d ((k,v)::r)=if k=d then tL d r else(k,v)::tL d r:=rfl
theorem Nv{b o b' o':Nat}:apart (some (.aV b o)) (some (.aV b' o'))=(b != b'):=rfl
def Ye(ts:List Nat)(st:St):Option AV->St
 |some (.aP b _ _ _)=>match st.sh[b]? with
  |some (some cells)=>if bW cells=false then {st with env:=oP b st.sh.length ts st.env,sh:=st.sh.set b none++[some cells]}else st
  |_=>st
 |_=>st
theorem J9{t:Nat}{r:List Nat}{st:St}:Eh (t::r) st=Ye (t::r) st (look st.env t):=rfl
def Yf(ts:List Nat)(b:Nat)(st:St):Option (Option (List AV))->St
 |some (some cells)=>if bW cells=false then {st with env:=oP b st.sh.length ts st.env,sh:=st.sh.set b none++[some cells]}else st
 |_=>st
theorem J_{ts:List Nat}{st:St}{b z n:Nat}{ag:Bool}:Ye ts st (some (.aP b z n ag))=Yf ts b st st.sh[b]?:=rfl
theorem J'{ts:List Nat}{b:Nat}{env:List (Nat×AV)}{mem:List (Nat×List AV)}{cells:List AV}:Yf ts b ⟨env,mem,sh,aa⟩ (some (some cells))=
   if bW cells=false then⟨oP b sh.length ts env,mem,sh.set b none++[some cells],aa⟩else⟨env,mem,sh,aa⟩:=rfl
theorem Nw{b b':Nat}{env:List (Nat×AV)}:oP b b' [] env=env:=rfl
def Yg(b b' t:Nat)(r:List Nat)(env:List (Nat×AV)):Option AV->List (Nat×AV)
 |some (.aP s z n ag)=>if s=b then oP b b' r (dF env t (.aP b' z n ag))else oP b b' r env
 |_=>oP b b' r env
theorem Ka{b b' t:Nat}{r:List Nat}{env:List (Nat×AV)}:oP b b' (t::r) env=Yg b b' t r env (look env t):=rfl
theorem Kb{b b' t s z n:Nat}{ag:Bool}{r:List Nat}{env:List (Nat×AV)}:Yg b b' t r env (some (.aP s z n ag))=if s=b then oP b b' r (dF env t (.aP b' z n ag))else oP b b' r env:=rfl
theorem Nx{st:St}:jO [] st=st:=rfl
def VK(r:List Nat)(st:St):Option AV->St
 |some (.aP b _ _ _)=>match st.sh[b]? with
  |some (some cells)=>if bW cells=false/\(eA (.agg cells)).contains b=false then
   match cz st.sh cells with
   |some ps=>jO r {st with sh:=(cQ st.sh [.agg cells]).set b (some (ps.map .pv))}
   |none=>jO r st
    else jO r st
  |_=>jO r st
 |_=>jO r st
theorem Kc{t:Nat}{r:List Nat}{st:St}:jO (t::r) st=VK r st (look st.env t):=rfl
def VL(r:List Nat)(b:Nat)(cells:List AV)(st:St):Option (List PV)->St
 |some ps=>jO r {st with sh:=(cQ st.sh [.agg cells]).set b (some (ps.map .pv))}
 |none=>jO r st
def VM(r:List Nat)(b:Nat)(st:St):Option (Option (List AV))->St
 |some (some cells)=>if bW cells=false/\(eA (.agg cells)).contains b=false then VL r b cells st (cz st.sh cells)else jO r st
 |_=>jO r st
def Kd{r:List Nat}{st:St}{b z n:Nat}{ag:Bool}:VK r st (some (.aP b z n ag))=VM r b st st.sh[b]?:=by
 simp only[VK];split
 .rename_i cells h;rw[h];rfl
 .rename_i h;unfold VM;split
  .rename_i cells e;exact absurd e (h cells)
  .rfl
theorem Ke{r:List Nat}{b:Nat}{st:St}{cells:List AV}:VM r b st (some (some cells))=if bW cells=false/\(eA (.agg cells)).contains b=false then VL r b cells st (cz st.sh cells)else jO r st:=rfl
theorem Kf{r:List Nat}{b:Nat}{cells:List AV}{ps:List PV}{env:List (Nat×AV)}{mem:List (Nat×List AV)}:VL r b cells ⟨env,mem,sh,aa⟩ (some ps)=jO r ⟨env,mem,(cQ sh [.agg cells]).set b (some (ps.map .pv)),aa⟩:=rfl
def Yh(aa:aF):Option (AV×Sh×aF)->Option Out
 |some (v,sh',ts)=>some ⟨v,none,sh',ts⟩
 |none=>none
theorem Kg{v:AV}{sh':Sh}{ts:aF}:Yh aa (some (v,sh',ts))=some ⟨v,none,sh',ts⟩:=rfl
def B5{sz bytes:Nat}{ag:Bool}{x:AV}:exec O (.ie sz bytes ag) [x] cells sh aa=Yh aa (gA (some ag) sz bytes x sh aa):=by
 show ((gA (some ag) sz bytes x sh aa).map _)=_;cases gA (some ag) sz bytes x sh aa<;>rfl
def zx(ag:Bool)(sz bytes:Nat)(sh:Sh)(aa:aF):Option (List PV)->Option (AV×Sh×aF)
 |some xs=>if bl sz xs=true then(if xs.isEmpty=true then some (.dr [],sh,aa)else if xs.length*bytes<=140737488355328 then some (.aP sh.length sz xs.length ag,sh++[some ((xs.flatMap aZ).map .pv)],aa)else none)else none
 |none=>none
def Kh{ag:Bool}{sz bytes:Nat}{x:AV}:gA (some ag) sz bytes x sh aa=zx ag sz bytes sh aa (cG x):=by
 cases h:cG x with
 |none=>simp[gA,zx,h]
 |some xs=>
  simp only[gA,zx,h];split
  .unfold tI;split
   .rfl
   .split<;>rfl
  .rfl
theorem B6{ag:Bool}{sz bytes:Nat}{xs:List PV}:zx ag sz bytes sh aa (some xs)=
   if bl sz xs=true then(if xs.isEmpty=true then some (.dr [],sh,aa)else if xs.length*bytes<=140737488355328 then some (.aP sh.length sz xs.length ag,sh++[some ((xs.flatMap aZ).map .pv)],aa)else none)else none:=rfl
theorem EP{sz bytes:Nat}{ag:Bool}:(AK.ie sz bytes ag).key=none:=rfl
theorem Rk{p:PV}{r:List AV}:bW (.pv p::r)=false:=rfl
theorem Ny{l:List PV}{τ:Nat}{r:List AV}:bW (.own l τ::r)=false:=rfl
theorem Ki{b z n:Nat}{ag:Bool}{r:List AV}:bW (.aP b z n ag::r)=false:=rfl
def Yi(ok:Bool)(z:PV)(sh:Sh)(aa:aF):Option (Option PV)->Option Out
 |some r=>some ⟨yS ok z r,none,sh,aa⟩
 |none=>none
theorem zy{z:PV}{r:Option PV}:yS true z r=.rf [.pv (r.getD z),.pv (.bool r.isSome)]:=rfl
theorem w8{z:PV}{r:Option PV}:yS false z r=.pv (r.getD z):=rfl
def Yj(c:CK)(ok:Bool)(z k:PV)(sh:Sh)(aa:aF):Option (Option (List AV))->Option Out
 |some (some [.fH kvs])=>Yi ok z sh aa (Ef c kvs k)
 |_=>none
theorem ER{c:CK}{ok:Bool}{z k:PV}{kvs:List (PV×PV)}:Yj c ok z k sh aa (some (some [.fH kvs]))=Yi ok z sh aa (Ef c kvs k):=rfl
def cC(s:Nat)(sh:Sh)(aa:aF):Option (List (PV×PV))->Option Out
 |some kvs=>some ⟨.un,none,sh.set s (some [.fH kvs]),aa⟩
 |none=>none
theorem Kj{s:Nat}{kvs:List (PV×PV)}:cC s sh aa (some kvs)=some ⟨.un,none,sh.set s (some [.fH kvs]),aa⟩:=rfl
def aaG(c:CK)(s:Nat)(k:PV)(sh:Sh)(aa:aF):Option (Option (List AV))->Option PV->Option Out
 |some (some [.fH kvs]),some p=>cC s sh aa (M1 c kvs k p)
 |_,_=>none
theorem Kk{c:CK}{s:Nat}{k p:PV}{kvs:List (PV×PV)}:aaG c s k sh aa (some (some [.fH kvs])) (some p)=cC s sh aa (M1 c kvs k p):=rfl
def Kl(sh:Sh):Option (AV×aF)->Option Out
 |some (v,ts)=>some ⟨v,none,sh,ts⟩
 |none=>none
theorem Km{v:AV}{ts:aF}:Kl sh (some (v,ts))=some ⟨v,none,sh,ts⟩:=rfl
def Nz{c:Prop}[Decidable c]{x y:Option (AV×aF)}:Kl sh (if c then x else y)=if c then Kl sh x else Kl sh y:=by split<;>rfl
def kQ{sz bytes:Nat}{s x:AV}:exec O (.append sz bytes) [s,x] cells sh aa=Kl sh (cp sz bytes s x aa):=by
 show (cp sz bytes s x aa).map _=_;cases cp sz bytes s x aa<;>rfl
def pj{sz bytes:Nat}{x:AV}:exec O (.clone sz bytes) [x] cells sh aa=Kl sh (cp sz bytes (.dr []) x aa):=by
 show (cp sz bytes (.dr []) x aa).map _=_;cases cp sz bytes (.dr []) x aa<;>rfl
def H9(sz bytes:Nat)(s:AV)(aa:aF):Option (List PV)->Option (AV×aF)
 |some xs=>if bl sz xs=true then
  match s with
  | .dr l=>if xs.isEmpty=true then some (.dr l,aa)else if bl sz l=true/\(l.length+xs.length)*bytes<=140737488355328 then
   some (.own (l++xs) aa.length,aa++[(l++xs).length])else none
  | .own l τ=>if aa[τ]?=some l.length/\bl sz l=true/\(l.length+xs.length)*bytes<=140737488355328 then
   some (.own (l++xs) τ,aa.set τ (l++xs).length)else none
  |_=>none
  else none
 |none=>none
def w_{sz bytes:Nat}{s x:AV}:cp sz bytes s x aa=H9 sz bytes s aa (cG x):=by
 unfold cp H9;cases cG x<;>rfl
theorem Ko{sz bytes:Nat}{l xs:List PV}:H9 sz bytes (.dr l) aa (some xs)=if bl sz xs=true then if xs.isEmpty=true then some (.dr l,aa)else if bl sz l=true/\(l.length+xs.length)*bytes<=140737488355328 then
 some (.own (l++xs) aa.length,aa++[(l++xs).length])else none else none:=rfl
theorem Kq{sz bytes τ:Nat}{l xs:List PV}:H9 sz bytes (.own l τ) aa (some xs)=if bl sz xs=true then if aa[τ]?=some l.length/\bl sz l=true/\(l.length+xs.length)*bytes<=140737488355328 then
 some (.own (l++xs) τ,aa.set τ (l++xs).length)else none else none:=rfl
def Kr(aa:aF):Option (AV×Sh)->Option Out
 |some (v,sh)=>some ⟨v,none,sh,aa⟩
 |none=>none
theorem Ks{v:AV}{sh:Sh}:Kr aa (some (v,sh))=some ⟨v,none,sh,aa⟩:=rfl
def NA{c:Prop}[Decidable c]{x y:Option (AV×Sh)}:Kr aa (if c then x else y)=if c then Kr aa x else Kr aa y:=by split<;>rfl
def NB(sz bytes:Nat)(ag:Bool)(s:AV)(sh:Sh)(aa:aF):Option (List PV)->Option Out
 |some xs=>if bl sz xs=true then Kr aa (tJ sz bytes ag s xs sh aa)else none
 |none=>none
theorem ES{sz bytes:Nat}{ag:Bool}{s:AV}{xs:List PV}:NB sz bytes ag s sh aa (some xs)=if bl sz xs=true then Kr aa (tJ sz bytes ag s xs sh aa)else none:=rfl
theorem mj{sz bytes:Nat}{ag:Bool}{s x:AV}:exec O (.dk sz bytes ag) [s,x] cells sh aa=NB sz bytes ag s sh aa (cG x):=by
 simp only[exec,NB];cases cG x with
 |none=>rfl
 |some xs=>
  simp only;split
  .cases tJ sz bytes ag s xs sh aa<;>rfl
  .rfl
def ET(sz bytes:Nat)(ag:Bool)(b z n:Nat)(g:Bool)(xs:List PV)(sh:Sh):Option (Option (List AV))->Option (AV×Sh)
 |some (some cells)=>if z=sz/\g=ag/\bW cells=false/\n*sz<=cells.length/\(n+xs.length)*bytes<=140737488355328 then
  if xs.isEmpty=true then some (.aP b sz n ag,sh)else some (.aP sh.length sz (n+xs.length) ag,sh.set b none++[some (cells.take (n*sz)++(xs.flatMap aZ).map .pv)])
     else none
 |_=>none
theorem B7{sz bytes:Nat}{ag:Bool}{b z n:Nat}{g:Bool}{xs:List PV}{cells:List AV}:ET sz bytes ag b z n g xs sh (some (some cells))=if z=sz/\g=ag/\bW cells=false/\n*sz<=cells.length/\(n+xs.length)*bytes<=140737488355328 then
 if xs.isEmpty=true then some (.aP b sz n ag,sh)else some (.aP sh.length sz (n+xs.length) ag,sh.set b none++[some (cells.take (n*sz)++(xs.flatMap aZ).map .pv)])
     else none:=rfl
theorem NC{sz bytes:Nat}{ag:Bool}{xs:List PV}:tJ sz bytes ag (.dr []) xs sh aa=tI sz bytes ag (.dr []) xs sh:=rfl
theorem ND{sz bytes τ:Nat}{ag:Bool}{xs:List PV}:tJ sz bytes ag (.own [] τ) xs sh aa=if aa[τ]?=some 0 then tI sz bytes ag (.own [] τ) xs sh else none:=rfl
def Kt{sz bytes b z n:Nat}{ag g:Bool}{xs:List PV}:tJ sz bytes ag (.aP b z n g) xs sh aa=ET sz bytes ag b z n g xs sh sh[b]?:=by
 simp only[tJ,ET];rcases sh[b]? with _|_|cells<;>rfl
theorem Rl{sz bytes:Nat}{ag:Bool}{s:AV}{xs:List PV}:tI sz bytes ag s xs sh=if xs.isEmpty=true then some (s,sh)else if xs.length*bytes<=140737488355328 then some (.aP sh.length sz xs.length ag,sh++[some ((xs.flatMap aZ).map .pv)])else none:=rfl
def Rm(r:List Nat)(t:Nat)(st:St)(v:AV):Option PV->St
 |some p=>oO r {st with env:=dF st.env t (.pv p),sh:=cQ st.sh [v]}
 |none=>oO r (Eg v st)
def NF(d:Nat)(cs:List AV)(st:St):Option (List PV)->St
 |some ps=>{st with mem:=dF st.mem d (ps.map .pv),sh:=cQ st.sh [.agg cs]}
 |none=>st
def NG(d:Nat)(st:St):Option (List AV)->St
 |some cs=>NF d cs st (cz st.sh cs)
 |none=>st
theorem Ku{d:Nat}{st:St}:Eg (.au d 0) st=NG d st (look st.mem d):=by
 simp only[Eg];cases look st.mem d with
 |none=>rfl
 |some cs=>
  simp only[NG];cases cz st.sh cs<;>rfl
def Yk(b:Nat)(st:St):Option (Option (List AV))->St
 |some (some cs)=>{st with sh:=st.sh.set b (some ((cs.take (cs.length / 2)).map oR++cs.drop (cs.length / 2)))}
 |_=>st
theorem EU{b:Nat}{st:St}{cs:List AV}:Yk b st (some (some cs))={st with sh:=st.sh.set b (some ((cs.take (cs.length / 2)).map oR++cs.drop (cs.length / 2)))}:=rfl
theorem Kv{l:List PV}:oR (.dr l)=.pv (.aq l):=rfl
theorem NH{p:PV}:oR (.pv p)=.pv p:=rfl
theorem EV{d:Nat}{st:St}{cs:List AV}:NG d st (some cs)=NF d cs st (cz st.sh cs):=rfl
theorem EW{d:Nat}{st:St}{cs:List AV}{ps:List PV}:NF d cs st (some ps)={st with mem:=dF st.mem d (ps.map .pv),sh:=cQ st.sh [.agg cs]}:=rfl
def VN(r:List Nat)(t:Nat)(st:St):Option AV->St
 |some v=>Rm r t st v (gr st.sh v)
 |none=>oO r st
theorem NI{st:St}:oO [] st=st:=rfl
theorem Kx{t:Nat}{r:List Nat}{st:St}:oO (t::r) st=VN r t st (look st.env t):=by
 simp only[oO];cases look st.env t with
 |none=>rfl
 |some v=>
  simp only[VN];cases gr st.sh v<;>rfl
theorem Ky{r:List Nat}{t:Nat}{st:St}{v:AV}:VN r t st (some v)=Rm r t st v (gr st.sh v):=rfl
theorem Kz{r:List Nat}{t:Nat}{st:St}{v:AV}{p:PV}:Rm r t st v (some p)=oO r {st with env:=dF st.env t (.pv p),sh:=cQ st.sh [v]}:=rfl
theorem KA{r:List Nat}{t:Nat}{st:St}{v:AV}:Rm r t st v none=oO r (Eg v st):=rfl
def VO(aa:aF):Option Sh->Option Out
 |some sh=>some ⟨.rf [],none,sh,aa⟩
 |none=>none
theorem KB{sh:Sh}:VO aa (some sh)=some ⟨.rf [],none,sh,aa⟩:=rfl
def vD(sz:Nat)(zero:List PV)(sh:Sh)(b off n:Nat):Option (Option (List AV))->Option Sh
 |some (some cells)=>if bW cells=false/\off+n*sz<=cells.length/\zero.length=sz then some (sh.set b (some (aS cells off (List.replicate n (zero.map .pv)).flatten)))else none
 |_=>none
theorem B8{sz b off n:Nat}{zero:List PV}{cells:List AV}:vD sz zero sh b off n (some (some cells))=if bW cells=false/\off+n*sz<=cells.length/\zero.length=sz then some (sh.set b (some (aS cells off (List.replicate n (zero.map .pv)).flatten)))else none:=rfl
def zz{sz b n:Nat}{ag:Bool}{zero:List PV}:exec O (.ig sz zero) [.aP b sz n ag] cells sh aa=VO aa (vD sz zero sh b 0 n sh[b]?):=by
 simp only[exec,uE,zbc,o_];rcases sh[b]? with _|_|cs
 .rfl
 .rfl
 .simp only[vD];split<;>rfl
def zB{sz b off n:Nat}{zero:List PV}:exec O (.ig sz zero) [.ri b off n] cells sh aa=VO aa (vD sz zero sh b off n sh[b]?):=by
 simp only[exec,uE,o_];rcases sh[b]? with _|_|cs
 .rfl
 .rfl
 .simp only[vD];split<;>rfl
def vE(sz:Nat)(sh:Sh)(aa:aF)(x:AV):Option (List PV)->Option Out
 |some xs=>NJ aa (p9 sz sh xs x)
 |none=>none
where NJ (aa:aF):Option (Nat×Sh)->Option Out
 |some (k,sh')=>some ⟨.pv (.int .i64 (k:Int)),none,sh',aa⟩
 |none=>none
theorem B9{sz:Nat}{x:AV}{xs:List PV}:vE sz sh aa x (some xs)=vE.NJ aa (p9 sz sh xs x):=rfl
theorem EX{k:Nat}{sh':Sh}:vE.NJ aa (some (k,sh'))=some ⟨.pv (.int .i64 (k:Int)),none,sh',aa⟩:=rfl
theorem mi{sz:Nat}{x y:AV}:exec O (.kJ sz) [x,y] cells sh aa=vE sz sh aa x (cG y):=by
 simp only[exec,vE];cases cG y with
 |none=>rfl
 |some xs=>simp only;cases p9 sz sh xs x<;>rfl
def NK(sz:Nat)(sh:Sh)(xs:List PV)(b z n:Nat):Option (Option (List AV))->Option (Nat×Sh)
 |some (some cells)=>if z=sz/\bl sz xs=true/\bW cells=false/\n*sz<=cells.length then
  some (min xs.length n,sh.set b (some (aS cells 0 (((xs.take n).flatMap aZ).map .pv))))else none
 |_=>none
theorem EY{sz b z n:Nat}{xs:List PV}{cells:List AV}:NK sz sh xs b z n (some (some cells))=if z=sz/\bl sz xs=true/\bW cells=false/\n*sz<=cells.length then
 some (min xs.length n,sh.set b (some (aS cells 0 (((xs.take n).flatMap aZ).map .pv))))else none:=rfl
def EZ{sz b z n:Nat}{g:Bool}{xs:List PV}:p9 sz sh xs (.aP b z n g)=NK sz sh xs b z n sh[b]?:=by
 simp only[p9,NK];rcases sh[b]? with _|_|cells<;>rfl
theorem KD{s:Nat}:AK.key (.kJ s)=none:=rfl
theorem KE:A_ [] []=true:=rfl
theorem E_{a b:List UInt8}{r q:List PV}:A_ (.str a::r) (.str b::q)=((a == b) && A_ r q):=rfl
theorem Fa{s:Nat}{z:List PV}:AK.key (.ig s z)=none:=rfl
theorem Fb{sz b n:Nat}{ag lo hi:Bool}{rest:List AV}:bG (.uB sz lo hi) (.aP b sz n ag::rest)=lI sz lo hi (.aP b sz n ag::rest):=rfl
theorem NL{l:List PV}:cG (.pv (.aq l))=some l:=rfl
theorem KF{l:List PV}:cG (.dr l)=some l:=rfl
theorem KH{l:List PV}{τ:Nat}:cG (.own l τ)=some l:=rfl
theorem Fe{sz:Nat}:bl sz []=true:=rfl
theorem B_{sz:Nat}{p:PV}{r:List PV}:bl sz (p::r)=((aZ p).length == sz):=rfl
def VP(sh:Sh)(aa:aF):Option (List PV)->Option Out
 |some rs=>some ⟨uF rs,none,sh,aa⟩
 |none=>none
theorem KI{rs:List PV}:VP sh aa (some rs)=some ⟨uF rs,none,sh,aa⟩:=rfl
def NM(O:eY)(g:Nat):Option (List PV)->Option (List PV)
 |some dN=>O.p g dN
 |none=>none
theorem pB{g:Nat}{dN:List PV}:NM O g (some dN)=O.p g dN:=rfl
def Ff{g:Nat}:exec O (.aE g) vals cells sh aa=VP sh aa (NM O g (dG [] vals)):=by
 show (match dG [] vals with|some dN=>_|none=>none)=_;split
 .rename_i dN h;rw[h,pB];cases O.p g dN<;>rfl
 .rename_i h;rw[h];rfl
def B'{g:Nat}:exec O (.d8 g) vals cells sh aa=VP (cQ sh vals) aa (NM O g (dG sh vals)):=by
 show (match dG sh vals with|some dN=>_|none=>none)=_;split
 .rename_i dN h;rw[h,pB];cases O.p g dN<;>rfl
 .rename_i h;rw[h];rfl
def VQ(n:Nat)(a:aF):Option (List AV×Sh×aF)->Option Out
 |some (rs,sh',ts)=>some ⟨tH (rs.map (cY n)),none,dU n sh',a++ts⟩
 |none=>none
theorem KJ{n:Nat}{a:aF}{rs:List AV}{sh':Sh}{ts:aF}:VQ n a (some (rs,sh',ts))=some ⟨tH (rs.map (cY n)),none,dU n sh',a++ts⟩:=rfl
def H_(O:eY)(g n:Nat)(q:List AV×Sh×aF×aF):Option Out:=VQ n q.2.2.1 (O.i g q.1 q.2.1 q.2.2.2)
theorem NN{g n:Nat}{a:List AV}{s:Sh}{o t:aF}:H_ O g n (a,s,o,t)=VQ n o (O.i g a s t):=rfl
def xN(O:eY)(g:Nat)(args:List AV)(sh:Sh)(aa:aF):Option Out:=
 if args.all bU=true then H_ O g aa.length (de aa args sh)else none
theorem NO{g:Nat}{args:List AV}:xN O g args sh aa=if args.all bU=true then H_ O g aa.length (de aa args sh)else none:=rfl
theorem ny{g:Nat}{own:List Nat}:(ek O g own vals sh aa).map (fun(v,sh',ts)=>(⟨v,none,sh',ts⟩:Out))=xN O g (eB own 0 vals) sh aa:=by
 unfold ek xN H_;split
 .cases O.i g (de aa (eB own 0 vals) sh).1 (de aa (eB own 0 vals) sh).2.1 (de aa (eB own 0 vals) sh).2.2.2 with
  |none=>rfl
  |some q=>obtain⟨a,b,c⟩:=q;rfl
 .rfl
def Fg{g:Nat}{own:List Nat}:exec O (.bB g own) vals cells sh aa=xN O g (eB own 0 vals) sh aa:=ny
def eZ{g:Nat}{cap:List AV}:exec O .gk (.fn g cap::vals) cells sh aa=xN O g (eB [] 0 (vals++cap)) sh aa:=ny (vals:=vals++cap)
def roO(sh:Sh):Option Out->Option Out
 |some o=>if oN o.sh sh=true then some ⟨o.val,none,sh,o.aa⟩else none
 |none=>none
theorem NP{v:AV}{c:Option (List AV)}{s:Sh}{t:aF}:roO sh (some ⟨v,c,s,t⟩)=if oN s sh=true then some ⟨v,none,sh,t⟩else none:=rfl
theorem Ca{g:Nat}{cap:List AV}:exec O .fq (.fn g cap::vals) cells sh aa=roO sh (xN O g (eB [] 0 (vals++cap)) sh aa):=by
 rw[<-ny];simp only[exec];cases ek O g [] (vals++cap) sh aa with
 |none=>rfl
 |some q=>obtain⟨v,s,t⟩:=q;rfl
theorem Fh:AK.key .fq=none:=rfl
mutual
theorem xQ:∀p:PV,oM p p=true
 | .bool _=>by simp[oM]
 | .int _ _=>by simp[oM]
 | .str _=>by simp[oM]
 | .agg l=>by simp only[oM];exact pC l
 | .aq l=>by simp only[oM];exact pC l
theorem pC:∀l:List PV,p_ l l=true
 |[]=>rfl
 |p::r=>by simp only[p_,xQ p,pC r,zcT]
end
def VS{p:PV}:Xx (.pv p) (.pv p)=true:=xQ p
theorem NQ:wT [] []=true:=rfl
theorem KK{a b:AV}{r q:List AV}:wT (a::r) (b::q)=(Xx a b && wT r q):=rfl
theorem NR:oN [] []=true:=rfl
theorem KL{a b:List AV}{r q:Sh}:oN (some a::r) (some b::q)=(wT a b && oN r q):=rfl
def b2sO:Option (List UInt8)->Option AV
 |some s=>some (.pv (.str s))
 |none=>none
theorem b2sO_some{s:List UInt8}:b2sO (some s)=some (.pv (.str s)):=rfl
def aaH(sh:Sh)(aa:aF):Option (List AV×Sh×aF)->Option Out
 |some (rs,[],ts)=>some ⟨tH (rs.map (cY aa.length)),none,sh,aa++ts⟩
 |_=>none
theorem KM{rs:List AV}{ts:aF}:aaH sh aa (some (rs,[],ts))=some ⟨tH (rs.map (cY aa.length)),none,sh,aa++ts⟩:=rfl
theorem Fi{own:List Nat}{i:Nat}:eB own i []=[]:=rfl
theorem Cb{own:List Nat}{i:Nat}{v:AV}{r:List AV}:eB own i (v::r)=(if own.contains i then v else lJ v)::eB own (i+1) r:=rfl
theorem NU{p:PV}:lJ (.pv p)=.pv p:=rfl
theorem KN{l:List PV}:lJ (.dr l)=.pv (.aq l):=rfl
theorem KO{l:List PV}{τ:Nat}:lJ (.own l τ)=.pv (.aq l):=rfl
theorem Fj{b o:Nat}:lJ (.aV b o)=.aV b o:=rfl
theorem NV{g:Nat}{cap:List AV}:lJ (.fn g cap)=.fn g cap:=rfl
theorem Fk{b s n:Nat}{ag:Bool}:lJ (.aP b s n ag)=.aP b s n ag:=rfl
theorem Fl{s:Nat}:lJ (.jL s)=(.jL s):=rfl
def zD(cs:List AV):Option (List PV)->AV
 |some ps=>.pv (.agg ps)
 |none=>.agg cs
def KP{cs:List AV}:lJ (.agg cs)=zD cs (cz [] cs):=by
 have h:gr [] (.agg cs)=(cz [] cs).map .agg:=rfl;unfold lJ zD;rw[h];cases cz [] cs<;>rfl
theorem Cd{cs:List AV}{ps:List PV}:zD cs (some ps)=.pv (.agg ps):=rfl
def qy{α:Type}:Option α->Option (List α)->Option (List α)
 |some x,some l=>some (x::l)
 |_,_=>none
theorem Fm{α:Type}{x:α}{l:List α}:qy (some x) (some l)=some (x::l):=rfl
theorem Fo{env:List (Nat×AV)}:eC env []=some []:=rfl
def Ce{env:List (Nat×AV)}{x:fp}{r:List fp}:eC env (x::r)=qy (iB env x) (eC env r):=by
 simp only[eC];cases iB env x<;>cases eC env r<;>rfl
theorem Rn{env:List (Nat×AV)}{n:Nat}:iB env (.t n)=look env n:=rfl
theorem Ro{env:List (Nat×AV)}{v:AV}:iB env (.c v)=some v:=rfl
theorem NW:eX []=some []:=rfl
def rM{v:AV}{r:List AV}:eX (v::r)=qy (l6 v) (eX r):=by
 simp only[eX];cases l6 v<;>cases eX r<;>rfl
theorem Fp:dG sh []=some []:=rfl
def Cf{v:AV}{r:List AV}:dG sh (v::r)=qy (gr sh v) (dG sh r):=by
 simp only[dG];cases gr sh v<;>cases dG sh r<;>rfl
theorem KQ:cz sh []=some []:=rfl
def Fq{v:AV}{r:List AV}:cz sh (v::r)=if aY v=true then qy (d4 sh v) (cz sh r)else none:=by
 simp only[cz];split
 .cases d4 sh v<;>cases cz sh r<;>rfl
 .rfl
theorem Rp{p:PV}:l6 (.pv p)=some p:=rfl
theorem VT{p:PV}:gr sh (.pv p)=some p:=rfl
theorem Rq{l:List PV}:gr sh (.dr l)=some (.aq l):=rfl
theorem Rr{l:List PV}{τ:Nat}:gr sh (.own l τ)=some (.aq l):=rfl
def Yl:Option (List PV)->Option PV
 |some ps=>some (.agg ps)
 |none=>none
theorem KR{ps:List PV}:Yl (some ps)=some (.agg ps):=rfl
def Rs{cs:List AV}:gr sh (.agg cs)=Yl (cz sh cs):=by
 simp only[gr];cases cz sh cs<;>rfl
theorem Fs{p:PV}:d4 sh (.pv p)=some p:=rfl
theorem Cg{l:List PV}:d4 sh (.dr l)=some (.aq l):=rfl
theorem Ci{l:List PV}{τ:Nat}:d4 sh (.own l τ)=some (.aq l):=rfl
theorem NX{b o:Nat}:gr sh (.aV b o)=none:=rfl
def Rt(sz n:Nat)(ag:Bool):Option (Option (List AV))->Option PV
 |some (some cells)=>if cells.length=n*sz then((eX cells).bind (d9 sz ag n)).map .aq
   else if bW cells=false/\n*sz<=cells.length then((eX (cells.take (n*sz))).bind (d9 sz ag n)).map .aq else none
 |_=>none
theorem zF{b sz n:Nat}{ag:Bool}:d4 sh (.aP b sz n ag)=Rt sz n ag sh[b]?:=rfl
theorem NY{b sz n:Nat}{ag:Bool}:gr sh (.aP b sz n ag)=Rt sz n ag sh[b]?:=rfl
theorem KU{sz n:Nat}{ag:Bool}{cells:List AV}:Rt sz n ag (some (some cells))=if cells.length=n*sz then((eX cells).bind (d9 sz ag n)).map .aq else if bW cells=false/\n*sz<=cells.length then((eX (cells.take (n*sz))).bind (d9 sz ag n)).map .aq else none:=rfl
theorem NZ{r:PV}:uF [r]=.pv r:=rfl
theorem N0{a b:PV}{r:List PV}:uF (a::b::r)=.rf (.pv a::.pv b::r.map .pv):=rfl
theorem N1{r:AV}:tH [r]=r:=rfl
theorem N2:tH []=.rf []:=rfl
theorem N3{a b:AV}{r:List AV}:tH (a::b::r)=.rf (a::b::r):=rfl
theorem N4{xs:List AV}:de aa xs sh=((br aa [] xs).1,(bg (br aa [] xs).2.1 (br aa [] xs).2.2 sh).1,(bg (br aa [] xs).2.1 (br aa [] xs).2.2 sh).2.1,(bg (br aa [] xs).2.1 (br aa [] xs).2.2 sh).2.2):=rfl
theorem KX{aH ts:aF}:br aH ts []=([],aH,ts):=rfl
theorem vF{aH ts:aF}{v:AV}{r:List AV}:br aH ts (v::r)=((bM aH ts v).1::(br (bM aH ts v).2.1 (bM aH ts v).2.2 r).1,(br (bM aH ts v).2.1 (bM aH ts v).2.2 r).2):=rfl
theorem KY{aH ts:aF}:bg aH ts []=([],aH,ts):=rfl
theorem vG{aH ts:aF}{r:Sh}:bg aH ts (none::r)=(none::(bg aH ts r).1,(bg aH ts r).2):=rfl
theorem vH{aH ts:aF}{cs:List AV}{r:Sh}:bg aH ts (some cs::r)=(some (br aH ts cs).1::(bg (br aH ts cs).2.1 (br aH ts cs).2.2 r).1,(bg (br aH ts cs).2.1 (br aH ts cs).2.2 r).2):=rfl
theorem KZ{aH ts:aF}:dx aH ts []=([],aH,ts):=rfl
theorem Ft{aH ts:aF}{t:Nat}{v:AV}{r:List (Nat×AV)}:dx aH ts ((t,v)::r)=((t,(bM aH ts v).1)::(dx (bM aH ts v).2.1 (bM aH ts v).2.2 r).1,(dx (bM aH ts v).2.1 (bM aH ts v).2.2 r).2):=rfl
theorem K0{aH ts:aF}:fR aH ts []=([],aH,ts):=rfl
theorem Fu{aH ts:aF}{t:Nat}{v:List AV}{r:List (Nat×List AV)}:fR aH ts ((t,v)::r)=((t,(br aH ts v).1)::(fR (br aH ts v).2.1 (br aH ts v).2.2 r).1,(fR (br aH ts v).2.1 (br aH ts v).2.2 r).2):=rfl
theorem K1{aH ts:aF}{l:List PV}{τ:Nat}:bM aH ts (.own l τ)=if aH[τ]?=some l.length then(.own l ts.length,aH.set τ (l.length+1),ts++[l.length])else(.pv (.aq l),aH,ts):=rfl
theorem K3{aH ts:aF}{l:List PV}:bM aH ts (.dr l)=(.own l ts.length,aH,ts++[l.length]):=rfl
theorem Cj{aH ts:aF}{p:PV}:bM aH ts (.pv p)=(.pv p,aH,ts):=rfl
def Fv(aH ts:aF)(p:List AV):Bool->AV×aF×aF
 |true=>(.agg p,aH,ts)
 |false=>(.agg (cS aH ts p).1,(cS aH ts p).2.1,(cS aH ts p).2.2)
def K4{aH ts:aF}{p:List AV}:bM aH ts (.agg p)=Fv aH ts p (bI.eL p):=by
 simp only[bM];cases bI.eL p<;>rfl
theorem Ck{aH ts:aF}{p:List AV}:Fv aH ts p true=(.agg p,aH,ts):=rfl
theorem zG{aH ts:aF}{p:List AV}:Fv aH ts p false=(.agg (cS aH ts p).1,(cS aH ts p).2.1,(cS aH ts p).2.2):=rfl
theorem Fw{aH ts:aF}:cS aH ts []=([],aH,ts):=rfl
theorem Cl{aH ts:aF}{v:AV}{r:List AV}:cS aH ts (v::r)=((eM aH ts v).1::(cS (eM aH ts v).2.1 (eM aH ts v).2.2 r).1,(cS (eM aH ts v).2.1 (eM aH ts v).2.2 r).2):=rfl
theorem K5{aH ts:aF}{l:List PV}{τ:Nat}:eM aH ts (.own l τ)=if aH[τ]?=some l.length then(.own l ts.length,aH.set τ (l.length+1),ts++[l.length])else(.pv (.aq l),aH,ts):=rfl
theorem N5{aH ts:aF}{p:PV}:eM aH ts (.pv p)=(.pv p,aH,ts):=rfl
theorem Fx{aH ts:aF}{a b c:Nat}{d:Bool}:eM aH ts (.aP a b c d)=(.aP a b c d,aH,ts):=rfl
theorem Fy{aH ts:aF}{a b:Nat}:bM aH ts (.au a b)=(.au a b,aH,ts):=rfl
theorem Fz{aH ts:aF}{a b:Nat}:bM aH ts (.aV a b)=(.aV a b,aH,ts):=rfl
theorem FA{aH ts:aF}{a b c:Nat}{d:Bool}:bM aH ts (.aP a b c d)=(.aP a b c d,aH,ts):=rfl
theorem N6{aH ts:aF}{a:Nat}{c:List AV}:bM aH ts (.fn a c)=(.fn a c,aH,ts):=rfl
theorem FB{aH ts:aF}:bM aH ts .ia=(.ia,aH,ts):=rfl
theorem FC{s:Nat}{aH ts:aF}:bM aH ts (.jL s)=((.jL s),aH,ts):=rfl
theorem FD{s:List (PV×PV)}{aH ts:aF}:bM aH ts (.fH s)=((.fH s),aH,ts):=rfl
theorem Ru{env:List (Nat×AV)}{mem:List (Nat×List AV)}:norm ⟨env,mem,sh,aa⟩=
   { env:=(dx aa [] env).1,
     mem:=(fR (dx aa [] env).2.1 (dx aa [] env).2.2 mem).1,
     sh:=(bg (fR (dx aa [] env).2.1 (dx aa [] env).2.2 mem).2.1 (fR (dx aa [] env).2.1 (dx aa [] env).2.2 mem).2.2 sh).1,
     aa:=(bg (fR (dx aa [] env).2.1 (dx aa [] env).2.2 mem).2.1 (fR (dx aa [] env).2.1 (dx aa [] env).2.2 mem).2.2 sh).2.2}:=rfl
theorem Cm{live:List Nat}{env:List (Nat×AV)}{mem:List (Nat×List AV)}:restrict live ⟨env,mem,sh,aa⟩=⟨bJ live env live,bQ mem live,sh,aa⟩:=rfl
def N7(live:List Nat)(t:Nat)(rest:List (Nat×AV)):Option AV->List (Nat×AV)
 |some v=>if en live v=true then(t,v)::rest else rest
 |none=>rest
theorem FE{live:List Nat}{t:Nat}{rest:List (Nat×AV)}{v:AV}:N7 live t rest (some v)=if en live v=true then(t,v)::rest else rest:=rfl
theorem FG{live:List Nat}{t:Nat}{rest:List (Nat×AV)}:N7 live t rest none=rest:=rfl
theorem tR{live:List Nat}{env:List (Nat×AV)}:bJ live env []=[]:=rfl
def rN{live:List Nat}{env:List (Nat×AV)}{t:Nat}{r:List Nat}:bJ live env (t::r)=N7 live t (bJ live env r) (look env t):=by
 show (match look env t with|some v=>_|none=>_)=_;cases look env t<;>rfl
def N8(t:Nat)(rest:List (Nat×List AV)):Option (List AV)->List (Nat×List AV)
 |some v=>(t,v)::rest
 |none=>rest
theorem FH{t:Nat}{rest:List (Nat×List AV)}{v:List AV}:N8 t rest (some v)=(t,v)::rest:=rfl
theorem FI{t:Nat}{rest:List (Nat×List AV)}:N8 t rest none=rest:=rfl
theorem tS{mem:List (Nat×List AV)}:bQ mem []=[]:=rfl
def rO{mem:List (Nat×List AV)}{t:Nat}{r:List Nat}:bQ mem (t::r)=N8 t (bQ mem r) (look mem t):=by
 show (match look mem t with|some v=>_|none=>_)=_;cases look mem t<;>rfl
theorem FJ{live:List Nat}{d o:Nat}:en live (.au d o)=live.contains d:=rfl
theorem K6{live:List Nat}{l:List PV}{τ:Nat}:en live (.own l τ)=true:=rfl
theorem N9{live:List Nat}{p:PV}:en live (.pv p)=true:=rfl
theorem K7{live:List Nat}{l:List PV}:en live (.dr l)=true:=rfl
theorem FK:gv []=true:=rfl
theorem Cn{v:AV}{r:List AV}:gv (v::r)=(kK v && gv r):=rfl
theorem N_{p:PV}:kK (.pv p)=true:=rfl
theorem K8{l:List PV}:kK (.dr l)=true:=rfl
theorem FL{live:List Nat}{a b:Nat}:en live (.aV a b)=true:=rfl
theorem FM{live:List Nat}{a b c:Nat}{d:Bool}:en live (.aP a b c d)=true:=rfl
theorem N'{live:List Nat}{a:Nat}{c:List AV}:en live (.fn a c)=bI.eL c:=rfl
theorem FN{live:List Nat}:en live .ia=true:=rfl
theorem FO{s:Nat}{live:List Nat}:en live (.jL s)=true:=rfl
theorem look_nil{α:Type}{t:Nat}:look ([]:List (Nat×α)) t=none:=rfl
theorem K9{α:Type}{k t:Nat}{v:α}{r:List (Nat×α)}:look ((k,v)::r) t=if k=t then some v else look r t:=rfl
theorem Oa{α:Type}{t:Nat}{v:α}:dF ([]:List (Nat×α)) t v=[(t,v)]:=rfl
theorem K_{α:Type}{k t:Nat}{v u:α}{r:List (Nat×α)}:dF ((k,v)::r) t u=if k=t then(k,u)::r else(k,v)::dF r t u:=rfl
theorem La{env:List (Nat×AV)}{d:Nat}{v:AV}:gB env (some d) v=dF env d v:=rfl
theorem Lb{env:List (Nat×AV)}{v:AV}:gB env none v=env:=rfl
theorem Lc{mem:List (Nat×List AV)}{k:Nat}{cs:List AV}:fQ mem (some k) (some cs)=dF mem k cs:=rfl
theorem gg{mem:List (Nat×List AV)}{o:Option (List AV)}:fQ mem none o=mem:=rfl
theorem FP{mem:List (Nat×List AV)}{k:Nat}:fQ mem (some k) none=mem:=rfl
theorem zH{i:Nat}:cf i []=[]:=rfl
theorem xa{i:Nat}{v:AV}{r:List AV}:cf i (v::r)=(i,v)::cf (i+1) r:=rfl
theorem FQ{cs:List AV}:bq (.agg cs)=cs:=rfl
theorem Co{cs:List PV}:bq (.pv (.agg cs))=cs.map .pv:=rfl
theorem Cp{b:Bool}:bq (.pv (.bool b))=[.pv (.bool b)]:=rfl
theorem FR{k:IntKind}{n:Int}:bq (.pv (.int k n))=[.pv (.int k n)]:=rfl
theorem FT{s:List UInt8}:bq (.pv (.str s))=[.pv (.str s)]:=rfl
theorem FU{l:List PV}:bq (.pv (.aq l))=[.pv (.aq l)]:=rfl
theorem FV{l:List PV}:bq (.dr l)=[.dr l]:=rfl
theorem FW{l:List PV}{τ:Nat}:bq (.own l τ)=[.own l τ]:=rfl
theorem Cq{a b c:Nat}{d:Bool}:bq (.aP a b c d)=[.aP a b c d]:=rfl
theorem FX{cs:List PV}:aZ (.agg cs)=cs:=rfl
theorem Cr{b:Bool}:aZ (.bool b)=[.bool b]:=rfl
theorem FY{k:IntKind}{n:Int}:aZ (.int k n)=[.int k n]:=rfl
theorem FZ{s:List UInt8}:aZ (.str s)=[.str s]:=rfl
theorem F3{l:List PV}:aZ (.aq l)=[.aq l]:=rfl
theorem F4{b:Bool}:aY (.pv (.bool b))=true:=rfl
theorem Ld{k:IntKind}{n:Int}:aY (.pv (.int k n))=true:=rfl
theorem Le{s:List UInt8}:aY (.pv (.str s))=true:=rfl
theorem Lf{l:List PV}:aY (.pv (.aq l))=true:=rfl
theorem Lg{l:List PV}:aY (.dr l)=true:=rfl
theorem Lh{l:List PV}{τ:Nat}:aY (.own l τ)=true:=rfl
theorem F5{a b c:Nat}{d:Bool}:aY (.aP a b c d)=true:=rfl
theorem Ob{v:AV}:da v=aY v:=rfl
theorem F6{a b:Nat}:ca (.aV a b)=true:=rfl
theorem Li:ca.jq []=true:=rfl
theorem F7{v:AV}{r:List AV}:ca.jq (v::r)=(ca v && ca.jq r):=rfl
theorem Lj{l:List PV}{τ:Nat}:bU (.own l τ)=true:=rfl
theorem Oc{p:PV}:bU (.pv p)=true:=rfl
theorem Lk{l:List PV}:bU (.dr l)=true:=rfl
theorem F8{a b:Nat}:bU (.aV a b)=true:=rfl
theorem F9{a b c:Nat}{d:Bool}:bU (.aP a b c d)=true:=rfl
theorem F_:bU .ia=true:=rfl
theorem F'{s:Nat}:bU (.jL s)=true:=rfl
theorem Od{a:Nat}{c:List AV}:bU (.fn a c)=ca.jq c:=rfl
theorem Ll{c:List AV}:bU (.agg c)=fM c:=rfl
theorem Ga:fM []=true:=rfl
theorem Cs{v:AV}{r:List AV}:fM (v::r)=(lK v && fM r):=rfl
theorem Lm{l:List PV}{τ:Nat}:lK (.own l τ)=true:=rfl
theorem Oe{p:PV}:lK (.pv p)=true:=rfl
theorem Ln{l:List PV}:lK (.dr l)=true:=rfl
theorem Gb{a b c:Nat}{d:Bool}:lK (.aP a b c d)=true:=rfl
theorem Lo:bI.eL []=true:=rfl
theorem Gc{v:AV}{r:List AV}:bI.eL (v::r)=(bI v && bI.eL r):=rfl
theorem Of{p:PV}:bI (.pv p)=true:=rfl
theorem Lp{l:List PV}:bI (.dr l)=true:=rfl
theorem Lq{l:List PV}{τ:Nat}:bI (.own l τ)=false:=rfl
theorem Ge{a b:Nat}:bI (.aV a b)=true:=rfl
theorem Gf{a b c:Nat}{d:Bool}:bI (.aP a b c d)=true:=rfl
theorem Lr{n:Nat}{p:PV}:aJ n (.pv p)=true:=rfl
theorem Gg{n:Nat}{l:List PV}:aJ n (.dr l)=true:=rfl
theorem Gi{n:Nat}{l:List PV}{τ:Nat}:aJ n (.own l τ)=true:=rfl
theorem Ct{n:Nat}:aJ n .ia=true:=rfl
theorem Cu{n a b:Nat}:aJ n (.aV a b)=decide (a<n):=rfl
theorem Cv{n a b c:Nat}{d:Bool}:aJ n (.aP a b c d)=decide (a<n):=rfl
theorem Ls{n a:Nat}{c:List AV}:aJ n (.fn a c)=aJ.cI n c:=rfl
theorem Gj{n:Nat}{c:List AV}:aJ n (.agg c)=aJ.cI n c:=rfl
theorem Cx{n:Nat}:aJ.cI n []=true:=rfl
theorem zI{n:Nat}{v:AV}{r:List AV}:aJ.cI n (v::r)=(aJ n v && aJ.cI n r):=rfl
theorem Gk{n τ:Nat}{l:List PV}:cY n (.own l τ)=.own l (τ+n):=rfl
theorem xS{n:Nat}{p:PV}:cY n (.pv p)=.pv p:=rfl
def zJ(n:Nat)(p:List AV):Bool->AV
 |true=>.agg p
 |false=>.agg (p.map (jg n))
def Gl{n:Nat}{p:List AV}:cY n (.agg p)=zJ n p (bI.eL p):=by
 simp only[cY];cases bI.eL p<;>rfl
theorem zL{n:Nat}{p:List AV}:zJ n p true=.agg p:=rfl
theorem xd{n:Nat}{p:List AV}:zJ n p false=.agg (p.map (jg n)):=rfl
theorem Gm{n τ:Nat}{l:List PV}:jg n (.own l τ)=.own l (τ+n):=rfl
theorem Lt{n:Nat}{p:PV}:jg n (.pv p)=.pv p:=rfl
theorem Cy{n a b c:Nat}{d:Bool}:jg n (.aP a b c d)=.aP a b c d:=rfl
theorem Cz{n a b:Nat}:cY n (.aV a b)=.aV a b:=rfl
theorem Lu{n a:Nat}{b:List AV}:cY n (.fn a b)=.fn a b:=rfl
theorem CA{n a b c:Nat}{d:Bool}:cY n (.aP a b c d)=.aP a b c d:=rfl
theorem CB{n:Nat}:cY n .ia=.ia:=rfl
theorem CC{s:List (PV×PV)}{n:Nat}:cY n (.fH s)=(.fH s):=rfl
theorem Gn{n:Nat}:dU n []=[]:=rfl
theorem s_{n:Nat}{r:Sh}:dU n (none::r)=none::dU n r:=rfl
theorem tc{n:Nat}{cs:List AV}{r:Sh}:dU n (some cs::r)=some (cs.map (cY n))::dU n r:=rfl
theorem xe{b:Bool}:bG.zeroCell (.bool b)=.pv (.bool b):=rfl
theorem zM{k:IntKind}{n:Int}:bG.zeroCell (.int k n)=.pv (.int k n):=rfl
theorem zN{s:List UInt8}:bG.zeroCell (.str s)=.pv (.str s):=rfl
theorem zQ:bG.zeroCell (.aq [])=.dr []:=rfl
theorem CD{l:List PV}{τ:Nat}:cJ (.own l τ)=[.own l τ]:=rfl
theorem Gp{p:PV}:cJ (.pv p)=bq (.pv p):=rfl
theorem zR{a b c:Nat}{d:Bool}:cJ (.aP a b c d)=[.aP a b c d]:=rfl
def Ia(cs:List AV):Option (List PV)->List AV
 |some ps=>ps.map .pv
 |none=>cs
def CE{cs:List AV}:cJ (.agg cs)=Ia cs (cz [] cs):=by
 show (match gr [] (.agg cs)with|some p=>bq (.pv p)|none=>bq (.agg cs))=_;have h:gr [] (.agg cs)=(cz [] cs).map .agg:=rfl;unfold Ia;rw[h];cases cz [] cs<;>rfl
theorem Gq{cs:List AV}{ps:List PV}:Ia cs (some ps)=ps.map .pv:=rfl
theorem vJ{cs:List AV}:Ia cs none=cs:=rfl
theorem Ym{o:Q2}:AK.key (.v o)=none:=rfl
theorem Lv{k o s:Nat}{a:Bool}:AK.key (.cr k o s a)=some k:=rfl
theorem Gs{k o s:Nat}:AK.key (.bH k o s)=some k:=rfl
theorem Lx{k:Nat}{z:List PV}:AK.key (.alloc k z)=some k:=rfl
theorem Rv{k s:Nat}:AK.key (.box k s)=some k:=rfl
theorem Ly{s:Nat}{a:Bool}:AK.key (.eg s a)=none:=rfl
theorem Gt{s:Nat}:AK.key (.fK s)=none:=rfl
theorem Og{s:Nat}:AK.key (.p7 s)=none:=rfl
theorem Gu{s:List PV}:AK.key (.jM s)=none:=rfl
theorem Lz{s b:Nat}{a:Bool}{z:List PV}:AK.key (.jN s b a z)=none:=rfl
theorem CF{s b:Nat}{ag:Bool}:AK.key (.dk s b ag)=none:=rfl
theorem Gv{s b:Nat}:AK.key (.append s b)=none:=rfl
theorem LA{g:Nat}:AK.key (.aE g)=none:=rfl
theorem Gw{g:Nat}:AK.key (.d8 g)=none:=rfl
theorem LB{g:Nat}{o:List Nat}:AK.key (.bB g o)=none:=rfl
theorem LC{sz bytes:Nat}:(AK.clone sz bytes).key=none:=rfl
theorem LD:AK.key .gk=none:=rfl
theorem bind_none{f:Nat->Option (List AV)}:(none:Option Nat).bind f=none:=rfl
theorem bind_some{f:Nat->Option (List AV)}{n:Nat}:(some n).bind f=f n:=rfl
theorem Gx{sz off:Nat}{cs:List AV}:cm true sz cs off=if off+sz<=cs.length then some (.agg ((cs.drop off).take sz))else none:=rfl
theorem CG{off:Nat}{cs:List AV}:cm false 1 cs off=if off+1<=cs.length then cs[off]? else none:=rfl
theorem CH{sz:Nat}{cs:List PV}:cR true sz cs=if sz<=cs.length then some (.pv (.agg (cs.take sz)))else none:=rfl
def zT{c:PV}{cs:List PV}:cR false 1 (c::cs)=some (.pv c):=by simp[cR]
theorem aU{cs vs:List AV}{off:Nat}:aS cs off vs=cs.take off++vs++cs.drop (off+vs.length):=rfl
theorem VU{x:AV}:bG .mv [x]=some x:=rfl
def Oh{c:Bool}{a b:AV}:bG .pick [.pv (.bool c),a,b]=if c=true then some a else some b:=by cases c<;>rfl
theorem Rw{i:Nat}{vs:List AV}:bG (.ext i) [.rf vs]=vs[i]?:=rfl
theorem Gy{off sz:Nat}{ag:Bool}{cs:List PV}:bG (.field off sz ag) [.pv (.agg cs)]=cR ag sz (cs.drop off):=rfl
theorem Gz{off d o:Nat}:bG (.iA off) [.au d o]=some (.au d (o+off)):=rfl
theorem GA{off d o:Nat}:bG (.iA off) [.aV d o]=some (.aV d (o+off)):=rfl
theorem GB{off:Nat}{cs:List PV}:bG (.iA off) [.h_ cs]=some (.h_ (cs.drop off)):=rfl
def zU(sz:Nat):Option PV->Option AV
 |some el=>if(aZ el).length=sz then some (.h_ (aZ el))else none
 |none=>none
theorem CI{sz:Nat}{el:PV}:zU sz (some el)=if(aZ el).length=sz then some (.h_ (aZ el))else none:=rfl
def LF{sz:Nat}{l:List PV}{k:IntKind}{i:Int}:bG (.eK sz) [.pv (.aq l),.pv (.int k i)]=if i<0 then none else zU sz l[i.toNat]?:=by
 show (if i<0 then none else _)=_;split
 .rfl
 .show(match l[i.toNat]? with|some el=>_|none=>_)=_;cases l[i.toNat]?<;>rfl
def GC{sz:Nat}{l:List PV}{k:IntKind}{i:Int}:bG (.eK sz) [.dr l,.pv (.int k i)]=if i<0 then none else zU sz l[i.toNat]?:=by
 show (if i<0 then none else _)=_;split
 .rfl
 .show(match l[i.toNat]? with|some el=>_|none=>_)=_;cases l[i.toNat]?<;>rfl
def GD{sz τ:Nat}{l:List PV}{k:IntKind}{i:Int}:bG (.eK sz) [.own l τ,.pv (.int k i)]=if i<0 then none else zU sz l[i.toNat]?:=by
 show (if i<0 then none else _)=_;split
 .rfl
 .show(match l[i.toNat]? with|some el=>_|none=>_)=_;cases l[i.toNat]?<;>rfl
theorem GF{sz b a n:Nat}{ag:Bool}{k:IntKind}{i:Int}:bG (.eK sz) [.aP b a n ag,.pv (.int k i)]=if i<0 then none else if sz=a/\i.toNat<n then some (.aV b (i.toNat*sz))else none:=rfl
def T4:Option UInt8->Option AV
 |some b=>some (.pv (.int .u8 b.toNat))
 |none=>none
theorem GG{b:UInt8}:T4 (some b)=some (.pv (.int .u8 b.toNat)):=rfl
def LG{s:List UInt8}{k:IntKind}{i:Int}:bG .index [.pv (.str s),.pv (.int k i)]=if i<0 then none else T4 s[i.toNat]?:=by
 show (if i<0 then none else _)=_;cases s[i.toNat]?<;>rfl
def Yn:Option (List AV)->Option AV
 |some cs=>some (.agg cs)
 |none=>none
theorem LH{cs:List AV}:Yn (some cs)=some (.agg cs):=rfl
def LI{zero:List PV}{places:List (Nat×Nat)}:bG (.build zero places) vals=Yn (mO (zero.map bG.zeroCell) places vals):=by
 show (mO _ _ _).map _=_;cases mO (zero.map bG.zeroCell) places vals<;>rfl
theorem LJ{cs:List AV}:mO cs [] []=some cs:=rfl
theorem GH{cs:List AV}{off sz:Nat}{ps:List (Nat×Nat)}{v:AV}{vs:List AV}:mO cs ((off,sz)::ps) (v::vs)=
   if (bq v).length=sz/\off+sz<=cs.length/\(bq v).all aY=true then mO (aS cs off (bq v)) ps vs else none:=rfl
def Yo(sz:Nat):Option (List PV)->Option AV
 |some els=>if els.all (fun e=>(aZ e).length == sz)then some (.dr els)else none
 |none=>none
theorem LK{sz:Nat}{els:List PV}:Yo sz (some els)=if els.all (fun e=>(aZ e).length == sz)then some (.dr els)else none:=rfl
def GI{sz:Nat}:bG (.ez sz) vals=Yo sz (dG [] vals):=by
 show (dG [] vals).bind _=_;cases dG [] vals<;>rfl
theorem LL{sz:Nat}{ag:Bool}{cs:List PV}:bG (.gj sz ag) [.h_ cs]=cR ag sz cs:=rfl
theorem Rx{l:List PV}:bG .len [.pv (.aq l)]=some (.pv (.int .i64 l.length)):=rfl
theorem Oi{l:List PV}:bG .len [.dr l]=some (.pv (.int .i64 l.length)):=rfl
theorem Oj{l:List PV}{τ:Nat}:bG .len [.own l τ]=some (.pv (.int .i64 l.length)):=rfl
theorem Ol{a b n:Nat}{d:Bool}:bG .len [.aP a b n d]=some (.pv (.int .i64 n)):=rfl
theorem Om{s:List UInt8}:bG .Ee [.pv (.str s)]=some (.pv (.int .i64 s.length)):=rfl
theorem On{a b:Nat}:bG .rj [.aV a b]=some (.aV a b):=rfl
theorem VV{k k':IntKind}{x y:Int}:bG .mn [.pv (.int k x),.pv (.int k' y)]=if k=k' then some (.pv (.int k (if y<x then y else x)))else none:=rfl
theorem VW{k k':IntKind}{x y:Int}:bG .mx [.pv (.int k x),.pv (.int k' y)]=if k=k' then some (.pv (.int k (if y > x then y else x)))else none:=rfl
def Oo{g:Nat}:bG (.Jl g) vals=some (.fn g vals):=by cases vals<;>rfl
theorem Oq{k k':IntKind}{n:Int}:bG (.conv k) [.pv (.int k' n)]=some (.pv (.int k (k.wrap n))):=rfl
theorem Ry{b:Bool}:bG (.un .not) [.pv (.bool b)]=some (.pv (.bool !b)):=rfl
theorem Rz{k:IntKind}{n:Int}:bG (.un .neg) [.pv (.int k n)]=some (.pv (.int k (k.wrap (0-n)))):=rfl
theorem RA{a b:Bool}:bG (.beq false) [.pv (.bool a),.pv (.bool b)]=some (.pv (.bool (a == b))):=rfl
theorem RB{a b:Bool}:bG (.beq true) [.pv (.bool a),.pv (.bool b)]=some (.pv (.bool !(a == b))):=rfl
def RC{k:IntKind}{a b:Int}:bG (.bin .add) [.pv (.int k a),.pv (.int k b)]=some (.pv (.int k (k.wrap (a+b)))):=by simp[bG,cP]
def RD{k:IntKind}{a b:Int}:bG (.bin .sub) [.pv (.int k a),.pv (.int k b)]=some (.pv (.int k (k.wrap (a-b)))):=by simp[bG,cP]
def RE{k:IntKind}{a b:Int}:bG (.bin .quo) [.pv (.int k a),.pv (.int k b)]=if b=0 then none else some (.pv (.int k (k.wrap (a.tdiv b)))):=by simp[bG,cP]
def RF{k:IntKind}{a b:Int}:bG (.bin .rem) [.pv (.int k a),.pv (.int k b)]=if b=0 then none else some (.pv (.int k (a.tmod b))):=by simp[bG,cP]
def RG{k:IntKind}{a b:Int}:bG (.bin .eql) [.pv (.int k a),.pv (.int k b)]=some (.pv (.bool (a == b))):=by simp[bG,cP]
def RH{k:IntKind}{a b:Int}:bG (.bin .neq) [.pv (.int k a),.pv (.int k b)]=some (.pv (.bool (a != b))):=by simp[bG,cP]
def RI{k:IntKind}{a b:Int}:bG (.bin .lss) [.pv (.int k a),.pv (.int k b)]=some (.pv (.bool (decide (a<b)))):=by simp[bG,cP]
def RJ{k:IntKind}{a b:Int}:bG (.bin .leq) [.pv (.int k a),.pv (.int k b)]=some (.pv (.bool (decide (a<=b)))):=by simp[bG,cP]
def RK{k:IntKind}{a b:Int}:bG (.bin .gtr) [.pv (.int k a),.pv (.int k b)]=some (.pv (.bool (decide (a > b)))):=by simp[bG,cP]
def RL{k:IntKind}{a b:Int}:bG (.bin .geq) [.pv (.int k a),.pv (.int k b)]=some (.pv (.bool (decide (a>=b)))):=by simp[bG,cP]
def RM{k:IntKind}{a b:Int}:bG (.bin .and) [.pv (.int k a),.pv (.int k b)]=some (.pv (.int k (k.wrap (BitVec.ofInt k.bits a &&& BitVec.ofInt k.bits b).toNat))):=by simp[bG,cP]
def RN{k k':IntKind}{a b:Int}:bG (.bin .shr) [.pv (.int k a),.pv (.int k' b)]=if b<0 then none else some (.pv (.int k (a.fdiv (2 ^ (min b.toNat k.bits))))):=by simp[bG,cP]
theorem bu{a b:List UInt8}:bG (.bin .add) [.pv (.str a),.pv (.str b)]=if a.length+b.length<=9223372036854775807 then some (.pv (.str (a++b)))else none:=rfl
theorem Ot{a b:List UInt8}:bG (.bin .eql) [.pv (.str a),.pv (.str b)]=some (.pv (.bool (a == b))):=rfl
theorem Ou{a b:List UInt8}:bG (.bin .neq) [.pv (.str a),.pv (.str b)]=some (.pv (.bool (!(a == b)))):=rfl
theorem Ov{a b:List UInt8}:bG (.bin .lss) [.pv (.str a),.pv (.str b)]=some (.pv (.bool (cP.eJ a b))):=rfl
theorem Ow{a b:List UInt8}:bG (.bin .gtr) [.pv (.str a),.pv (.str b)]=some (.pv (.bool (!(cP.eJ a b || a == b)))):=rfl
theorem LM{sz:Nat}{lo hi mx:Bool}{x:AV}{rest:List AV}:bG (.slice false sz lo hi mx) (x::rest)=cx false sz lo hi mx (x::rest):=rfl
theorem GJ{sz:Nat}{lo hi mx:Bool}{x:AV}{rest:List AV}:bG (.slice true sz lo hi mx) (x::rest)=cx true sz lo hi mx (x::rest):=rfl
def pD(aW ks:Bool)(a sh:Sh)(aa:aF):Option (List AV)->Option (List AV×Sh×aF)
 |some vs=>if(cE aW ks sh vs).all bU=true then
  some ((de aa (cE aW ks sh vs) (if(cE aW ks sh vs).all (aJ a.length)=true then(fD aW ks sh vs).take a.length else fD aW ks sh vs)).1,
    (de aa (cE aW ks sh vs) (if(cE aW ks sh vs).all (aJ a.length)=true then(fD aW ks sh vs).take a.length else fD aW ks sh vs)).2.1,
    (de aa (cE aW ks sh vs) (if(cE aW ks sh vs).all (aJ a.length)=true then(fD aW ks sh vs).take a.length else fD aW ks sh vs)).2.2.2)else none
 |none=>none
theorem CJ{aW ks:Bool}{a:Sh}{vs:List AV}:pD aW ks a sh aa (some vs)=if(cE aW ks sh vs).all bU=true then
 some ((de aa (cE aW ks sh vs) (if(cE aW ks sh vs).all (aJ a.length)=true then(fD aW ks sh vs).take a.length else fD aW ks sh vs)).1,
   (de aa (cE aW ks sh vs) (if(cE aW ks sh vs).all (aJ a.length)=true then(fD aW ks sh vs).take a.length else fD aW ks sh vs)).2.1,
   (de aa (cE aW ks sh vs) (if(cE aW ks sh vs).all (aJ a.length)=true then(fD aW ks sh vs).take a.length else fD aW ks sh vs)).2.2.2)else none:=rfl
def fin(aW ks:Bool)(rs:List rm)(a:Sh):Option (bh×St)->Option (List AV×Sh×aF)
 |some (.ret,st)=>pD aW ks a st.sh st.aa (eN st rs)
 |some (.normal,st)=>pD aW ks a st.sh st.aa (eN st rs)
 |_=>none
theorem RO{aW ks:Bool}{rs:List rm}{a:Sh}{st:St}:fin aW ks rs a (some (.ret,st))=pD aW ks a st.sh st.aa (eN st rs):=rfl
theorem GK{aW ks:Bool}{rs:List rm}{a:Sh}{st:St}:fin aW ks rs a (some (.normal,st))=pD aW ks a st.sh st.aa (eN st rs):=rfl
def RP{aW ks:Bool}{rs:List rm}{a:Sh}{c:Prop}[Decidable c]{x y:Option (bh×St)}:fin aW ks rs a (if c then x else y)=if c then fin aW ks rs a x else fin aW ks rs a y:=by split<;>rfl
theorem xT{aW:Bool}{af:aA}{a:Sh}{r:Option (bh×St)}:finish aW af a r=fin aW af.ks af.results a r:=by
 cases r with
 |none=>rfl
 |some q=>
  obtain⟨e,st⟩:=q;cases e with
  |ret=>simp only[finish,fin];cases eN st af.results<;>simp[pD]
  |normal=>simp only[finish,fin];cases eN st af.results<;>simp[pD]
  |exit id=>simp[finish,fin]
theorem GL{st:St}:eN st []=some []:=rfl
def CL{st:St}{r:rm}{rs:List rm}:eN st (r::rs)=qy (sF st r) (eN st rs):=by
 simp only[eN];cases sF st r<;>cases eN st rs<;>rfl
theorem RQ{st:St}{n:Nat}:sF st (.t n)=look st.env n:=rfl
def ot(key sz:Nat)(ag:Bool)(mem:List (Nat×List AV))(sh:Sh):Option AV->Option AV
 |some (.au d 0)=>zV key d sz ag (look mem key)
 |some (.aV s 0)=>vB ag sz 0 sh[s]?
 |_=>none
where zV (key d sz:Nat) (ag:Bool):Option (List AV)->Option AV
 |some cs=>if d=key then cm ag sz cs 0 else none
 |none=>none
def RR{st:St}{key sz:Nat}{ag:Bool}:sF st (.c key sz ag)=ot key sz ag st.mem st.sh (look st.env key):=by
 simp only[sF];unfold ot;split
 .rename_i h;rw[h];rfl
 .rename_i h;rw[h];rfl
 .rename_i h1 h2;split
  .rename_i d e;exact absurd e (h1 d)
  .rename_i s e;exact absurd e (h2 s)
  .rfl
theorem zW{key sz d:Nat}{ag:Bool}{mem:List (Nat×List AV)}:ot key sz ag mem sh (some (.au d 0))=ot.zV key d sz ag (look mem key):=rfl
theorem zX{key sz d:Nat}{ag:Bool}{cs:List AV}:ot.zV key d sz ag (some cs)=if d=key then cm ag sz cs 0 else none:=rfl
theorem CM{key sz s:Nat}{ag:Bool}{mem:List (Nat×List AV)}:ot key sz ag mem sh (some (.aV s 0))=vB ag sz 0 sh[s]?:=rfl
theorem zY{vs:List AV}{ks:Bool}:cE false ks sh vs=vs.map (uG sh):=rfl
theorem CN{vs:List AV}:cE true false sh vs=vs.map (uH sh):=rfl
theorem LN{vs:List AV}:cE true true sh vs=vs:=rfl
theorem CO{vs:List AV}{ks:Bool}:fD false ks sh vs=cQ sh vs:=rfl
theorem GM{vs:List AV}:fD true false sh vs=cQ sh vs:=rfl
theorem Ox{vs:List AV}:fD true true sh vs=sh:=rfl
def VX(v:AV):Option PV->AV
 |some p=>.pv p
 |none=>v
theorem LO{v:AV}{p:PV}:VX v (some p)=.pv p:=rfl
theorem Oy{v:AV}:uG sh v=VX v (gr sh v):=rfl
theorem Oz{l:List PV}:uH sh (.dr l)=.dr l:=rfl
theorem OA{l:List PV}{τ:Nat}:uH sh (.own l τ)=.own l τ:=rfl
theorem OB{cs:List AV}:uH sh (.agg cs)=.agg (cs.map (tM sh)):=rfl
theorem RS{p:PV}:uH sh (.pv p)=.pv p:=rfl
theorem LP{a b:Nat}:uH sh (.aV a b)=.aV a b:=rfl
theorem RU{a:Nat}{b:List AV}:uH sh (.fn a b)=.fn a b:=rfl
theorem LQ:uH sh .ia=.ia:=rfl
theorem OC{l:List PV}:tM sh (.dr l)=.dr l:=rfl
theorem OD{l:List PV}{τ:Nat}:tM sh (.own l τ)=.pv (.aq l):=rfl
theorem LR{b:Bool}:tM sh (.pv (.bool b))=.pv (.bool b):=rfl
theorem OE{k:IntKind}{n:Int}:tM sh (.pv (.int k n))=.pv (.int k n):=rfl
theorem OF{s:List UInt8}:tM sh (.pv (.str s))=.pv (.str s):=rfl
theorem OG{l:List PV}:tM sh (.pv (.aq l))=.pv (.aq l):=rfl
theorem LS{a b c:Nat}{d:Bool}:tM sh (.aP a b c d)=VX (.aP a b c d) (gr sh (.aP a b c d)):=rfl
theorem GN{vs:List AV}:cQ sh vs=kill sh (vs.flatMap eA):=rfl
theorem OH:kill sh []=sh:=rfl
theorem LU{b:Nat}{l:List Nat}:kill sh (b::l)=kill (sh.set b none) l:=rfl
theorem LV{a b c:Nat}{d:Bool}:eA (.aP a b c d)=[a]:=rfl
theorem ud{p:PV}:eA (.pv p)=[]:=rfl
theorem OI{l:List PV}{τ:Nat}:eA (.own l τ)=[]:=rfl
theorem OJ{l:List PV}:eA (.dr l)=[]:=rfl
theorem LW{a b:Nat}:eA (.aV a b)=[]:=rfl
theorem RV{a:Nat}{b:List AV}:eA (.fn a b)=[]:=rfl
theorem LX:eA .ia=[]:=rfl
def xU:AV->List Nat
 | .aP b _ _ _=>[b]
 |_=>[]
def vK{cs:List AV}:eA (.agg cs)=cs.flatMap xU:=by
 show cs.flatMap _=cs.flatMap xU;congr 1
theorem GO{a b c:Nat}{d:Bool}:xU (.aP a b c d)=[a]:=rfl
theorem OK{p:PV}:xU (.pv p)=[]:=rfl
theorem LY{l:List PV}{τ:Nat}:xU (.own l τ)=[]:=rfl
theorem LZ{l:List PV}:xU (.dr l)=[]:=rfl
theorem GP:gC []=some []:=rfl
def CP{p:PV}{r:List AV}:gC (.pv p::r)=qy (some p) (gC r):=by
 simp only[gC];cases gC r<;>rfl
def mz:Option (List AV×Sh×aF)->Option (List PV)
 |some (rs,_,_)=>gC rs
 |none=>none
theorem zZ{rs:List AV}{t:aF}:mz (some (rs,sh,t))=gC rs:=rfl
def CQ{c:Prop}[Decidable c]{x y:Option (List AV×Sh×aF)}:mz (if c then x else y)=if c then mz x else mz y:=by split<;>rfl
def bD{g:Nat}{af:aA}{x:List PV}(a:AP g=some af)(h1:x.length=af.nparams)(h2:af.nparams<=af.ntmps)(hp:af.p8=none:=by rfl):
   (az AP).p g x=mz (fin false af.ks af.results [] (cl AP af.body ⟨cf 0 (x.map .pv),[],[],[]⟩)):=by
 rw[TZ a hp h1 (by omega)];unfold oU mz;rw[xT];cases fin false af.ks af.results [] (cl AP af.body ⟨cf 0 (x.map .pv),[],[],[]⟩)<;>rfl
def gV{g:Nat}{af:aA}{x:List AV}{ts:aF}(a:AP g=some af)(h2:x.length<=af.ntmps):
   (az AP).i g x sh ts=fin true af.ks af.results sh (cl AP af.body ⟨cf 0 x,[],sh,ts⟩):=by
 rw[T3 a h2,<-xT];rfl
def aw{g:Nat}(af:aA){x:List PV}(a:AP g=some af:=by rfl)(h1:x.length=af.nparams:=by rfl)(h2:af.nparams<=af.ntmps:=by decide)(hp:af.p8=none:=by rfl):
   (az AP).p g x=mz (fin false af.ks af.results [] (cl AP af.body ⟨cf 0 (x.map .pv),[],[],[]⟩)):=bD a h1 h2 hp
def aM{g:Nat}(af:aA){x:List AV}{ts:aF}(a:AP g=some af:=by rfl)(h2:Nat.ble x.length af.ntmps=true:=by rfl):
   (az AP).i g x sh ts=fin true af.ks af.results sh (cl AP af.body ⟨cf 0 x,[],sh,ts⟩):=gV a (Nat.le_of_ble_eq_true h2)
end
attribute [simp] J9 J_ J' Nw Ka Kb Nx Kc Kd Ke Kf Kg B5 Kh B6 EP VC VD jV JZ EO Ri J0 Ns J1 Nt J4 J3 J5 J6 Rj J7 Nu J8 Nv VE JN BW JO BX EH zo JP EI JQ zq JR EJ JS JT EK zt BY EL Nl Rg Yc Rh Nn Np JW JX B2 EM EN JY VI iI iY jU ni B3 s9 B4 qx iZ oe kP mh Km Nz kQ w_ Ko Kq NL KF KH Fe B_ KI pB Ff B' KJ NN NO Fg eZ Fi Cb NU KN KO Fj NV Fk KP Cd Fm Fo Ce Rn Ro NW rM Fp Cf KQ Fq Rp VT Rq Rr KR Rs Fs Cg Ci NX zF NY KU NZ N0 N1 N2 N3 N4 KX vF KY vG vH KZ Ft K0 Fu K1 K3 Cj K4 Fy Fz FA N6 FB Ru Cm FE FG tR rN FH FI tS rO FJ K6 N9 K7 FL FM N' FN look_nil K9 Oa K_ La Lb Lc gg FP zH xa FQ Co Cp FR FT FU FV FW Cq FX Cr FY FZ F3 F4 Ld Le Lf Lg Lh F5 Ob F6 Li F7 Lj Oc Lk F8 F9 F_ Od Ll Lo Gc Of Lp Lq Ge Gf Lr Gg Gi Ct Cu Cv Ls Gj Cx zI Gk xS Gl Cz Lu CA CB Gn s_ tc xe zM zN zQ CD Gp zR CE Gq vJ Ym Lv Gs Lx Rv Ly Gt Og Gu Lz Gv LA Gw LB LD Fh NP Ca VS NQ KK NR KL b2sO_some bind_none bind_some Gx CG CH zT aU VU Oh Rw Gy Gz GA GB CI LF GC GD GF GG LG LH LI LJ GH LK GI LL Rx Oi Oj Ol Om On VV VW Oo Oq Ry Rz RA RB RC RD RE RF RG RH RI RJ RK RL RM RN bu Ot Ou Ov Ow LM GJ CJ RO GK RP GL CL RQ RR zW zX CM zY CN LO Oy Oz OA OB RS LP RU LQ OC OD LR OE OF OG LS GN OH LU LV ud OI OJ LW RV LX vK GO OK LY LZ GP CP zZ CQ Fl FC FD FO F' CC Rk Ny Ki pj zy w8 ER Kj Kk LC KM Ck zG Fw Cl K5 N5 Fx FK Cn N_ K8 Ga Cs Lm Oe Ln Gb zL xd Gm Lt Cy LN CO GM Ox Ks NA ES mj B7 NC ND Kt Rl NI Kx Ky Kz KA EU Kv NH Ku EV EW VB CF KB B8 zz zB Fa B9 EX mi EY EZ KD KE E_ Fb VH Rd Re VF Nj List.getElem?_cons_zero
def ae{n:Int}(h1:-9223372036854775808<=n)(h2:n<=9223372036854775807):IntKind.i64.wrap n=n:=by
 simp[IntKind.wrap,IntKind.bits,IntKind.signed];omega
end Go.Ab.Ev
namespace Go.Ab
open Ev
structure aaB(P:Program)(ns:Names)(f sz:Nat)(ag:Bool) where
 fn:Func
 A:lG
 o0:Array Oper
 o1:Array Oper
 o2:Array Oper
 m0:Oper
 as3:List Oper
 y:Oper
 nt:Oper
 r0:Nat
 r1:Nat
 r2:Nat
 r3:Nat
 b0:Nat
 b1:Nat
 types:Array TypeId
 tb:TypeId
 hf:P.funcs[f]?=some fn
 qz:fn.body=some (.seq (.region r0 o0 false) (.block b0 (.loop (.seq (.seq (.region r1 o1 false) (.cond (.tmp 8) .skip (.exit b0)))
   (.seq (.block b1 (.seq (.region r3 (m0::as3++[y,nt]).toArray false) (.cond (.tmp 18) .ret .skip))) (.region r2 o2 false))))))
 jk:fn.results=#[]
 hN:fn.ntmps=19
 c0:cg (cA P ns A 19 o0) o0.toList=some [⟨some 4,none,[.t 1],.v (.gj 1 false)⟩,⟨some 5,none,[.t 4],.v .len⟩,⟨some 6,none,[.t 5,.c (.pv (.int .i64 1))],.v (.bin .sub)⟩,⟨some 3,none,[.t 6],.v .mv⟩]
 c1:cg (cA P ns A 19 o1) o1.toList=some [⟨some 7,none,[.t 3],.v .mv⟩,⟨some 8,none,[.t 7,.c (.pv (.int .i64 0))],.v (.bin .geq)⟩]
 c2:cg (cA P ns A 19 o2) o2.toList=some [⟨some 9,none,[.t 3],.v .mv⟩,⟨some 10,none,[.t 9,.c (.pv (.int .i64 1))],.v (.bin .sub)⟩,⟨some 3,none,[.t 10],.v .mv⟩]
 h0:m0.op=.move (.tmp 0)/\m0.dst=some 11/\m0.guard=none
 c3:cg (cA P ns A 19 (m0::as3++[y,nt]).toArray) as3=some [⟨some 12,none,[.t 3],.v .mv⟩,⟨some 13,none,[.t 1],.v (.gj 1 false)⟩,⟨some 14,none,[.t 3],.v .mv⟩,⟨some 15,none,[.t 13,.t 14],.v (.eK sz)⟩,⟨some 16,none,[.t 15],.v (.gj sz ag)⟩]
 hy:y.op=.call {callee:=.value (.tmp 11),args:=#[.tmp 12,.tmp 16],argTypes:=types}/\y.dst=some 17/\y.guard=none
 hn:nt.op=.unOp .not tb (.tmp 17)/\nt.dst=some 18/\nt.guard=none
section
variable {P:Program} {ns:Names}
theorem j_{n0:Nat}{ro:Option Nat}{n:Nat}(B:fy P ns){orc:eY}(f:iD P ns orc){A:lG}{N:Nat}{ops:Array Oper}{Q:Exit->Act->World->Prop}{rest:List Oper}:∀{l:List Oper}{as:List dM}{st c:St}{G:Gh}{a:Act}{w:World},
   cg (cA P ns A N ops) l=some as->iv (num ns) n0 N G st a w->bC orc as st=some c->
   (∀G' m w',iv (num ns) n0 N G' c m w'->bY G w G' w'->m.defers=a.defers->(∀t,(∀k∈as,k.dst≠some t)->m.tmps[t]?=a.tmps[t]?)->wpListIn (wR ro) n P ops Q rest m w')->wpListIn (wR ro) n P ops Q (l++rest) a w
 |[],as,st,c,G,a,w,hc,hs,b,r=>by
  simp[cg]at hc;subst hc;simp[bC]at b;subst b;exact r G a w hs (bY.refl G w) rfl (fun _ _=>rfl)
 |o::l,as,st,c,G,a,w,hc,hs,b,r=>by
  simp only[cg]at hc;split at hc
  .rename_i k H h1 h2;simp at hc;subst hc;simp only[bC]at b;split at b
   .simp at b
   .rename_i C g;rw[zbb];unfold wpListIn;have hd:k.dst=o.dst:=by obtain⟨_,_,_,h,_⟩:=mu h1;exact h
    have j:∀(a:Act)(v:Value) t,k.dst≠some t->(a.put o.dst v).tmps[t]?=a.tmps[t]?:=by
     intro a v t ht;rw[hd]at ht;cases D:o.dst with
     |none=>rfl
     |some d=>
      rw[D]at ht;simp only[Act.put];rw[za1];intro e;exact ht (by rw[e])
    exact zm B f h1 hs g (fun G' v w' q F=>j_ B f h2 q b (fun z y p i s u E=>r z y p i (F.trans s) (u.trans (put_defers _ _ _)) (fun t ht=>by
     rw[E t (fun x h=>ht x (by simp[h]))];exact j a v t (ht k (by simp)))))
  .simp at hc
def xW{F:Fence}{n:Nat}{ops:Array Oper}{Q:Exit->Act->World->Prop}{rest:List Oper}{o:Oper}{x:Operand}{a:Act}{w:World}(hF:∀f,F.fn f)(b:o.op=.move x)(d:o.guard=none)
   (h:wpListIn F n P ops Q rest (a.put o.dst (a.eval x)) w):wpListIn F n P ops Q (o::rest) a w:=by
 unfold wpListIn;have hw:Region.wanted o (yielded ops a.tmps)=true:=by simp[Region.wanted,d]
 rw[zan hw];refine⟨fun _ _=>hF _,?_⟩;rw[zcX _ _ _ (by intro c e;rw[b]at e;cases e)]
 have hr:(execOp a.eval o).run P w=.ok (.value (a.eval x)) w:=by
  obtain⟨dst,op,type,pos,after,guard⟩:=o;simp only at b;subst b;simp[execOp]
 rw[hr];exact h
def rP:bh->Exit
 | .normal=>.normal
 | .ret=>.ret
 | .exit id=>.exit id
end
end Go.Ab
namespace Go.Ab
open Ev
structure ja(P:Program)(ns:Names)(f sz bytes:Nat) where
 fn:Func
 A:lG
 t:TypeId
 el:TypeId
 ty:TypeId
 o0:Oper
 m:Oper
 e:Oper
 o2:Oper
 b:Oper
 m3:Oper
 ap:Oper
 A2:lG
 ag:Bool
 fi:Oper
 r0:Nat
 r1:Nat
 r2:Nat
 r3:Nat
 hf:P.funcs[f]?=some fn
 qz:fn.body=some (.seq (.region r0 #[o0] false) (.seq (.seq (.region r1 #[m,e] false) (.cond (.tmp 4) (.seq (.region r2 #[o2] false) .ret) .skip)) (.seq (.region r3 #[b,m3,ap,fi] false) .ret))):=by kernel_rfl
 jk:fn.results=#[.tmp 2]:=by kernel_rfl
 hN:fn.ntmps=8:=by kernel_rfl
 h0:o0.op=.assign (.const (.slice none 0 0))/\o0.dst=some 2/\o0.guard=none:=by refine⟨?_,?_,?_⟩<;>kernel_rfl
 h1:m.op=.move (.tmp 0)/\m.dst=some 3/\m.guard=none:=by refine⟨?_,?_,?_⟩<;>kernel_rfl
 h2:e.op=.binOp .eql t (.tmp 3) (.const (.slice none 0 0)) ty/\e.dst=some 4/\e.guard=none:=by refine⟨?_,?_,?_⟩<;>kernel_rfl
 hu:P.underlying t=some (.slice el):=by kernel_rfl
 h3:o2.op=.assign (.const (.slice none 0 0))/\o2.dst=some 2/\o2.guard=none:=by refine⟨?_,?_,?_⟩<;>kernel_rfl
 h4:bR P ns A b.dst b.op=some (.v (.ez sz),[])/\b.dst=some 5/\b.guard=none:=by refine⟨?_,?_,?_⟩<;>kernel_rfl
 h5:m3.op=.move (.tmp 0)/\m3.dst=some 6/\m3.guard=none:=by refine⟨?_,?_,?_⟩<;>kernel_rfl
 h6:bR P ns A ap.dst ap.op=some (.append sz bytes,[.tmp 5,.tmp 6])/\ap.dst=some 7/\ap.guard=none:=by refine⟨?_,?_,?_⟩<;>kernel_rfl
 h8:bR P ns A2 ap.dst ap.op=some (.dk sz bytes ag,[.tmp 5,.tmp 6]):=by kernel_rfl
 h7:fi.op=.assign (.tmp 7)/\fi.dst=some 2/\fi.guard=none:=by refine⟨?_,?_,?_⟩<;>kernel_rfl
section
variable {P:Program} {ns:Names}
def gY{F:Fence}{n:Nat}{ops:Array Oper}{Q:Exit->Act->World->Prop}{rest:List Oper}{o:Oper}{x:Operand}{a:Act}{w:World}(hF:∀f,F.fn f)(b:o.op=.assign x)(d:o.guard=none)
   (h:wpListIn F n P ops Q rest (a.put o.dst (a.eval x)) w):wpListIn F n P ops Q (o::rest) a w:=by
 unfold wpListIn;have hw:Region.wanted o (yielded ops a.tmps)=true:=by simp[Region.wanted,d]
 rw[zan hw];refine⟨fun _ _=>hF _,?_⟩;rw[zcX _ _ _ (by intro c e;rw[b]at e;cases e)]
 have hr:(execOp a.eval o).run P w=.ok (.value (a.eval x)) w:=by
  obtain⟨dst,op,type,pos,after,guard⟩:=o;simp only at b;subst b;simp[execOp]
 rw[hr];exact h
def pE{G:Gh}{A:lG}{n:Nat}{ops:Array Oper}{Q:Exit->Act->World->Prop}{rest:List Oper}{o:Oper}{k:AK}{args:List Operand}{a:Act}{w:World}(j:o.guard=none){orc:eY}(hc:bR P ns A o.dst o.op=some (k,args))(i:k.calls=false)
   {vals:List AV} {out:Out} {mem:List (Nat×List AV)} {sh:Sh} {aa:aF} (b:k.key=none) (hr:aC (num ns) G vals (args.map a.eval)) (hi:Inv (num ns) G w mem sh aa) (h:exec orc k vals none sh aa=some out)
   (hn:∀v w' G',aD (num ns) G' out.val v->Inv (num ns) G' w' mem out.sh out.aa->G.le G'->bY G w G' w'->wpListIn Fence.wide n P ops Q rest (a.put o.dst v) w'):wpListIn Fence.wide n P ops Q (o::rest) a w:=by
 unfold wpListIn;have hw:Region.wanted o (yielded ops a.tmps)=true:=by simp[Region.wanted,j]
 rw[zan hw];have d:∀c,o.op≠.defer c:=by intro c e;rw[e]at hc;simp[bR]at hc
 refine t8 (ro:=none) d ?_;obtain⟨l,v,w',G',g1,g2,g,g4,g5,g6⟩:=sR (orc:=orc) (mem:=mem) hc i hr hi (by rw[b];exact h);have f:Inv (num ns) G' w' mem out.sh out.aa:=by rw[b]at g4;exact g4
 unfold Oper.wp;rw[g1];rcases g2 with rfl|⟨rfl,rfl⟩
 .exact hn v w' G' g f g5 g6
 .exact hn undef w' G' g f g5 g6
def GQ{F:Fence}{n:Nat}{ops:Array Oper}{Q:Exit->Act->World->Prop}{rest:List Oper}{o:Oper}{t el ty:TypeId}{a:Act}{w:World}{base:Option Addr}{len cap:Nat}(hF:∀f,F.fn f)
   (b:o.op=.binOp .eql t (.tmp 3) (.const (.slice none 0 0)) ty) (g:o.guard=none) (hu:P.underlying t=some (.slice el)) (h3:a.tmps[3]?=some (.slice base len cap))
   (h:wpListIn F n P ops Q rest (a.put o.dst (.bool base.isNone)) w):wpListIn F n P ops Q (o::rest) a w:=by
 unfold wpListIn;have hw:Region.wanted o (yielded ops a.tmps)=true:=by simp[Region.wanted,g]
 rw[zan hw];refine⟨fun _ _=>hF _,?_⟩;rw[zcX _ _ _ (by intro c e;rw[b]at e;cases e)];have e3:a.eval (.tmp 3)=.slice base len cap:=by simp[Act.eval,h3]
 have j:a.eval (.const (.slice none 0 0))=.slice none 0 0:=rfl
 have i:(Op.equal t (.slice base len cap) (.slice none 0 0)).run P w=.ok base.isNone w:=by
  have h:∀d:Nat,(Op.equalIn (d+1) t (.slice base len cap) (.slice none 0 0)).run P w=.ok base.isNone w:=fun d=>by
   cases base<;>simp[Op.equalIn,zaL hu]
  exact h 9999
 have hr:(execOp a.eval o).run P w=.ok (.value (.bool base.isNone)) w:=by
  obtain⟨dst,op,type,pos,after,guard⟩:=o;simp only at b;subst b;simp only[execOp,e3,j];simp[eqGuard,binOp,i]
 rw[hr];exact h
def CR{f sz bytes:Nat}(D:ja P ns f sz bytes):Na P ns f sz bytes:=by
 intro t G w mem sh sh' aa toks' x y v hi hx d;refine zc6 (n:=0).1 ?_;refine callsIn_of_wp D.hf D.qz trivial ?_ rfl;rw[D.hN];have hF:∀f,Fence.wide.fn f:=fun _=>trivial
 let orc:eY:={p:=fun _ _=>none,i:=fun _ _ _ _=>none}
 have fin:∀(a:Act)(w':World)(u:Value)(G':Gh),a.defers=[]->a.tmps[2]?=some u->aD (num ns) G' y u->Inv (num ns) G' w' mem sh' toks'->G.le G'->bY G w G' w'->
     a.defers=[]/\∃v,(results D.fn a.tmps).run P w'=.ok v w'/\∃u G',Ending.returned v=.returned u/\aD (num ns) G' y u/\Inv (num ns) G' w' mem sh' toks'/\G.le G'/\bY G w G' w':=by
   intro a w' u G' hd h2 r1 r2 r3 r4;refine⟨hd,u,?_,u,G',rfl,r1,r2,r3,r4⟩;simp[results,D.jk,h2]
 obtain⟨els,g⟩:∃els,cG x=some els:=by
  cases H:cG x with
  |none=>cases t<;>simp[gA,cp,H]at d
  |some els=>exact⟨els,rfl⟩
 obtain⟨base,cap,rfl⟩:=kN g hx;refine zbF (za8 ?_);refine gY hF D.h0.1 D.h0.2.2 ?_;rw[D.h0.2.1];simp only[wpListIn];refine zbF (zbF (za8 ?_));refine xW hF D.h1.1 D.h1.2.2 ?_;rw[D.h1.2.1];refine GQ (base:=base) (len:=els.length) (cap:=cap) hF D.h2.1 D.h2.2.2 D.hu (by simp[Act.put,Act.eval]) ?_;rw[D.h2.2.1];simp only[wpListIn];cases base with
 |none=>
  refine wpIn_cond_true (by simp[Act.put,Act.eval]) ?_;refine zbF (za8 ?_);refine gY hF D.h3.1 D.h3.2.2 ?_;rw[D.h3.2.1];simp only[wpListIn];refine wpIn_ret ?_
  have hn:els=[]:=by
   have:=eP g hx;obtain⟨b,l,c,e,_,e2⟩:=cq.1 this;cases e;rcases e2.2 with h|⟨_,_,_,h,_⟩
   .exact h
   .cases h
  subst hn
  obtain⟨rfl,rfl,rfl⟩:AV.dr []=y/\sh=sh'/\aa=toks':=by
   cases t with
   |none=>simpa[gA,cp,g,bl]using d
   |some ag=>simpa[gA,tI,g,bl]using d
  exact fin _ _ (.slice none 0 0) G (by simp[Act.put]) (by simp[Act.put,Act.eval]) (by simp only[aD];exact⟨none,0,rfl,rfl,.inl rfl⟩) hi G.le_refl (bY.refl G w)
 |some ad=>
  refine wpIn_cond_false (by simp[Act.put,Act.eval]) (wpIn_skip ?_);refine zbF (za8 ?_);refine pE (orc:=orc) (out:=⟨.dr [],none,sh,aa⟩) D.h4.2.2 D.h4.1 rfl rfl (vals:=[]) (by simp[aC]) hi (by rfl) fun I w1 G1 E C q B=>?_;rw[D.h4.2.1];refine xW hF D.h5.1 D.h5.2.2 ?_;rw[D.h5.2.1];cases t with
  |none=>
   simp only[gA,zac,zaD]at d;obtain⟨⟨r,ts'⟩,d,rfl,rfl,rfl⟩:=d;refine pE (orc:=orc) (out:=⟨r,none,sh,ts'⟩) D.h6.2.2 D.h6.1 rfl rfl (vals:=[.dr [],x]) (mem:=mem) (sh:=sh) (aa:=aa) ?_ C (by simp only[exec,d,zaT]) fun s F A p1 p2 p3 p4=>?_
   .simp only[zal,zaJ,aC];refine⟨_,_,rfl,?_,_,_,rfl,?_,rfl⟩
    .simpa[Act.put,Act.eval]using E
    .simpa[Act.put,Act.eval]using hx.mono q
   rw[D.h6.2.1];refine gY hF D.h7.1 D.h7.2.2 ?_;rw[D.h7.2.1];simp only[wpListIn];refine wpIn_ret ?_;exact fin _ _ s A (by simp[Act.put]) (by simp[Act.put,Act.eval]) p1 p2 (Gh.le_trans q p3) (B.trans p4)
  |some ag=>
   simp only[gA,g]at d;rw[zab]at d;obtain⟨z,d⟩:=d;simp only[zac,zaD]at d;obtain⟨⟨r,k⟩,d,rfl,rfl,rfl⟩:=d
   obtain⟨o,m,j⟩:∃o,tI sz bytes D.ag (.dr []) els sh=some (o,k)/\∀G' u,aD (num ns) G' o u->aD (num ns) G' r u:=by
    unfold tI at d⊢;split at d
    .rename_i h0;rw[zan h0];cases d;exact⟨_,rfl,fun _ _ h=>h⟩
    .rename_i h0;rw[zai h0];simp only[zab,zag,zaD]at d;obtain⟨h1,rfl,rfl⟩:=d;rw[zan h1];exact⟨_,rfl,fun _ _ h=>by simpa only[aD]using h⟩
   refine pE (orc:=orc) (out:=⟨o,none,k,aa⟩) D.h6.2.2 D.h8 rfl rfl (vals:=[.dr [],x]) (mem:=mem) (sh:=sh) (aa:=aa) ?_ C (by simp only[exec,g,z,zbc,tJ,m,zaT]) fun s F A p1 p2 p3 p4=>?_
   .simp only[zal,zaJ,aC];refine⟨_,_,rfl,?_,_,_,rfl,?_,rfl⟩
    .simpa[Act.put,Act.eval]using E
    .simpa[Act.put,Act.eval]using hx.mono q
   rw[D.h6.2.1];refine gY hF D.h7.1 D.h7.2.2 ?_;rw[D.h7.2.1];simp only[wpListIn];refine wpIn_ret ?_;exact fin _ _ s A (by simp[Act.put]) (by simp[Act.put,Act.eval]) (j _ _ p1) p2 (Gh.le_trans q p3) (B.trans p4)
end
end Go.Ab
namespace Go.Ab
section
variable {P:Program} {ns:Names} {G:Gh} {w:World}
end
def ou{α:Type}{d:Nat}:∀{l:List (Nat×α)}{t:Nat},look (tL d l) t=if t=d then none else look l t
 |[],t=>by simp[tL,look]
 |(k,v)::r,t=>by
  simp only[tL];by_cases b:k=d
  .rw[zan b,ou];by_cases ht:t=d
   .rw[zan ht,zan ht]
   .rw[zai ht,zai ht];simp only[look];rw[zai (by rintro rfl;exact ht b)]
  .rw[zai b];simp only[look];by_cases a:k=t
   .subst a;rw[zan rfl,zai b,zan rfl]
   .rw[zai a,zai a,ou]
section
variable {n0:Nat} {P:Program} {ns:Names} {ro:Option Nat} {n:Nat}
def xM{orc:eY}{o:dM}{st a:St}(h:d_ orc o st=some a){t:Nat}(ht:o.dst≠some t):look a.env t=look st.env t:=by
 rw[ef,zac]at h;obtain⟨r,_,rfl⟩:=h;simp only[eQ];rw[zai ht]
end
end Go.Ab
