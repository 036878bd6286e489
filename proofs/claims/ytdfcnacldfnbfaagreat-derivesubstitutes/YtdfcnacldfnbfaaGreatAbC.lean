import Derived.Test.YtdfcnacldfnbfaaGreatAbB
import Derived.RangeFuncLeaves
import Derived.RangeFuncRecord
import Derived.WalkKit
import Derived.ProofKit
import Derived.OpenShut
import Derived.Carry
import Derived.Lib.Join
import Derived.Lib.ItoaNum
import Derived.Lib.LaidTab
import Derived.Sort.Grow
import Derived.Deep.Draws
import Derived.Lib.Builder
import Derived.Lib.UnsafeStr
import Derived.Lib.AppendStr
/- The abstract machine, and that the code of the model does what its slim code says. -/
set_option linter.defProp false
set_option linter.unusedVariables false
set_option linter.unusedSimpArgs false
set_option linter.unnecessarySimpa false
set_option maxRecDepth 100000
set_option maxHeartbeats 8000000
namespace Go.Ab
def zbJ:=@List.length_set
def zbA:=@Nat.sub_zero
def zdj:=@List.drop_drop
def zcf:=@List.take_append_drop
def zcO:=@List.contains_iff_mem
def zaS:=@decide_eq_true_eq
def zaQ:=@List.nil_append
def zcd:=@Bool.eq_false_iff
def zbH:=@Nat.eq_of_beq_eq_true
def zaB:=@decide_eq_false
def za0:=@Bool.eq_iff_iff
def zdh:=@decide_not
def zbx:=@List.getElem?_cons_succ
def zcs:=@Int.toNat_natCast
def zbM:=@List.mem_append_left
def zcM:=@List.mem_append_right
section
variable {n0:Nat} {P:Program} {ns:Names} {ro:Option Nat}
variable{N k:Nat}{ρ:bV}{G:Gh}{st:St}{w:World}{m:Act}{live:List Nat}{orc:fQ}
def tT{c:Code}{z:Exit->Act->World->Prop}{J:St->Option (aX×St)}{k:St->St}
   (d:∀{st:St}{G:Gh}{a:Act}{w:World},iU (num ns) n0 N G st a w->∃G',iU (num ns) n0 N G' (k st) a w/\bZ G w G' w)
   (hf:∀{st b:St}{e:aX}{G:Gh}{a:Act}{w:World}{z:Exit->Act->World->Prop},J st=some (e,b)->iU (num ns) n0 N G st a w->
     (∀G' g w',iU (num ns) n0 N G' b g w'->bZ G w G' w'->z (lf e) g w')->c.wpIn (uJ ro) 0 P z a w):
   ∀(n:Nat){st b:St}{e:aX}{G:Gh}{a:Act}{w:World},gI J k n st=some (e,b)->iU (num ns) n0 N G st a w->
     (∀G' g w',iU (num ns) n0 N G' b g w'->bZ G w G' w'->z (lf e) g w')->Code.roundsIn (uJ ro) 0 P c z n a w
 |0,st,b,e,G,a,w,h,_,_=>by simp[gI]at h
 |n+1,st,b,e,G,a,w,h,hs,v=>by
  rw[roundsIn_succ];obtain⟨y,l,o⟩:=d hs;simp only[gI]at h;split at h
  .rename_i x h1;refine hf h1 l fun G' g w' i j=>?_;exact tT d hf n h i fun u t q m p=>v u t q m ((o.trans j).trans p)
  .rename_i r hr
   have s:e≠.normal:=by
    rintro rfl
    exact hr b h
   refine hf h l fun G' g w' i j=>?_;have:=v G' g w' i (o.trans j)
   cases e with
   |normal=>exact absurd rfl s
   |ret=>exact this
   |exit id=>exact this
def HM{x:AV}{v:Value}(h:aD ρ G x v):aD ρ G (pD x) v:=by
 cases x with
 |dm l=>
  simp only[aD]at h;obtain⟨base,len,e,r⟩:=h;simp only[pD,aD];exact cJ.2 ⟨base,len,len,e,zal _,r⟩
 |_=>exact h
def wy:∀(n:Nat){xs:List AV}{vs:List Value},aA ρ G xs vs->aA ρ G ((xs.take n).map pD++xs.drop n) vs
 |0,xs,vs,h=>by simpa using h
 |n+1,[],vs,h=>by simpa using h
 |n+1,x::r,vs,h=>by
  simp only[aA]at h;obtain⟨v,q,rfl,h1,h2⟩:=h;simp only[zb6,zan,zcU,za2,aA];exact⟨v,q,rfl,HM h1,wy n h2⟩
def yQ{p:AV->Bool}(hp:∀l,p (.dm l)=true->p (.pv (.ae l))=true){xs:List AV}(h:xs.all p=true)(n:Nat):((xs.take n).map pD++xs.drop n).all p=true:=by
 rw[zas]at h⊢;intro y hy;rw[zae,zak]at hy;rcases hy with⟨x,hx,rfl⟩|hy
 .have:=h x (zbh hx);cases x<;>first|exact this|exact hp _ this
 .exact h y (zbY hy)
def HN{v:AV}{a:Act}(h:iU (num ns) n0 N G st a w):∃G',iU (num ns) n0 N G' (zI v st) a w/\bZ G w G' w:=by
 unfold zI;split
 .rename_i n b;split
  .rename_i cs j;refine⟨G,⟨h.env,?_,h.marks⟩,bZ.refl G w⟩;have i:=h.inv;refine⟨i.known,i.bn,i.fresh,i.dz,i.jJ,?_,?_,i.dO,i.iE,i.py⟩
   .intro s cells hs;rw[zax]at hs;by_cases m:b=s
    .subst m;have u:=(zaa.1 j).1;rw[zai rfl,zai u]at hs;cases hs;obtain⟨q,e1,⟨e2,o,e3,e4⟩,e5,H⟩:=i.eD b cs j;refine⟨q,e1,⟨e2,o,e3,e4.to (fun _ _ _ h=>h) (fun kvs F=>by subst F;simp[pD]) fun vs=>wy _⟩,yQ (fun _ _=>rfl) e5 _,yQ (fun _ _=>rfl) H _⟩
    .rw[zad m]at hs;exact i.eD s cells hs
   .intro s q hs;rw[zbJ];exact i.ix s q hs
  .exact⟨G,h,bZ.refl G w⟩
 .rename_i n d;split
  .rename_i cs j;split
   .rename_i ps r;obtain⟨G1,f,k2,C,E,I⟩:=Inv.kill ([.agg cs].flatMap iv) h.inv;obtain⟨b,e1,⟨e2,c,t,e3,e4⟩,e5⟩:=h.inv.dz d cs j;obtain⟨B,f1,⟨f2,c',t',f3,J⟩,f5⟩:=f.dz d cs j;have m:b=B:=by have:=k2.pm d b e1;rw[f1]at this;simpa using this.symm
    subst m;have z:c=c':=by rw[e3]at f3;cases f3;rfl
    subst z;have k:d9 G1.K ps c.toList:=pX k2 E h.inv.Aa (fun s hs=>by simpa using hs) r e4
    have y:(ps.map AV.pv).all a9=true:=by
     rw[zas];intro x hx;rw[zak]at hx;obtain⟨p,hp,rfl⟩:=hx;have:=se k p hp;cases p<;>first|rfl|simp[jI]at this
    refine⟨G1,⟨⟨h.env.size,fun t' x hx=>?_⟩,?_,h.marks.BI C rfl⟩,C⟩
    .obtain⟨D,g1,g2⟩:=h.env.env t' x hx;exact⟨D,g1,g2.mono k2⟩
    .refine⟨f.known,f.bn,f.fresh,?_,?_,f.eD,f.ix,f.dO,f.iE,f.py⟩
     .intro l A e;by_cases g:d=l
      .subst g;rw[cB]at e;cases e;exact⟨b,f1,⟨f2,c,t',f3,mi k⟩,y⟩
      .rw[b_ _ _ _ _ g]at e;exact f.dz l A e
     .intro l B e;by_cases g:d=l
      .subst g;rw[cB];rfl
      .rw[b_ _ _ _ _ g];exact f.jJ l B e
   .exact⟨G,h,bZ.refl G w⟩
  .exact⟨G,h,bZ.refl G w⟩
 .exact⟨G,h,bZ.refl G w⟩
def lg:∀{ts:List Nat}{st:St}{G:Gh}{a:Act}{w:World},iU (num ns) n0 N G st a w->∃G',iU (num ns) n0 N G' (pw ts st) a w/\bZ G w G' w
 |[],st,G,a,w,h=>⟨G,h,bZ.refl G w⟩
 |t::r,st,G,a,w,h=>by
  simp only[pw];split
  .rename_i v i;split
   .rename_i p hp;obtain⟨G1,g,k2,d,f,k⟩:=Inv.kill ([v].flatMap iv) h.inv;obtain⟨u,hu,hr⟩:=h.env.env t v i;have b:Rel G1.K p u:=vP k2 f h.inv.Aa (fun s hs=>by simpa using hs) hp hr
    have h1:iU (num ns) n0 N G1 {st with env:=dh st.env t (.pv p),sh:=fu st.sh [v]} a w:=by
     refine⟨⟨h.env.size,fun t' x hx=>?_⟩,g,h.marks.BI d rfl⟩;by_cases ht:t'=t
     .subst ht;rw[Ev.oU,zai rfl]at hx;cases hx;exact⟨u,hu,by simpa only[aD]using b⟩
     .rw[Ev.oU,zad ht]at hx;obtain⟨e,f1,f2⟩:=h.env.env t' x hx;exact⟨e,f1,f2.mono k2⟩
    obtain⟨c,h2,j⟩:=lg (ts:=r) h1;exact⟨c,h2,d.trans j⟩
   .obtain⟨G1,h1,e1⟩:=HN (v:=v) h;obtain⟨c,h2,e2⟩:=lg (ts:=r) h1;exact⟨c,h2,e1.trans e2⟩
  .exact lg h
def wz{ps:List (Nat×Nat×Bool)}(h:iU (num ns) n0 N G st m w):∃G',iU (num ns) n0 N G' (Sx ps st) m w/\bZ G w G' w:=⟨G,h,bZ.refl G w⟩
def HO{ts:List Nat}(h:iU (num ns) n0 N G st m w):∃G',iU (num ns) n0 N G' (Xu ts st) m w/\bZ G w G' w:=⟨G,h,bZ.refl G w⟩
theorem nD{env:List (Nat×AV)}:∀{ds:List (Nat×Nat)},jX (bM live env live) ds=true->jX env ds=true
 |[],_=>rfl
 |(a,b)::r,h=>by
  simp only[jX,zaj]at h⊢;refine⟨?_,nD h.2⟩;obtain⟨b1,o1,d,o2,h1,h2,c⟩:=yD h.1;rw[(dZ h1).1,(dZ h2).1];simpa[apart]using c
def wA{as:List d8}{j:Option (List (Nat×Nat))}{Y:Option (List (Nat×Nat×Bool))}{b:St}{e:aX}
   (h:cT orc k (behind j Y (.ka as live)) st=some (e,b)):
   ∃a,bC orc as st=some a/\e=.normal/\jX a.env (j.getD [])=true/\b=Sx (Y.getD []) (restrict live a):=by
 have h1:∀e2 c,cT orc k (match j with|some j=>ah.seq (.ka as live) (.VK j)|none=>.ka as live) st=some (e2,c)->
     ∃a,bC orc as st=some a/\e2=.normal/\jX a.env (j.getD [])=true/\c=restrict live a:=by
   intro e2 c h;cases j with
   |none=>
    simp only[cT]at h;split at h
    .rename_i a h1;simp at h;obtain⟨rfl,rfl⟩:=h;exact⟨a,h1,rfl,rfl,rfl⟩
    .simp at h
   |some j=>
    simp only[cT]at h;cases h1:bC orc as st with
    |none=>rw[h1]at h;simp at h
    |some a=>
     rw[h1]at h;simp only[zab,zag,zaw]at h;obtain⟨h2,rfl,rfl⟩:=h;exact⟨a,rfl,rfl,nD h2,rfl⟩
 unfold behind at h;cases Y with
 |none=>
  obtain⟨a,g1,g2,d,g4⟩:=h1 e b h;exact⟨a,g1,g2,d,g4⟩
 |some Y=>
  simp only[cT]at h;split at h
  .rename_i c h2;simp at h;obtain⟨a,g1,g2,d,rfl⟩:=h1 _ _ h2;exact⟨a,g1,h.1.symm,d,h.2.symm⟩
  .rename_i r hr;obtain⟨a,g1,rfl,d,g4⟩:=h1 e b h;exact absurd h (hr b)
def uQ(P:Program)(ns:Names):Prop:=∀gb sz ag,look ns.bk gb=some (sz,ag)->∀f,ns.of f=some gb->Nonempty (qZ P ns f sz ag)
def i4(hm:P.follows .mixedOrders=true)(B:jo P ns)(j:lH P ns orc)(q:uQ P ns){A:nA}:∀{c:Code}{u:ah},gv P ns A N c=some u->
   ∀{n0:Nat}{ro:Option Nat},(ro=none\/u.fw=true)->∀{st i:St}{e:aX}{G:Gh}{a:Act}{w:World}{Q:Exit->Act->World->Prop},cT orc k u st=some (e,i)->iU (num ns) n0 N G st a w->
     (∀G' v w',iU (num ns) n0 N G' i v w'->bZ G w G' w'->Q (lf e) v w')->c.wpIn (uJ ro) 0 P Q a w
 | .skip,u,g,n0,ro,l,st,i,e,G,a,w,Q,d,hs,m=>by
  simp[gv]at g;subst g;simp[cT]at d;obtain⟨rfl,rfl⟩:=d;exact wpIn_skip (m G a w hs (bZ.refl G w))
 | .region id ops s,u,g,n0,ro,l,st,i,e,G,a,w,Q,d,hs,m=>by
  simp only[gv]at g;split at g
  .rename_i as X
   have key:∀o ds ps live,u=mM o (behind ds ps (.ka as live))->(s=true->zL (ds.getD []) ops.toList as=true)->(Code.region id ops s).wpIn (uJ ro) 0 P Q a w:=by
    rintro o ds ps live rfl hd
    have F:∀{st:St}{G1:Gh},cT orc k (behind ds ps (.ka as live)) st=some (e,i)->iU (num ns) n0 N G1 st a w->bZ G w G1 w->(Code.region id ops s).wpIn (uJ ro) 0 P Q a w:=by
     intro st G1 d hs z;obtain⟨I,h1,rfl,h3,rfl⟩:=wA d;refine yF hm B j X hd hs h1 h3 fun G' v w' n p=>?_;obtain⟨O,h4,h5⟩:=wz (ps:=ps.getD []) (n.restrict live);exact m O v w' h4 (z.trans (p.trans ((bZ.a6 live).trans h5)))
    cases o with
    |none=>exact F d hs (bZ.refl G w)
    |some ts=>
     simp only[mM,cT]at d;obtain⟨O,h2,C⟩:=lg (ts:=ts) hs;exact F d h2 C
   have ahead:∀o1 o2 c,u=zM o1 (mM o2 c)->(∀{st:St}{G1:Gh},cT orc k c st=some (e,i)->iU (num ns) n0 N G1 st a w->bZ G w G1 w->(Code.region id ops s).wpIn (uJ ro) 0 P Q a w)->(Code.region id ops s).wpIn (uJ ro) 0 P Q a w:=by
    rintro o1 o2 c rfl hm
    have h2:∀{st:St}{G1:Gh},cT orc k (mM o2 c) st=some (e,i)->iU (num ns) n0 N G1 st a w->bZ G w G1 w->(Code.region id ops s).wpIn (uJ ro) 0 P Q a w:=by
     intro st G1 d hs z;cases o2 with
     |none=>exact hm d hs z
     |some ts=>
      simp only[mM,cT]at d;obtain⟨O,h2,C⟩:=lg (ts:=ts) hs;exact hm d h2 (z.trans C)
    cases o1 with
    |none=>exact h2 d hs (bZ.refl G w)
    |some ts=>
     simp only[zM,cT]at d;obtain⟨O,h3,C⟩:=HO (ts:=ts) hs;exact h2 d h3 C
   split at g
   .rename_i M;split at g
    .rename_i K;simp at g;exact key _ _ _ _ g.symm (fun _=>K)
    .simp at g
   .rename_i M;have W:s=false:=by simpa using M
    subst W;split at g
    .simp at g
    .simp only[zag]at g;refine ahead _ _ _ g.symm fun d hs z=>?_;obtain⟨I,h1,rfl,h3,rfl⟩:=wA d;refine yF hm B j X (fun h=>absurd h M) hs h1 h3 fun G' v w' n p=>?_;obtain⟨O,h4,h5⟩:=wz (ps:=(look A.NG id).getD []) (n.restrict ((look A.live id).getD []));exact m O v w' h4 (z.trans (p.trans ((bZ.a6 _).trans h5)))
  .simp at g
 | .seq x y,u,g,n0,ro,l,st,i,e,G,a,w,Q,d,hs,m=>by
  simp only[gv]at g;split at g
  .rename_i ax Z hx hy;simp at g;subst g;have D:ro=none\/ax.fw=true:=l.imp_right fun h=>by simp only[ah.fw,zaj]at h;exact h.1
   have J:ro=none\/Z.fw=true:=l.imp_right fun h=>by simp only[ah.fw,zaj]at h;exact h.2
   simp only[cT]at d;refine zb3 ?_;split at d
   .rename_i I h1;refine i4 hm B j q hx D h1 hs fun G' v w' n p=>?_;exact i4 hm B j q hy J d n fun aj ai a0 S V=>m aj ai a0 S (p.trans V)
   .rename_i r hr;refine i4 hm B j q hx D d hs fun G' v w' n p=>?_;have:=m G' v w' n p
    cases e with
    |normal=>exact absurd d (hr i)
    |ret=>exact this
    |exit id=>exact this
  .simp at g
 | .cond c x y,u,g,n0,ro,l,st,i,e,G,a,w,Q,d,hs,m=>by
  simp only[gv]at g;split at g
  .rename_i ak ax Z a4 hx hy;simp at g;subst g;have D:ro=none\/ax.fw=true:=l.imp_right fun h=>by simp only[ah.fw,zaj]at h;exact h.1
   have J:ro=none\/Z.fw=true:=l.imp_right fun h=>by simp only[ah.fw,zaj]at h;exact h.2
   simp only[cT]at d;split at d
   .rename_i t ht;have H:=IN hs.env a4 ht;simp only[aD,kN]at H;refine wpIn_cond H ?_;cases t with
    |true=>exact i4 hm B j q hx D (by simpa using d) hs m
    |false=>exact i4 hm B j q hy J (by simpa using d) hs m
   .simp at d
  .simp at g
 | .block id b,u,g,n0,ro,l,st,i,e,G,a,w,Q,d,hs,m=>by
  simp only[gv,zac]at g;obtain⟨ab,Y,rfl⟩:=g;have E:ro=none\/ab.fw=true:=l.imp_right fun h=>by simpa only[ah.fw]using h
  refine wpIn_block ?_;simp only[cT]at d;split at d
  .rename_i R I h1;refine i4 hm B j q Y E h1 hs fun G' v w' n p=>?_;split at d
   .rename_i L;simp at d;obtain⟨rfl,rfl⟩:=d;simp only[lf,Exit.inBlock,L,za4];exact m G' v w' n p
   .rename_i L;simp at d;obtain⟨rfl,rfl⟩:=d;simp only[lf,Exit.inBlock,L,zbr];exact m G' v w' n p
  .rename_i r hr;refine i4 hm B j q Y E d hs fun G' v w' n p=>?_;have:=m G' v w' n p
   cases e with
   |normal=>exact this
   |ret=>exact this
   |exit R=>exact absurd d (hr R i)
 | .loop b,u,g,n0,ro,l,st,i,e,G,a,w,Q,d,hs,m=>by
  simp only[gv,zac]at g;obtain⟨ab,Y,rfl⟩:=g;have E:ro=none\/ab.fw=true:=l.imp_right fun h=>by simpa only[ah.fw]using h
  simp only[cT]at d;refine wpIn_loop_rounds k ?_;exact tT (fun h=>h.head _) (fun h1 h2 h3=>i4 hm B j q Y E h1 h2 h3) k d hs m
 | .exit id,u,g,n0,ro,l,st,i,e,G,a,w,Q,d,hs,m=>by
  simp[gv]at g;subst g;simp[cT]at d;obtain⟨rfl,rfl⟩:=d;exact wpIn_exit (m G a w hs (bZ.refl G w))
 | .ret,u,g,n0,ro,l,st,i,e,G,a,w,Q,d,hs,m=>by
  simp[gv]at g;subst g;simp[cT]at d;obtain⟨rfl,rfl⟩:=d;exact zc9 (m G a w hs (bZ.refl G w))
 | .rangeFunc f ps x y,u,g,n0,ro,l,st,i,e,G,a,w,Q,d,hs,m=>by
  cases f with
  |tmp t=>
   simp only[gv]at g;split at g
   .rename_i pi px gb a2 al;split at g
    .rename_i sz ag ax Z a5 hx hy;split at g
     .rename_i K;obtain⟨nx,ny,a3,a1⟩:=K;simp at g;subst g;have T:ro=none:=l.resolve_right (by simp[ah.fw]);subst T
      have U:ps=#[pi,px]:=by
       have:=zcp List.toArray a2;simpa using this
      subst U;simp only[cT]at d
      exact HK B j (q gb _ _ a5)
        (fun h1 h2 h3=>i4 hm B j q hx (.inr nx) h1 h2 h3) (fun h1 h2 h3=>i4 hm B j q hy (.inr ny) h1 h2 h3) a3 a1 d hs m
     .simp at g
    .simp at g
   .simp at g
  |_=>simp[gv]at g
 | .scope _,u,g,n0,ro,l,st,i,e,G,a,w,Q,d,hs,m=>by simp[gv]at g
 | .label _,u,g,n0,ro,l,st,i,e,G,a,w,Q,d,hs,m=>by simp[gv]at g
 | .goto _,u,g,n0,ro,l,st,i,e,G,a,w,Q,d,hs,m=>by simp[gv]at g
 | .refuse _,u,g,n0,ro,l,st,i,e,G,a,w,Q,d,hs,m=>by simp[gv]at g
end
section
variable {P:Program} {ns:Names} {G:Gh} {w:World}
def wB:∀{l:List AV}{i t:Nat}{v:AV},look (bY i l) t=some v->i<=t/\l[t-i]?=some v
 |[],i,t,v,h=>by simp[bY,look]at h
 |x::l,i,t,v,h=>by
  simp only[bY,look]at h;split at h
  .rename_i e;subst e;cases h;simp
  .rename_i a;obtain⟨h1,h2⟩:=wB h;refine⟨by omega,?_⟩;rw[show t-i=(t-(i+1))+1 from by omega];simpa using h2
variable{N:Nat}{vs:List Value}{G':Gh}{sh:Sh}{ks:List Nat}{x:AV}{v:Value}{xs:List AV}
def Pp{args:List AV}(hr:aA (num ns) G args vs)(hN:args.length<=N):
   nR (num ns) G N (bY 0 args) {tmps:=vs.toArray++Array.replicate (N-vs.toArray.size) undef,defers:=[]}:=by
 have hl:=hr.length;refine⟨by simp;omega,fun t x hx=>?_⟩;obtain⟨_,h2⟩:=wB hx;simp only[zbA]at h2;obtain⟨v,h3,h4⟩:=hr.get h2;refine⟨v,?_,h4⟩;rw[zdm (by have:=(zaa.1 h3).1;simpa using this)];simpa using h3
def tU{D:Nat}{st:St}{a:Act}(hs:iU (num ns) D N G st a w){F:ResultVar->Sem Value}(m:∀t,F (.tmp t)=pure (a.tmps.getD t undef))(j:∀ad t,F (.cell ad t)=(do loadVar t (<-asAddr (a.tmps.getD ad undef)))):∀{i:List ResultVar}{rs:List rW}{xs:List AV},dN (IM P) i=some rs->e8 st rs=some xs->
   ∃vs,(i.mapM F).run P w=.ok vs w/\aA (num ns) G xs vs
 |[],rs,xs,h,hx=>by
  simp[dN]at h;subst h;simp[e8]at hx;subst hx;exact⟨[],by simp,by simp[aA]⟩
 |r::i,rs,xs,h,hx=>by
  simp only[dN]at h;split at h
  .rename_i ar A h1 h2;simp at h;subst h;simp only[e8]at hx;split at hx
   .rename_i v x g1 g2;simp at hx;subst hx;obtain⟨us,y,k2⟩:=tU hs m j h2 g2
    have one:∃u,(F r).run P w=.ok u w/\aD (num ns) G v u:=by
     cases r with
     |tmp t=>
      simp[IM]at h1;subst h1;simp only[s7]at g1;obtain⟨u,e1,e2⟩:=hs.env.env t v g1;exact⟨u,by rw[m];simp[e1],e2⟩
     |cell ad t=>
      simp only[IM]at h1;split at h1
      .rename_i sz ag k l;simp at h1;subst h1;simp only[s7]at g1;split at g1
       .rename_i d e1;split at g1
        .rename_i cs e2;simp only[zab]at g1;obtain⟨rfl,g1⟩:=g1;obtain⟨u,f1,f2⟩:=hs.env.env _ _ e1;simp only[aD]at f2;obtain⟨b,hp,rfl⟩:=f2;obtain⟨z,f,g,_⟩:=hs.inv.dz _ _ e2;rw[hp]at f;cases f;obtain⟨_,c,ty,q,e⟩:=g;obtain⟨u,o,n⟩:=ki (w:=w) k l g1 e (lQ q);exact⟨u,by rw[j];simp[f1,asAddr,o],n⟩
        .cases g1
       .rename_i s e1;split at g1
        .rename_i cs e2;split at g1
         .cases g1
         .rename_i hm;obtain⟨u,f1,f2⟩:=hs.env.env _ _ e1;simp only[aD]at f2;obtain⟨b,hp,rfl⟩:=f2;obtain⟨z,f,g,_⟩:=hs.inv.eD _ _ e2;rw[hp]at f;cases f;obtain⟨_,c,ty,vs,suf,q,_,p,e⟩:=g.cells (by simpa using hm);obtain⟨u,o,n⟩:=ki (w:=w) k l g1 e (qG q p);exact⟨u,by rw[j];simp[f1,asAddr,o],n⟩
        .cases g1
       .cases g1
      .simp at h1
    obtain⟨u,o1,o2⟩:=one;refine⟨u::us,?_,?_⟩
    .rw[zcR];simp only[zav];rw[o1];simp only[zam];rw[y];rfl
    .simp only[aA];exact⟨u,us,rfl,o2,k2⟩
   .simp at hx
  .simp at h
def qh(a:G.le G')(hf:kX ns G G' sh ks)(hl:∀(s:Nat)(cells:List AV),sh[s]?=some (some cells)->cells.all a9=true)
     (b:∀s∈iv x,s∈ks) (h:aD (num ns) G x v):aD (num ns) G' (mh sh x) v:=by
 unfold mh;split
 .rename_i p hp;simp only[aD];exact vP a hf hl b hp h
 .exact h.mono a
def Pq(a:G.le G')(hf:kX ns G G' sh ks)(hl:∀(s:Nat)(cells:List AV),sh[s]?=some (some cells)->cells.all a9=true)
     (c:a9 x=true->∀s∈iv x,s∈ks) (h:aD (num ns) G x v):aD (num ns) G' (rY sh x) v:=by
 unfold rY;split
 .exact h.mono a
 .split
  .rename_i b;exact qh a hf hl (c b) h
  .exact h.mono a
def yR(a:G.le G')(hf:kX ns G G' sh ks)(hl:∀(s:Nat)(cells:List AV),sh[s]?=some (some cells)->cells.all a9=true):
   ∀{cs:List AV}{vs:List Value},(∀s∈iv (.agg cs),s∈ks)->aA (num ns) G cs vs->aA (num ns) G' (cs.map (rY sh)) vs
 |[],vs,_,h=>by simpa[aA]using h
 |c::cs,vs,b,h=>by
  simp only[aA]at h;obtain⟨v,r,e,e1,e2⟩:=h;simp only[zan,aA];refine⟨v,r,e,Pq a hf hl (fun d s hs=>b s ?_) e1,yR a hf hl (fun s hs=>b s ?_) e2⟩
  .simp only[iv,zaq,zae];left;cases c<;>simp_all[iv,a9]
  .simp only[iv,zaq,zae]at hs⊢;exact .inr hs
def Pr(a:G.le G')(hf:kX ns G G' sh ks)(hl:∀(s:Nat)(cells:List AV),sh[s]?=some (some cells)->cells.all a9=true)
     (b:∀s∈iv x,s∈ks) (h:aD (num ns) G x v):aD (num ns) G' (nG sh x) v:=by
 unfold nG;split
 .exact h.mono a
 .exact h.mono a
 .simp only[aD]at h⊢;obtain⟨vs,e,r⟩:=h;exact⟨vs,e,yR a hf hl b r⟩
 .exact qh a hf hl b h
def qi{F:Sh->AV->AV}(hF:∀{x:AV}{v:Value},(∀s∈iv x,s∈ks)->aD (num ns) G x v->aD (num ns) G' (F sh x) v):
   ∀{xs:List AV}{vs:List Value},(∀s∈xs.flatMap iv,s∈ks)->aA (num ns) G xs vs->aA (num ns) G' (xs.map (F sh)) vs
 |[],vs,_,h=>by simpa[aA]using h
 |x::xs,vs,a,h=>by
  simp only[aA]at h;obtain⟨v,r,e,e1,e2⟩:=h;simp only[zaq,zae]at a;simp only[zan,aA];exact⟨v,r,e,hF (fun s hs=>a s (.inl hs)) e1,qi hF (fun s hs=>a s (.inr hs)) e2⟩
def HP{a6 L:Bool}(a:G.le G')(hf:kX ns G G' sh ks)(hl:∀(s:Nat)(cells:List AV),sh[s]?=some (some cells)->cells.all a9=true)
     (c:∀s∈xs.flatMap iv,s∈ks) (h:aA (num ns) G xs vs):aA (num ns) G' (cI a6 L sh xs) vs:=by
 unfold cI;split
 .split
  .exact aA.mono a h
  .exact qi (Pr a hf hl) c h
 .exact qi (qh a hf hl) c h
def HQ(h:aA (num ns) G xs vs):dU (num ns) G xs (if h:vs.toArray.size=1 then vs.toArray[0]else .tuple vs.toArray):=by
 unfold dU;split
 .rename_i r;simp only[aA]at h;obtain⟨v,a,e,e1,e2⟩:=h;subst e2;subst e;simpa using e1
 .rename_i hn;have hl:=h.length;rw[dif_neg]
  .exact⟨vs,rfl,h⟩
  .intro e;simp at e;rw[e]at hl;cases xs with
   |nil=>simp at hl
   |cons x xs=>
    cases xs with
    |nil=>exact hn x rfl
    |cons _ _=>simp at hl
end
mutual
theorem wC{ρ:bV}{G G':Gh}{n:Nat}(hK:G.K.le G'.K)(hs:∀s b,s<n->G.sm s=some b->G'.sm s=some b):∀{x:AV}{v:Value},bU x=true->aN n x=true->aD ρ G x v->aD ρ G' x v
 | .pv p,_,_,_,h=>by simp only[aD]at h⊢;exact h.mono hK
 | .aL s o,_,_,hr,h=>by simp[aN]at hr;simp only[aD]at h⊢;obtain⟨b,e,r⟩:=h;exact⟨b,hs _ _ hr e,r⟩
 | .bl s _ n _,_,_,hr,h=>by simp[aN]at hr;simp only[aD]at h⊢;obtain⟨b,c,e,r⟩:=h;exact⟨b,c,hs _ _ hr e,r⟩
 | .iN,_,_,_,h=>by simpa only[aD]using h
 | .kH s,_,_,hr,h=>by simp[aN]at hr;simp only[aD]at h⊢;obtain⟨b,e,r⟩:=h;exact⟨b,hs _ _ hr e,r⟩
 | .rT ..,_,hp,_,_=>by simp[bU]at hp
 | .gA _,_,_,_,h=>by simp only[aD]at h
 | .fn g cap,_,hp,hr,h=>by
  simp only[bU]at hp;simp only[aN]at hr;simp only[aD]at h⊢;obtain⟨f,vs,e1,e2,r⟩:=h;exact⟨f,vs,e1,e2,sF hK hs hp hr r⟩
 | .un,_,hp,_,_=>by simp[bU]at hp
 | .dm _,_,_,_,h=>by simp only[aD]at h⊢;obtain⟨b,l,e,r⟩:=h;exact⟨b,l,e,r.mono hK⟩
 | .own _ _,_,hp,_,_=>by simp[bU]at hp
 | .agg _,_,hp,hr,h=>by
  simp only[bU]at hp;simp only[aN]at hr;simp only[aD]at h⊢;obtain⟨vs,e,r⟩:=h;exact⟨vs,e,sF hK hs hp hr r⟩
 | .rQ _,_,hp,_,_=>by simp[bU]at hp
 | .au _ _,_,hp,_,_=>by simp[bU]at hp
 | .et _,_,hp,_,_=>by simp[bU]at hp
theorem sF{ρ:bV}{G G':Gh}{n:Nat}(hK:G.K.le G'.K)(hs:∀s b,s<n->G.sm s=some b->G'.sm s=some b):∀{xs:List AV}{vs:List Value},bU.ji xs=true->aN.cN n xs=true->aA ρ G xs vs->aA ρ G' xs vs
 |[],_,_,_,h=>by simpa only[aA]using h
 |x::xs,_,hp,hr,h=>by
  simp only[bU.ji,zaj]at hp;simp only[aN.cN,zaj]at hr;simp only[aA]at h⊢;obtain⟨v,r,e,e1,e2⟩:=h;exact⟨v,r,e,wC hK hs hp.1 hr.1 e1,sF hK hs hp.2 hr.2 e2⟩
end
section
variable {P:Program} {ns:Names} {G:Gh} {w:World}
variable{ρ:bV}{G':Gh}{n D k:Nat}{v:Value}{mem:List (Nat×List AV)}{sh sh':Sh}{ts aa ts':aH}{fn:Func}{orc:fQ}{A:nA}{a6:Bool}{af:aw}{args:List AV}{AP:Nat->Option aw}
def wD(hK:G.K.le G'.K)(hs:∀s b,s<n->G.sm s=some b->G'.sm s=some b)(ht:∀τ t,G.tk τ=some t->G'.tk τ=some t):∀{xs:List AV}{vs:List Value},gF xs=true->aN.cN n xs=true->aA ρ G xs vs->aA ρ G' xs vs
 |[],_,_,_,h=>by simpa only[aA]using h
 |x::xs,_,hp,hr,h=>by
  simp only[gF,zaj]at hp;simp only[aN.cN,zaj]at hr;simp only[aA]at h⊢;obtain⟨v,r,e,e1,e2⟩:=h;refine⟨v,r,e,?_,wD hK hs ht hp.2 hr.2 e2⟩;cases x with
  |own l τ=>
   simp only[aD]at e1⊢;obtain⟨t,f,d,c,a⟩:=e1;exact⟨t,ht _ _ f,d,c.mono hK,fun hl=>⟨(a hl).1,Sz (a hl).2 fun⟨b,o,e,r⟩=>⟨b,o,e,Row.mono hK _ _ _ _ r⟩⟩⟩
  |_=>exact wC hK hs (show bU _=true from hp.1) hr.1 e1
def MK(hK:G.K.le G'.K)(hs:∀s b,s<n->G.sm s=some b->G'.sm s=some b)(ht:∀τ t,G.tk τ=some t->G'.tk τ=some t){x:AV}(hp:bQ x=true)(hr:aN n x=true)(h:aD ρ G x v):aD ρ G' x v:=by
 cases x with
 |own l τ=>
  simp only[aD]at h⊢;obtain⟨t,e1,e2,e3,e4⟩:=h;exact⟨t,ht _ _ e1,e2,e3.mono hK,fun hl=>⟨(e4 hl).1,Sz (e4 hl).2 fun⟨b,o,e,r⟩=>⟨b,o,e,Row.mono hK _ _ _ _ r⟩⟩⟩
 |agg cs=>
  simp only[aN]at hr;simp only[aD]at h⊢;obtain⟨vs,e,r⟩:=h;exact⟨vs,e,wD hK hs ht (by simpa[bQ]using hp) hr r⟩
 |_=>exact wC hK hs (show bU _=true from hp) hr h
def qj(hK:G.K.le G'.K)(hs:∀s b,s<n->G.sm s=some b->G'.sm s=some b)(ht:∀τ t,G.tk τ=some t->G'.tk τ=some t):∀{xs:List AV}{vs:List Value},xs.all bQ=true->xs.all (aN n)=true->aA ρ G xs vs->aA ρ G' xs vs
 |[],_,_,_,h=>by simpa only[aA]using h
 |x::xs,_,hp,hr,h=>by
  simp only[za1,zaj]at hp hr;simp only[aA]at h⊢;obtain⟨v,r,e,e1,e2⟩:=h;exact⟨v,r,e,MK hK hs ht hp.1 hr.1 e1,qj hK hs ht hp.2 hr.2 e2⟩
def Gh.bare(G:Gh):Gh:={G with pm:=fun _=>none,role:=fun b=>match G.role b with| .nO _=>.eM|r=>r}
def Inv.bare(hi:Inv (num ns) G w mem sh ts):Inv (num ns) G.bare w [] sh ts where
 known:=hi.known
 bn:=fun b o v i=>by
  rcases hi.bn b o v i with h|⟨τ,h⟩
  .exact .inl (by simp[Gh.bare,h])
  .exact .inr ⟨τ,by simp[Gh.bare,h]⟩
 fresh:=fun b f=>by simp[Gh.bare,hi.fresh b f]
 dz:=fun d cells h=>by simp[look]at h
 jJ:=fun d b h=>by simp[Gh.bare]at h
 eD:=fun s cells hs=>by
  obtain⟨b,e1,e2,e3,e4⟩:=hi.eD s cells hs;obtain⟨hr,o,j,a⟩:=e2;exact⟨b,e1,⟨by simp[Gh.bare,hr],o,j,a.to (fun _ _ _ h=>h) (fun _ e=>e) (fun _ r=>kY (G:=G) (G':=G.bare) (bA.le_refl _) (fun _ _ h=>h) (fun _ _ h=>h) (kr e3) r)⟩,e3,e4⟩
 ix:=hi.ix
 dO:=fun τ n h=>by
  obtain⟨t,e1,e2,e3⟩:=hi.dO τ n h;refine⟨t,e1,e2,e3.cap,e3.zero,fun g=>?_⟩;obtain⟨b,o,c,ty,f1,f2,f3,k,f5⟩:=e3.spare g;exact⟨b,o,c,ty,f1,by simp[Gh.bare,f2],f3,k,f5⟩
 iE:=hi.iE
 py:=fun b c f=>⟨by simp[Gh.bare,(hi.py b c f).1],(hi.py b c f).2⟩
def Gh.pI(G:Gh)(n:Nat):Gh:={G with sm:=fun s=>if s<n then G.sm s else none}
def Inv.pI(hi:Inv (num ns) G w [] sh ts)(n:Nat):Inv (num ns) (G.pI n) w [] (sh.take n) ts where
 known:=hi.known
 bn:=hi.bn
 fresh:=hi.fresh
 dz:=fun d cells h=>by simp[look]at h
 jJ:=hi.jJ
 eD:=fun s cells hs=>by
  rw[zbG]at hs;split at hs
  .rename_i c;obtain⟨b,e1,e2,e3,e4⟩:=hi.eD s cells hs;obtain⟨hr,o,g,a⟩:=e2;exact⟨b,by simp[Gh.pI,c,e1],⟨hr,o,g,a.to (fun _ _ _ h=>h) (fun _ e=>e) (fun _ r=>qj (G:=G) (G':=G.pI n) (n:=s+1) (bA.le_refl G.K) (fun s' i f h=>by simp only[Gh.pI];rw[zai (by omega)];exact h) (fun _ _ h=>h) (kr e3) e4 r)⟩,e3,e4⟩
  .simp at hs
 ix:=fun s b h=>by
  simp only[Gh.pI]at h;split at h
  .have:=hi.ix s b h;simp;omega
  .simp at h
 dO:=fun τ n h=>by
  obtain⟨t,e1,e2,e3⟩:=hi.dO τ n h;exact⟨t,e1,e2,e3.cap,e3.zero,e3.spare⟩
 iE:=hi.iE
 py:=hi.py
def Inv.shut{l:Option (List Deferred)}(hi:Inv (num ns) G w mem sh aa)(e:w.heap[D]?=some (.deferred l)):
   Inv (num ns) G (w.putObj D (.deferred none)) mem sh aa:=by
 have a:∀{b:Nat}{c:Array Value}{t:TypeId},w.heap[b]?=some (.cells c t (0,0))->(w.putObj D (.deferred none)).heap[b]?=some (.cells c t (0,0)):=by
  intro b c t h;rw[zaL]
  .exact h
  .rintro rfl;rw[e]at h;cases h
 have f:(w.putObj D (.deferred none)).heap.size=w.heap.size:=by simp[World.putObj]
 refine {hi with known:=?_,fresh:=?_,dz:=?_,eD:=?_,dO:=?_,py:=?_}
 .intro b o v d;have h:=hi.known b o v d;rw[<-h];have:b≠D:=by rintro rfl;simp[World.cell?,e]at h
  simp only[World.cell?,zaL this]
 .intro b i;exact hi.fresh b (by omega)
 .intro k cs d;obtain⟨b,e1,⟨e2,c,t,e3,e4⟩,e5⟩:=hi.dz k cs d;exact⟨b,e1,⟨e2,c,t,a e3,e4⟩,e5⟩
 .intro k cs d;obtain⟨b,e1,⟨e2,o,e3,e4⟩,e5⟩:=hi.eD k cs d;refine⟨b,e1,⟨e2,o,?_,e4⟩,e5⟩;rw[zaL]
  .exact e3
  .rintro rfl
   rw[e]at e3;cases e3;rcases e4 with⟨_,_,_,_,h,_⟩|⟨_,_,_,h,_⟩<;>cases h
 .intro τ n hn;obtain⟨t,e1,e2,e3⟩:=hi.dO τ n hn;refine⟨t,e1,e2,e3.cap,e3.zero,fun g=>?_⟩;obtain⟨b,o,c,ty,f1,f2,f3,j,f5⟩:=e3.spare g;exact⟨b,o,c,ty,f1,f2,a f3,j,f5⟩
 .intro b c i;obtain⟨h1,t',z,h2⟩:=hi.py b c i;refine⟨h1,t',z,?_⟩;rw[zaL]
  .exact h2
  .rintro rfl;rw[e]at h2;cases h2
def bZ.shut{W:World}(a:bZ G w G' W)(d:w.heap.size<=D):bZ G w G' (W.putObj D (.deferred none)):=
 { a with
  size:=by simpa[World.putObj]using a.size
  os:=by simpa[World.putObj]using a.os
  tape:=by simpa[World.putObj]using a.tape
  output:=by simpa[World.putObj]using a.output
  eM:=fun b c hr=>by
   obtain⟨h1,h2⟩:=a.eM b c hr;exact⟨h1,by rw[zaL (by omega)];exact h2⟩}
def tV{u:Array Value}{y:Ending->World->Prop}:∀(Ds:List Nat)(w':World),Inv (num ns) G' w' mem sh aa->bZ G w G' w'->Ds.Nodup->
   (∀D∈Ds,w.heap.size<=D/\w'.heap[D]?=some (.deferred (some [])))->
   (∀a,Inv (num ns) G' a mem sh aa->bZ G w G' a->∃v,(results fn u).run P a=.ok v a/\y (.returned v) a)->
   LeavesInM Fence.wide 0 P fn u y (Ds.map (fun D=>{target:=.collected D,args:=#[]})) .returning w'
 |[],w',hi,b,_,_,h=>h w' hi b
 |D::Ds,w',hi,b,hn,d,h=>by
  obtain⟨h1,h2⟩:=d D (by simp);refine⟨by simp,.inl ⟨D,_,rfl,run_takeDeferred h2,?_⟩⟩;simp only[zcn]at hn;refine tV Ds _ (hi.shut h2) (b.shut h1) hn.2 (fun E c=>?_) h;obtain⟨g1,g2⟩:=d E (by simp[c]);refine⟨g1,?_⟩;rw[zaL]
  .exact g2
  .rintro rfl;exact hn.1 c
def wE(hm:P.follows .mixedOrders=true)(hB:jo P ns)(Y:uQ P ns)(L:lH P ns orc){f:Nat}(hf:P.funcs[f]?=some fn)(M:s8 P ns A fn=some af)
   {rs:List AV} {vs:List Value}   (hi:Inv (num ns) G w [] sh ts) (hr:aA (num ns) G args vs) (hN:args.length<=af.ntmps) (h:cE orc k a6 af args sh ts=some (rs,sh',ts')):
   (Calls P f vs.toArray w fun e w'=>∃v G',e=.returned v/\dU (num ns) G' rs v/\Inv (num ns) G' w' [] sh' ts'/\bZ G w G' w')/\rs.all bQ=true:=by
 unfold s8 at M;split at M
 .rename_i c a1 wv iQ;simp only[zab,zac]at M;obtain⟨_,ac,X,rfl⟩:=M;unfold cE at h;split at h
  .rename_i e st W;simp only[zab]at h;obtain⟨he,h⟩:=h;split at h
   .rename_i xs S;simp only[zab]at h;obtain⟨j,h⟩:=h;let g:=A.ks;let i:Sh:=gq a6 g st.sh xs;let VN:Sh:=if(cI a6 g st.sh xs).all (aN sh.length)=true then i.take sh.length else i;have h:some ((cL st.aa (cI a6 g st.sh xs) VN).1,(cL st.aa (cI a6 g st.sh xs) VN).2.1,(cL st.aa (cI a6 g st.sh xs) VN).2.2.2)=some (rs,sh',ts'):=h;simp only[zag,zaw]at h;obtain⟨I,T,tF⟩:=h;have x:rs.all bQ=true:=by rw[<-I];exact jO j
    refine⟨?_,x⟩;refine callsIn_wide (n:=0).1 (callsIn_of_wp_marks hf wv trivial ?_ rfl);have U:iU (num ns) w.heap.size fn.ntmps G {env:=bY 0 args,mem:=[],sh,aa:=ts} {tmps:=vs.toArray++Array.replicate (fn.ntmps-vs.toArray.size) undef,defers:=[]} w:=⟨Pp hr hN,hi,zal _,[],rfl,by simp,by simp⟩;refine i4 (ro:=none) hm hB L Y X (.inl rfl) W U fun G' N Z r B=>?_
    have key:LeavesInM Fence.wide 0 P fn N.tmps (fun e w'=>∃v G',e=.returned v/\dU (num ns) G' rs v/\Inv (num ns) G' w' [] sh' ts'/\bZ G w G' w') N.defers .returning Z:=by
     obtain⟨m0,Ds,m1,m2,m3⟩:=r.marks;rw[m1];refine tV Ds Z r.inv B m2 (fun D hD=>⟨(m3 D hD).1,(m3 D hD).2.2.2⟩) ?_;intro w' V z;have u:iU (num ns) w.heap.size fn.ntmps G' st {tmps:=N.tmps,defers:=[]} w':=⟨⟨r.env.size,r.env.env⟩,V,z.size,[],rfl,by simp,by simp⟩;obtain⟨us,u1,u2⟩:=tU (P:=P) u (F:=fun| .tmp t=>pure (N.tmps.getD t undef)| .cell ad t=>do loadVar t (<-asAddr (N.tmps.getD ad undef))) (fun _=>rfl) (fun _ _=>rfl) iQ S;refine⟨(if h:us.toArray.size=1 then us.toArray[0]else .tuple us.toArray),?_,?_⟩
     .unfold results;rw[zdp];simp only[zav,Sem.run_map]
      erw [u1]
      rfl
     .obtain⟨G1,R,k2,Q,J⟩:∃G1,Inv (num ns) G1 w' st.mem i st.aa/\G'.le G1/\bZ G' w' G1 w'/\aA (num ns) G1 (cI a6 g st.sh xs) us:=by
       by_cases p:(a6 && g)=true
       .refine⟨G',?_,Gh.le_refl _,bZ.refl _ _,?_⟩
        .have:i=st.sh:=by simp only[i,gq,p,za4]
         rw[this];exact u.inv
        .have:cI a6 g st.sh xs=xs:=by
          simp only[zaj]at p;simp only[cI,p.1,p.2,za4]
         rw[this];exact u2
       .obtain⟨G1,R,k2,Q,k4,k5⟩:=Inv.kill (xs.flatMap iv) u.inv;refine⟨G1,?_,k2,Q,HP (a6:=a6) k2 k4 u.inv.Aa (fun s hs=>hs) u2⟩
        have:i=fu st.sh xs:=by
         simp only[i,gq];rw[zad p]
        rw[this];exact R
      have q:=kY (G:=G1) (G':=G1.bare) (bA.le_refl _) (fun _ _ h=>h) (fun _ _ h=>h) j J;have C:=R.bare;have d:=z.trans Q
      obtain⟨G2,i2,r2,e2⟩:∃G2,Inv (num ns) G2 w' [] VN st.aa/\aA (num ns) G2 (cI a6 g st.sh xs) us/\bZ G w G2 w':=by
       have a:bZ G w G1.bare w':={
         size:=d.size,os:=d.os,tape:=d.tape,output:=d.output,K:=d.K,sm:=d.sm,
         eM:=fun b O hr=>⟨by simp[Gh.bare,(d.eM b O hr).1],(d.eM b O hr).2⟩
         kL:=fun b τ O hr=>by
          rcases d.kL b τ O hr with h|⟨τ',h⟩
          .exact .inl (by simp[Gh.bare,h])
          .exact .inr ⟨τ',by simp[Gh.bare,h]⟩
         jK:=d.jK}
       by_cases o:(cI a6 g st.sh xs).all (aN sh.length)=true
       .have l:VN=i.take sh.length:=zai o;rw[l];refine⟨G1.bare.pI sh.length,C.pI sh.length,qj (G:=G1.bare) (G':=G1.bare.pI sh.length) (n:=sh.length) (bA.le_refl _) (fun s b hs h=>by simp only[Gh.pI];rw[zai hs];exact h) (fun _ _ h=>h) j o q,?_⟩
        exact { size:=a.size,os:=a.os,tape:=a.tape,output:=a.output,K:=a.K,
                sm:=fun s b H=>by
                 have:=hi.ix s b H;show(if s<sh.length then G1.sm s else none)=some b;rw[zai this];exact a.sm s b H
                eM:=a.eM,kL:=a.kL,jK:=a.jK}
       .have l:VN=i:=zad o;rw[l];exact⟨G1.bare,C,q,a⟩
      obtain⟨m,tks,a0,E,y⟩:=i2.Ki j r2;rw[I]at y;rw[T,tF]at E;exact⟨_,G2.to m tks,rfl,HQ y,E,e2.to m tks⟩
    cases e with
    |normal=>exact key
    |ret=>exact key
    |exit id=>simp at he
   .simp at h
  .simp at h
 .simp at M
def yh{xs:List AV}(h:cE orc k a6 af args sh ts=some (xs,sh',ts')):xs.all bQ=true:=by
 unfold cE at h;split at h
 .split at h
  .split at h
   .simp only[zab]at h;obtain⟨hp,h⟩:=h;have e:=zcp Prod.fst (zdc h);dsimp only at e;rw[<-e];exact jO hp
   .simp at h
  .simp at h
 .simp at h
structure Impl(P:Program)(ns:Names)(AP:Nat->Option aw):Prop where
 mixed:P.follows .mixedOrders=true
 funcs:∀f g,ns.of f=some g->(∃fn A af,P.funcs[f]?=some fn/\s8 P ns A fn=some af/\AP g=some af)\/
   ((∃fn b,P.funcs[f]?=some fn∧fn.body=some b∧fn.name ≠ "runtime.NumGoroutine") ∧
     (AP g=none\/∃af pf,AP g=some af/\af.rX=some pf/\af.body=.exit 0/\∀orc,lH P ns orc->∀eE rs,pf.f orc.p eE=some rs->VO P ns f eE rs))
 IK:uQ P ns
 XY:∀g sz bytes f,look ns.cl g=some (sz,bytes)->ns.of f=some g->Nonempty (mm P ns f sz bytes)
def Impl.Ps(h:Impl P ns AP):jo P ns:=by
 intro f g a;rcases h.funcs f g a with⟨fn,A,af,h1,h2,_⟩|⟨⟨fn,b,h1,h2,h3⟩,_⟩
 .unfold s8 at h2;split at h2
  .rename_i b rs c _;simp only[zab]at h2;obtain⟨⟨_,hn⟩,_⟩:=h2;exact⟨fn,b,h1,c,by simpa using hn⟩
  .simp at h2
 .exact⟨fn,b,h1,h2,h3⟩
def HS(h:s8 P ns A fn=some af):af.rX=none:=by
 unfold s8 at h;split at h
 .simp only[zab,zac]at h;obtain⟨_,_,_,rfl⟩:=h;rfl
 .simp at h
def wF:∀{rs:List AV}{ps:List PV},gi rs=some ps->rs=ps.map .pv
 |[],ps,h=>by simp[gi]at h;subst h;rfl
 |x::rs,ps,h=>by
  cases x with
  |pv p=>
   simp only[gi,zac]at h;obtain⟨a,h1,rfl⟩:=h;simp[wF h1]
  |_=>simp[gi]at h
def tX:∀{ps:List PV}{vs:List Value},aA (num ns) G (ps.map .pv) vs->mL G.K ps vs
 |[],vs,h=>by simp only[zbc,aA]at h;exact h
 |p::ps,vs,h=>by
  simp only[zan,aA]at h;obtain⟨v,r,e,e1,e2⟩:=h;simp only[aD]at e1;exact⟨v,r,e,e1,tX e2⟩
def ML{I:List PV}(h:dU (num ns) G (I.map .pv) v):nV G.K I v:=by
 unfold nV;split
 .rename_i p;simp only[zan,zbc,dU,aD]at h;exact h
 .rename_i hn;unfold dU at h;split at h
  .rename_i r e;cases I with
   |nil=>simp at e
   |cons q a=>
    cases a with
    |nil=>exact absurd rfl (hn q)
    |cons _ _=>simp at e
  .obtain⟨vs,e,h⟩:=h;exact⟨vs,e,tX h⟩
def yS(i:Impl P ns AP)(k:Nat):∀n,lH P ns (run AP k n)
 |0=>⟨fun g f eE rs _ h=>by simp[run]at h,fun g f args ts rs sh sh' ts' _ _ h=>by simp[run]at h,fun g sz y f h1 h2=>(i.XY g sz y f h1 h2).elim DA⟩
 |n+1=>by
  have p:=yS i k n;refine⟨fun g f eE rs x h=>?_,fun g f args ts rs sh sh' ts' x hp h=>?_,p.c⟩
  .rcases i.funcs f g x with⟨fn,A,af,h1,h2,h3⟩|⟨_,h3|⟨af,pf,h3,h4,_,h5⟩⟩
   .simp only[run,h3,HS h2,zab]at h;obtain⟨⟨_,hN⟩,h⟩:=h;split at h
    .rename_i xs z j;obtain⟨sh',ts'⟩:=z;have q:=wF h;subst q;intro K w vs l hK hr;let m:Gh:={K,role:=fun _=>.eM,pm:=fun _=>none,sm:=fun _=>none,tk:=fun _=>none}
     have hi:Inv (num ns) m w [] [] []:={
       known:=hK,bn:=fun _ _ _ _=>.inl rfl,fresh:=fun _ _=>rfl,dz:=fun d c h=>by simp[look]at h,jJ:=fun d b h=>by simp[m]at h,
       eD:=fun s c h=>by simp at h,ix:=fun s b h=>by simp[m]at h,dO:=fun τ n h=>by simp at h,iE:=fun τ t h=>by simp[m]at h,py:=fun b c j=>⟨rfl,l b c j⟩}
     have hC:=(wE i.mixed i.Ps i.IK p h1 h2 hi (jB (ρ:=num ns) (G:=m) hr) (by simpa using hN) j).1;refine hC.mono ?_
     rintro e w' ⟨v,G',rfl,iQ,r,a⟩
     refine⟨v,G'.K,rfl,ML iQ,a.K,fun b o u j B=>a.jK b o u j rfl B,r.known,⟨a.os,a.tape,a.output,a.size,fun b j=>(a.eM b j rfl).2⟩⟩
    .simp at h
   .simp only[run,h3]at h;cases h
   .simp only[run,h3,h4]at h;exact h5 _ p _ _ h
  .rcases i.funcs f g x with⟨fn,A,af,h1,h2,h3⟩|⟨_,h3|⟨af,pf,h3,_,h4,_⟩⟩
   .simp only[run,h3,zab]at h;obtain⟨hN,h⟩:=h;exact⟨fun G w vs hi hr=>(wE i.mixed i.Ps i.IK p h1 h2 hi hr hN h).1,yh h⟩
   .simp only[run,h3]at h;cases h
   .simp only[run,h3,zab]at h;obtain⟨_,h⟩:=h;unfold cE at h;rw[h4]at h;simp[cT]at h
end
def wG:Code->List (Nat×Array Oper)
 | .region id ops _=>[(id,ops)]
 | .seq a b| .cond _ a b| .rangeFunc _ _ a b=>wG a++wG b
 | .block _ c| .loop c| .scope c=>wG c
 |_=>[]
def oh:Code->List Nat
 | .seq a b| .cond _ a b| .rangeFunc _ _ a b=>oh a++oh b
 | .block i c=>i::oh c
 | .loop c| .scope c=>oh c
 |_=>[]
def oi(fn:Func):Code:=match fn.body with|some c=>c|none=>.skip
def q_(fn:Func)(i:Nat):Array Oper:=match(wG (oi fn))[i]? with|some (_,o)=>o|none=>#[]
def iM(fn:Func)(i:Nat):Nat:=match(wG (oi fn))[i]? with|some (n,_)=>n|none=>0
def uS(fn:Func)(i:Nat):Nat:=match(oh (oi fn))[i]? with|some n=>n|none=>0
def bH(fn:Func)(i j:Nat):Oper:=match(q_ fn i).toList[j]? with|some o=>o|none=>default
def typesOf(o:Oper):Array TypeId:=match o.op with| .call c=>c.argTypes|_=>#[]
def Pt(o:Oper):TypeId:=match o.op with| .unOp _ t _=>t|_=>0
def i5(o:Oper):TypeId×TypeId:=match o.op with| .binOp _ t _ _ u=>(t,u)|_=>(0,0)
def XZ(P:Program)(t:TypeId):TypeId:=match P.underlying t with|some (.slice e)=>e|_=>0
open Go.ChangeShapes Go.WideShapes Go.ChangeAt Go.RowKit
def KW(w:World):bA:=fun b o=>w.cell? ⟨b,o,none⟩
def aak(w:World):KOk (KW w) w:=fun _ _ _ h=>h
def TE(S:TypeId->PV->Prop):List Field->List PV->Prop
 |[],[]=>True
 |f::fs,p::ps=>S f.type p/\TE S fs ps
 |_,_=>False
def yT(P:Program):Nat->TypeId->PV->Prop
 |0,_,_=>False
 |n+1,t,p=>match P.underlying t with
  |some .bool=>∃b,p=.bool b
  |some (.int k)=>∃i,p=.int k i/\(Lit.int k i).wf=true
  |some .string=>∃s,p=.str s/\s.length<=maxLen
  |some (.slice e)=>∃els,p=.ae els/\els.length<=maxLen/\∀q∈els,yT P n e q
  |some (.struct fs)=>∃ps:List PV,p=.agg (ps.flatMap bp)/\TE (yT P n) fs.toList ps
  |_=>False
def Pu(P:Program):Nat->List Field->Nat->Bool
 |o,[],a=>o == a
 |o,f::fs,a=>f.offset == o && Pu P (o+P.cellsOf f.type) fs a
def I7(P:Program)(T:List TypeId):Bool:=T.all fun t=>match P.underlying t with
 |some .bool|some (.int _)|some .string=>true
 |some (.slice e)=>T.contains e && decide (0<P.cellsOf e)
 |some (.struct fs)=>fs.toList.all (fun f=>T.contains f.type) && Pu P 0 fs.toList (P.cellsOf t)
 |_=>false
section
variable {H:Type} {enc:TypeId×Value->H} {P:Program} {w:World} {base:Nat} {sp:Nat->Bool} {held:Bool}
def DB{α b:Type}{f:α->Option b}:∀{l:List α}{r:List b},l.mapM f=some r->∀{i:Nat}{x:α},l[i]?=some x->∃y,r[i]?=some y/\f x=some y
 |[],_,_,i,x,hx=>by simp at hx
 |a::l,r,h,i,x,hx=>by
  simp only[zcR,Option.bind_eq_bind,zau,Option.pure_def,zag]at h;obtain⟨y,h1,c,h2,rfl⟩:=h;cases i with
  |zero=>simp at hx;subst hx;exact⟨y,by simp,h1⟩
  |succ i=>simpa using DB h2 (i:=i) (by simpa using hx)
def DC{α b:Type}{f:α->Option b}:∀{l:List α}{r:List b},l.mapM f=some r->r.length=l.length
 |[],r,h=>by simp at h;subst h;rfl
 |a::l,r,h=>by
  simp only[zcR,Option.bind_eq_bind,zau,Option.pure_def,zag]at h;obtain⟨y,h1,c,h2,rfl⟩:=h;simp[DC h2]
theorem MM{a:Addr}{n:Nat}{cs:List Value}(hn:0<n)(h:w.cells? base a n=some cs):cs.length=n/\a.spot=none/\At (KW w) a.block a.off cs:=by
 unfold World.cells? at h;split at h
 .have hl:cs.length=n:=by simpa using DC h
  have key:∀i,i<n->∃y,cs[i]?=some y/\w.cell? (a.add i)=some y:=by
   intro i hi;exact DB h (i:=i) (x:=i) (by simp[hi])
  obtain⟨f,_,h0⟩:=key 0 hn
  have b:a.spot=none:=by
   cases c:a.spot with
   |none=>rfl
   |some s=>
    simp only[Addr.add,za4,World.cell?]at h0;split at h0
    .simp[c]at h0
    .cases h0
  refine⟨hl,b,?_⟩;intro j v hj;have d:j<n:=by have:=(zaa.1 hj).1;omega
  have e:a.add j=⟨a.block,a.off+j,none⟩:=by
   unfold Addr.add;split
   .rename_i h0;subst h0;cases a;simp_all
   .rfl
  obtain⟨y,h1,h2⟩:=key j d;rw[e]at h2;rw[hj]at h1;cases h1;exact h2
 .cases h
def I8{K:bA}{S:PV->Prop}{b sz:Nat}:∀{n:Nat}{o:Nat},(∀i,i<n->∃vs q,vs.length=sz/\At K b (o+i*sz) vs/\S q/\R K true q vs)->∃els:List PV,els.length=n/\(∀q∈els,S q)/\Row K b o sz els
 |0,o,_=>⟨[],rfl,by simp,by simp only[Row]⟩
 |n+1,o,h=>by
  obtain⟨vs,q,h1,h2,h3,h4⟩:=h 0 (by omega)
  obtain⟨els,e1,e2,e3⟩:=I8 (K:=K) (S:=S) (b:=b) (sz:=sz) (n:=n) (o:=o+sz) fun i hi=>by
   obtain⟨vs,q,h1,h2,h3,h4⟩:=h (i+1) (by omega);refine⟨vs,q,h1,?_,h3,h4⟩
   rwa [show o+sz+i*sz=o+(i+1)*sz from by rw[zaG];omega]
  refine⟨q::els,by simp[e1],?_,?_⟩
  .intro x hx;simp only[zah]at hx;rcases hx with rfl|hx
   .exact h3
   .exact e2 x hx
  .simp only[Row];exact⟨⟨vs,h1,by simpa using h2,h4⟩,e3⟩
def yU{K:bA}{S:TypeId->PV->Prop}{cs:List Value}:∀{fs:List Field}{o a:Nat},Pu P o fs a=true->cs.length=a->
   (∀f∈fs,∃q,S f.type q/\R K true q ((cs.drop f.offset).take (P.cellsOf f.type)))->∃ps:List PV,TE S fs ps/\d9 K (ps.flatMap bp) (cs.drop o)
 |[],o,a,hl,c,_=>⟨[],by simp[TE],by
  simp[Pu]at hl;simp[d9];omega⟩
 |f::fs,o,a,hl,c,h=>by
  simp only[Pu,zaj,zb7]at hl;obtain⟨hf,hl⟩:=hl;obtain⟨q,h1,h2⟩:=h f (by simp);obtain⟨ps,e1,e2⟩:=yU (K:=K) (S:=S) (cs:=cs) hl c (fun d b=>h d (by simp[b]));refine⟨q::ps,⟨h1,e1⟩,?_⟩;simp only[zaq];have:=(R.cells h2).append e2;rw[hf]at this
  rwa [<-zdj,zcf]at this
variable{T:List TypeId}{r:Reach}{b0:Nat}
def wH(hT:I7 P T=true):∀(n:Nat)(t:TypeId)(cs:List Value)(x:DataW H×List MemPlace),t∈T->
   DataW.trod enc P w base sp held n t cs=some x->∃p,yT P n t p/\R (KW w) true p cs
 |0,t,cs,x,_,h=>by simp[DataW.trod]at h
 |n+1,t,cs,x,ht,h=>by
  have hp:=zas.1 hT t ht;simp only[yT];split at hp
  .rename_i hu;obtain⟨b,rfl,_⟩:=DataW.trod_bool hu h;exact⟨.bool b,by exact⟨b,rfl⟩,by simp[R]⟩
  .rename_i k hu;obtain⟨i,rfl,_,hw⟩:=DataW.trod_int hu h;exact⟨.int k i,by exact⟨i,rfl,hw⟩,by simp[R]⟩
  .rename_i hu;obtain⟨s,rfl,_,hl⟩:=DataW.trod_string hu h;exact⟨.str s.data.toList,by exact⟨_,rfl,by simpa using hl⟩,by simp[R]⟩
  .rename_i e hu;simp only[zaj,zcO,zaS]at hp;rcases DataW.trod_slice hu h with⟨rfl,_⟩|⟨a,len,cap,elems,rest,m,e0,rfl,_,_,d,y,A,c,_,_⟩
   .exact⟨.ae [],by exact⟨[],rfl,by simp,by simp⟩,by simp only[R];exact⟨none,0,0,rfl,zal _,rfl,.inl trivial⟩⟩
   .have hm:m=n:=(by omega);subst hm;by_cases h0:len=0
    .subst h0;exact⟨.ae [],by exact⟨[],rfl,by simp,by simp⟩,by simp only[R];exact⟨some a,0,cap,rfl,d,rfl,.inl trivial⟩⟩
    .have key:∀i,i<len->∃vs q,vs.length=P.cellsOf e/\(a.add (i*P.cellsOf e)).spot=none/\At (KW w) (a.add (i*P.cellsOf e)).block (a.add (i*P.cellsOf e)).off vs/\yT P m e q/\R (KW w) true q vs:=by
      intro i hi;have g:=c i hi;rw[zbf (by omega)]at g;simp only[zau]at g;obtain⟨vs,h1,h2⟩:=g;obtain⟨c1,c2,c3⟩:=MM hp.2 h1;obtain⟨q,l,j⟩:=wH hT m e vs _ hp.1 h2;exact⟨vs,q,c1,c2,c3,l,j⟩
     have r:a.spot=none:=by
      obtain⟨_,_,_,h2,_⟩:=key 0 (by omega);simpa[Addr.add]using h2
     obtain⟨els,e1,e2,e3⟩:=I8 (K:=KW w) (S:=yT P m e) (b:=a.block) (sz:=P.cellsOf e) (n:=len) (o:=a.off) fun i hi=>by
      obtain⟨vs,q,c1,c2,c3,l,j⟩:=key i hi;refine⟨vs,q,c1,?_,l,j⟩
      have:(a.add (i*P.cellsOf e)).block=a.block/\(a.add (i*P.cellsOf e)).off=a.off+i*P.cellsOf e:=by
       unfold Addr.add;split
       .rename_i h0;simp[h0]
       .exact⟨rfl,rfl⟩
      rwa [this.1,this.2]at c3
     refine⟨.ae els,by exact⟨els,rfl,by omega,e2⟩,?_⟩;simp only[R];refine⟨some a,len,cap,rfl,d,e1,.inr ⟨a.block,a.off,P.cellsOf e,?_,e3⟩⟩;cases a;simp_all
  .rename_i fs hu;simp only[zaj,zas,zcO]at hp;obtain⟨xs,m,e0,_,v,z,c⟩:=DataW.trod_struct hu h;have hm:m=n:=by omega
   subst hm
   obtain⟨ps,e1,e2⟩:=yU (K:=KW w) (S:=yT P m) (cs:=cs) hp.2 v fun f hf=>by
    obtain⟨i,hi,u⟩:=List.getElem_of_mem hf;have g:=c i f (by rw[<-Array.getElem?_toList];rw[zbf hi,u]);rw[zbf (by simp at hi;omega)]at g;exact wH hT m f.type _ _ (hp.1 f hf) g
   refine⟨.agg (ps.flatMap bp),by exact⟨ps,rfl,e1⟩,?_⟩;simp only[R];exact⟨trivial,by simpa using e2⟩
  .cases hp
def TF(hT:I7 P T=true){t:TypeId}{v:Value}{d:DataW H}{V:List MemPlace}(ht:t∈T)(f:Value.okWide P w r b0 t v)
   (h:DataW.Trod enc P w base sp held t v d V):∃n p,yT P n t p/\Rel (KW w) p v:=by
 obtain⟨n,hn⟩:=h;obtain⟨p,h1,h2⟩:=wH hT n t _ _ ht hn;refine⟨n,p,h1,?_⟩;have hp:=zas.1 hT t ht;cases n with
 |zero=>simp[yT]at h1
 |succ n=>
  simp only[yT]at h1;simp only[Value.okWide]at f;split at hp
  .rename_i hu;rw[hu]at h1 f;obtain⟨b,rfl⟩:=h1;simp only[Cell.okWide,hu,Cell.ok]at f;cases v<;>simp_all[Value.cells,R,Rel]
  .rename_i k hu;rw[hu]at h1 f;obtain⟨b,rfl,_⟩:=h1;simp only[Cell.okWide,hu,Cell.ok]at f;cases v<;>simp_all[Value.cells,R,Rel]
  .rename_i hu;rw[hu]at h1 f;obtain⟨b,rfl,_⟩:=h1;simp only[Cell.okWide,hu,Cell.ok]at f;cases v<;>simp_all[Value.cells,R,Rel]
  .rename_i e hu;rw[hu]at h1 f;obtain⟨b,rfl,_⟩:=h1;simp only[Cell.okWide,hu,Cell.ok]at f;cases v with
   |slice a l c=>
    simp only[R]at h2;simp only[Rel,R];simpa[Value.cells]using h2
   |agg cs=>simp at f
   |_=>simp_all[Value.cells,R]
  .rename_i fs hu;rw[hu]at h1 f;obtain⟨b,rfl,_⟩:=h1;obtain⟨cs,rfl,_⟩:=f;simp only[Value.cells,R]at h2;exact⟨cs.toList,by simp,h2.2⟩
  .cases hp
def MN(P:Program):List TypeId->List PV->Prop
 |[],[]=>True
 |t::ts,p::ps=>(∃n,yT P n t p)/\MN P ts ps
 |_,_=>False
def DD(hT:I7 P T=true):∀{ts:List TypeId}{vs:List Value}{ds:List (DataW H)}{ps:List MemPlace},(∀t∈ts,t∈T)->
   (∀(j:Nat) t v,ts[j]?=some t->vs[j]?=some v->Value.okWide P w r b0 t v)->DataW.TrodAll enc P w base sp held ts vs ds ps->∃eE,MN P ts eE/\mL (KW w) eE vs/\ds.length=ts.length
 |[],vs,ds,ps,_,_,h=>by
  obtain⟨rfl,rfl,rfl⟩:=trodAll_nil h;exact⟨[],by simp[MN],by simp[mL],rfl⟩
 |t::ts,vs,ds,ps,tF,c,h=>by
  obtain⟨v,a,d,e,p,q,rfl,rfl,rfl,h1,h2⟩:=trodAll_cons h;obtain⟨n,pv,k,i⟩:=TF hT (tF t (by simp)) (c 0 t v (by simp) (by simp)) h1;obtain⟨eE,b1,g,f⟩:=DD hT (fun t ht=>tF t (by simp[ht])) (fun j t v hj b=>c (j+1) t v (by simpa using hj) (by simpa using b)) h2;exact⟨pv::eE,⟨⟨n,k⟩,b1⟩,⟨v,a,rfl,i,g⟩,by simp[f]⟩
def wI{W W':World}(hl:laidOutB P=true)(b:Below W.heap.size W W'):∀{ts:List TypeId}{vs:List Value}{ds:List (DataW H)}{ps:List MemPlace},(∀t∈ts,P.readableRec t=true/\t<P.types.size)->
   DataW.TrodAll enc P W 0 (fun _=>true) true ts vs ds ps->(∀x∈ps,x.block<W.heap.size)->∀{sp:Nat->Bool},(∀x∈ps,sp x.block=true)->DataW.TrodAll enc P W' 0 sp true ts vs ds ps
 |[],vs,ds,ps,_,h,_,_,_=>by
  obtain⟨rfl,rfl,rfl⟩:=trodAll_nil h;exact trodAll_mk0
 |t::ts,vs,ds,ps,tF,h,a,sp,hs=>by
  obtain⟨v,c,d,e,p,q,rfl,rfl,rfl,h1,h2⟩:=trodAll_cons h;refine trodAll_cons_mk ?_ (wI hl b (fun t ht=>tF t (by simp[ht])) h2 (fun x hx=>a x (by simp[hx])) (fun x hx=>hs x (by simp[hx])));exact WideElems.Trod_stays hl (tF t (by simp)).1 (tF t (by simp)).2 h1 (fun x hx=>b.same (a x (by simp[hx]))) (fun x hx=>hs x (by simp[hx]))
end
variable{H:Type}{P:Program}{s:ChangeSpec}
def MO{enc:TypeId×Value->H}{f:Func}{a6 L e g:Bool}{W W':World}{u:Array Value}{v:Value}{ds k:List (DataW H)}{V:List MemPlace}
   (l:DataW.Whole enc P f.params.toList s.vars a6 W u.toList ds k V)
   (iQ:∀(b:Nat)(sp:Nat->Bool)(hd:Bool),DataW.TrodAll enc P W' b sp hd f.resultTypes.toList (v.resultList f.resultTypes.size) (s.fn H (ds++k)).results [])
   (d:∀sp:Nat->Bool,(∀p∈V,sp p.block=true)->DataW.TrodAll enc P W' 0 sp true f.params.toList u.toList (s.fn H (ds++k)).args V)
   (c:∀sp:Nat->Bool,DataW.TrodVars enc P W' sp s.vars (s.fn H (ds++k)).vars []) (n:Below W.heap.size W W')
   (m:∀(j:Nat)(t:TypeId)(r:Value),f.resultTypes[j]?=some t->(v.resultList f.resultTypes.size)[j]?=some r->Value.okWide P W' .any 0 t r):
   s.post enc P f a6 L e g W u v W':=by
 have i:∀p∈V,p.block<W.heap.size:=fun p hp=>by simpa using l.lt p hp
 have h:∀p∈V,(fun b=>decide (b<W.heap.size)) p.block=true:=fun p hp=>by simpa using i p hp
 refine⟨ds,k,V,[],V,[],l,iQ _ _ _,d _ h,c _,World.keptBut_mono (fun p hp=>⟨hp,.inr (.inl hp)⟩) (n.frame _),fun _=>⟨m,_,_,([]++V)++[],⟨[]++V,[],trodAll_append (d _ (fun _ _=>rfl)) (iQ _ _ _),c _,rfl,?_,?_⟩,?_⟩⟩
 .obtain⟨_,_,_,_,_,o,_⟩:=l;intro b off hp;simp only[zaQ,zaJ]at hp;rw[n.frozen (i _ hp)];exact o b off hp
 .obtain⟨_,_,_,_,_,_,hn⟩:=l;intro q;simpa using hn q
 .intro p hp _;simpa using hp
def AX{enc:TypeId×Value->H}{ns:Names}{AP:Nat->Option aw}(G:Impl P ns AP){f g:Nat}{fn:Func}{T:List TypeId}{tb:TypeId}
   (E:ns.of f=some g) (b:s.vars=[]) (iQ:fn.resultTypes=#[tb]) (l:P.underlying tb=some .bool) (hl:laidOutB P=true)
   (u:∀t∈fn.params.toList,P.readableRec t=true/\t<P.types.size) (hT:I7 P T=true) (z:∀t∈fn.params.toList,t∈T)
   (hs:∀ds:List (DataW H),ds.length=fn.params.size->s.fn H ds={results:=[.lit (.bool true)],args:=ds})
   (law:∀eE,MN P fn.params.toList eE->(aE AP).p g eE=some [.bool true])
   (W:World) (base:Nat) (args:Array Value) (ds I:List (DataW H)) (d:List MemPlace)
   (k:∀(j:Nat) t v,fn.params[j]?=some t->args[j]?=some v->Value.okWide P W .any base t v)
   (A:DataW.Whole enc P fn.params.toList s.vars false W args.toList ds I d)
   (m:aab ns.py W:=by exact fun _ c h=>(fun q:(Option.none:Option (Array Value))=Option.some c=>nomatch q) h):
   Calls P f args W fun e W'=>∃v,e=.returned v/\s.post enc P fn false true false false W args v W':=by
 have i:=A;obtain⟨p,q,C,hV,rfl,F,D⟩:=A;rw[b]at hV;obtain⟨rfl,rfl⟩:=trodVars_none hV;simp only[zaJ]at i;obtain⟨eE,h1,h2,h3⟩:=DD (r:=.any) (b0:=base) hT z (fun j t v hj y=>k j t v (by simpa using hj) (by simpa using y)) C;obtain⟨n,hn⟩:=uM (law eE h1);have hC:=(yS G n n).p g f eE _ E hn (KW W) W args.toList m (aak W) h2;rw[Array.toArray_toList]at hC;refine hC.mono ?_
 rintro e W' ⟨v,K',rfl,hr,_,_,_,B⟩
 simp only[nV,Rel,R]at hr;obtain rfl:v=.bool true:=by simpa using hr
 have w:∀x∈p,x.block<W.heap.size:=fun x hx=>by simpa using i.lt x hx
 have a:=hs ds (by simpa using h3);refine⟨_,rfl,MO i (fun _ _ _=>?_) (fun sp o=>?_) (fun _=>?_) B (ok_one iQ rfl (okWide_bool_mk l _))⟩
 .simp only[zaJ];rw[a,iQ];exact trodAll_cons_mk (p:=[]) (p':=[]) (shut_bool l _) trodAll_mk0
 .simp only[zaJ];rw[a];exact wI hl B u C w o
 .rw[b];simp only[zaJ];rw[a];rfl
end Go.Ab
namespace Go.Ab.Fc
variable {α:Type}
def fN(n:Nat)(K:Nat->Option α):Option α:=match n with
 |0=>K 0
 |m+1=>K (m+1)
variable{n k:Nat}{M:Int}{b a:Type}{p:PV}{x:AV}{st:St}{env:List (Nat×AV)}{i:IntKind}{vals args:List AV}{mem:List (Nat×List AV)}{sh:Sh}{aa ts:aH}{d:Option Nat}{op:AK}{orc:fQ}{live:List Nat}{a6:Bool}{af:aw}{AP:Nat->Option aw}{B:Nat->List PV->Option (List PV)}
def tZ{K:Nat->Option α}:fN n K=K n:=by cases n<;>rfl
def fI(n:Int)(K:Int->Option α):Option α:=match n with
 | .ofNat m=>fN m fun m=>K (.ofNat m)
 | .negSucc m=>fN m fun m=>K (.negSucc m)
def Pv{X:Int->Option α}:fI M X=X M:=by cases M<;>simp[fI,tZ]
def fB(b:Bool)(K:Bool->Option α):Option α:=match b with
 |true=>K true
 |false=>K false
def wJ{b:Bool}{K:Bool->Option α}:fB b K=K b:=by cases b<;>rfl
def fS:List b->(List b->Option α)->Option α
 |[],K=>K []
 |a::r,K=>fS r fun r=>K (a::r)
theorem DE:∀{l:List b}{K:List b->Option α},fS l K=K l
 |[],_=>rfl
 |a::r,K=>by simp only[fS];rw[DE]
def fL(p:PV)(K:PV->Option α):Option α:=match p with
 | .bool b=>fB b fun b=>K (.bool b)
 | .int k n=>fI n fun n=>K (.int k n)
 | .str s=>K (.str s)
 | .agg cs=>K (.agg cs)
 | .ae l=>K (.ae l)
def VW{h:PV->Option α}:fL p h=h p:=by cases p<;>simp[fL,wJ,Pv]
def fLs:List PV->(List PV->Option α)->Option α
 |[],K=>K []
 |a::r,K=>fL a fun a=>fLs r fun r=>K (a::r)
theorem HT:∀{l:List PV}{K:List PV->Option α},fLs l K=K l
 |[],_=>rfl
 |a::r,K=>by simp only[fLs];rw[VW,HT]
def fP(p:PV)(K:PV->Option α):Option α:=match p with
 | .agg cs=>fLs cs fun cs=>K (.agg cs)
 |p=>fL p K
def Pw{h:PV->Option α}:fP p h=h p:=by cases p<;>simp[fP,HT,VW]
def fA0(v:AV)(K:AV->Option α):Option α:=match v with
 | .un=>K .un
 | .pv p=>fP p fun p=>K (.pv p)
 | .dm l=>K (.dm l)
 | .own l τ=>fN τ fun τ=>K (.own l τ)
 | .agg cs=>K (.agg cs)
 | .rQ cs=>K (.rQ cs)
 | .au a b=>fN a fun a=>fN b fun b=>K (.au a b)
 | .aL a b=>fN a fun a=>fN b fun b=>K (.aL a b)
 | .et cs=>fS cs fun cs=>K (.et cs)
 | .bl a b c d=>fN a fun a=>fN c fun c=>K (.bl a b c d)
 | .fn g c=>K (.fn g c)
 | .iN=>K .iN
 | .kH s=>fN s fun s=>K (.kH s)
 | .gA kvs=>fS kvs fun kvs=>K (.gA kvs)
 | .rT a b c=>fN a fun a=>fN b fun b=>fN c fun c=>K (.rT a b c)
 | .ug a b=>fN a fun a=>fN b fun b=>K (.ug a b)
def Px{K:AV->Option α}:fA0 x K=K x:=by cases x<;>simp[fA0,Pw,tZ,DE]
def TG:List AV->(List AV->Option α)->Option α
 |[],K=>K []
 |a::r,K=>fA0 a fun a=>TG r fun r=>K (a::r)
theorem wK:∀{l:List AV}{K:List AV->Option α},TG l K=K l
 |[],_=>rfl
 |a::r,K=>by simp only[TG];rw[Px,wK]
def fA(v:AV)(K:AV->Option α):Option α:=match v with
 | .agg cs=>TG cs fun cs=>K (.agg cs)
 | .rQ cs=>TG cs fun cs=>K (.rQ cs)
 | .fn g cs=>TG cs fun cs=>K (.fn g cs)
 |v=>fA0 v K
def t4{K:AV->Option α}:fA x K=K x:=by cases x<;>simp[fA,wK,Px]
def fRs:List AV->(List AV->Option α)->Option α
 |[],K=>K []
 |a::r,K=>fA a fun a=>fRs r fun r=>K (a::r)
theorem wL:∀{l:List AV}{K:List AV->Option α},fRs l K=K l
 |[],_=>rfl
 |a::r,K=>by simp only[fRs];rw[t4,wL]
def fV(v:AV)(K:AV->Option α):Option α:=match v with
 | .pv (.str s)=>fS s fun s=>K (.pv (.str s))
 | .pv (.ae l)=>fS l fun l=>K (.pv (.ae l))
 | .dm l=>fS l fun l=>fLs l fun l=>K (.dm l)
 | .own l τ=>fS l fun l=>fN τ fun τ=>K (.own l τ)
 |v=>fA v K
def Py{K:AV->Option α}:fV x K=K x:=by
 cases x with
 |pv p=>cases p<;>simp[fV,DE,t4]
 |_=>simp[fV,DE,t4,HT,tZ]
def fEs:List PV->(List PV->Option α)->Option α
 |[],K=>K []
 |a::r,K=>fP a fun a=>fEs r fun r=>K (a::r)
theorem Pz:∀{l:List PV}{K:List PV->Option α},fEs l K=K l
 |[],_=>rfl
 |a::r,K=>by simp only[fEs];rw[Pw,Pz]
def fresh:AK->Bool
 | .v (.eA _)| .v (.slice ..)| .append ..| .v (.bin .add)=>true
 |_=>false
def acY(op:AK)(v:AV)(K:AV->Option α):Option α:=match op,v with
 | .v (.eA _),.dm l=>fEs l fun l=>K (.dm l)
 |op,v=>if fresh op then fV v K else fA v K
def fO(f:a->(a->Option α)->Option α)(o:Option a)(K:Option a->Option α):Option α:=match o with
 |none=>K none
 |some x=>f x fun x=>K (some x)
def aal{f:a->(a->Option α)->Option α}(hf:∀x K,f x K=K x){o:Option a}{K:Option a->Option α}:fO f o K=K o:=by cases o<;>simp[fO,hf]
def ZD:Sh->(Sh->Option α)->Option α
 |[],K=>K []
 |a::r,K=>fO TG a fun a=>ZD r fun r=>K (a::r)
theorem sG:∀{l:Sh}{K:Sh->Option α},ZD l K=K l
 |[],_=>rfl
 |a::r,K=>by simp only[ZD];rw[aal (fun _ _=>wK),sG]
def fT:aH->(aH->Option α)->Option α
 |[],K=>K []
 |a::r,K=>fN a fun a=>fT r fun r=>K (a::r)
theorem yV:∀{l:aH}{K:aH->Option α},fT l K=K l
 |[],_=>rfl
 |a::r,K=>by simp only[fT];rw[tZ,yV]
def TH:List (Nat×AV)->(List (Nat×AV)->Option α)->Option α
 |[],K=>K []
 |(t,v)::r,K=>fA v fun v=>TH r fun r=>K ((t,v)::r)
theorem I9:∀{l:List (Nat×AV)}{K:List (Nat×AV)->Option α},TH l K=K l
 |[],_=>rfl
 |(t,v)::r,K=>by simp only[TH];rw[t4,I9]
def TI:List (Nat×List AV)->(List (Nat×List AV)->Option α)->Option α
 |[],K=>K []
 |(t,v)::r,K=>TG v fun v=>TI r fun r=>K ((t,v)::r)
theorem I_:∀{l:List (Nat×List AV)}{K:List (Nat×List AV)->Option α},TI l K=K l
 |[],_=>rfl
 |(t,v)::r,K=>by simp only[TI];rw[wK,I_]
def X2(st:St)(K:St->Option α):Option α:=match st with
 |⟨env,mem,sh,aa⟩=>TH env fun env=>TI mem fun mem=>ZD sh fun sh=>fT aa fun aa=>K ⟨env,mem,sh,aa⟩
def wM{C:St->Option α}:X2 st C=C st:=by
 obtain⟨env,mem,sh,aa⟩:=st;simp only[X2];rw[I9,I_,sG,yV]
def lk:List (Nat×a)->Nat->Option a
 |[],_=>none
 |(k,v)::r,t=>bif Nat.beq k t then some v else lk r t
theorem yX:∀{l:List (Nat×a)}{t:Nat},lk l t=look l t
 |[],_=>rfl
 |(k,v)::r,t=>by
  simp only[lk,look];rw[yX];by_cases h:k=t
  .subst h;simp
  .rw[zad h,show Nat.beq k t=false from by rw[zcd];intro e;exact h (zbH e)];rfl
def pt:List (Nat×a)->Nat->a->(List (Nat×a)->Option α)->Option α
 |[],t,u,K=>K [(t,u)]
 |(k,v)::r,t,u,K=>bif Nat.beq k t then K ((k,u)::r)else pt r t u fun r=>K ((k,v)::r)
theorem PA:∀{l:List (Nat×a)}{t:Nat}{u:a}{K:List (Nat×a)->Option α},pt l t u K=K (dh l t u)
 |[],_,_,_=>rfl
 |(k,v)::r,t,u,K=>by
  simp only[pt,dh];by_cases h:k=t
  .subst h;simp
  .rw[zad h,show Nat.beq k t=false from by rw[zcd];intro e;exact h (zbH e)];exact PA
def od(env:List (Nat×AV))(x:fp)(K:AV->Option α):Option α:=match x with
 | .t n=>match lk env n with
  |some v=>K v
  |none=>none
 | .c v=>K v
theorem aam{x:fp}{K:AV->Option α}:od env x K=(iJ env x).bind K:=by
 cases x with
 |t n=>simp only[od,iJ,yX];cases look env n<;>rfl
 |c v=>rfl
def ZE(env:List (Nat×AV)):List fp->(List AV->Option α)->Option α
 |[],K=>K []
 |x::r,K=>od env x fun v=>ZE env r fun vs=>K (v::vs)
theorem PB:∀{l:List fp}{K:List AV->Option α},ZE env l K=(eN env l).bind K
 |[],_=>rfl
 |x::r,K=>by
  simp only[ZE,eN];rw[aam];cases iJ env x with
  |none=>rfl
  |some v=>
   dsimp only[Option.bind_some];rw[PB];cases eN env r<;>rfl
def X6:IntKind->Nat
 | .i8=>0| .i16=>1| .i32=>2| .i64=>3| .u8=>4| .u16=>5| .u32=>6| .u64=>7
def TJ{b:IntKind}(h:Nat.beq (X6 i) (X6 b)=true):i=b:=by
 have:=zbH h;cases i<;>cases b<;>first|rfl|(simp[X6]at this)
def iEq:Int->Int->Bool
 | .ofNat a,.ofNat b=>Nat.beq a b
 | .negSucc a,.negSucc b=>Nat.beq a b
 |_,_=>false
def acf{N:Nat}:Nat.beq k N=decide (k=N):=by
 by_cases h:k=N
 .subst h;simp
 .rw[zaB h,zcd];intro e;exact h (zbH e)
def PC{b:Int}:iEq M b=(M == b):=by
 cases M<;>cases b<;>(rw[za0];simp[iEq,acf])<;>omega
def ZF:Int->Int->Bool
 | .ofNat a,.ofNat b=>Nat.blt a b
 | .negSucc a,.negSucc b=>Nat.blt b a
 | .negSucc _,.ofNat _=>true
 | .ofNat _,.negSucc _=>false
def AY{b:Int}:ZF M b=decide (M<b):=by
 cases M<;>cases b<;>(rw[za0];simp[ZF,Nat.blt_eq])<;>omega
def X7(k:IntKind)(a b:Int)(K:Int->Option α):Option α:=match k,a,b with
 | .i64,.ofNat x,.ofNat y=>bif Nat.blt (x+y) 4611686018427387904 then fN (x+y) fun n=>K (.ofNat n)else fI (IntKind.i64.wrap (.ofNat x+.ofNat y)) K
 |k,a,b=>fI (k.wrap (a+b)) K
def TK{b:Int}{X:Int->Option α}:X7 i M b X=X (i.wrap (M+b)):=by
 unfold X7;split
 .rename_i x y;cases h:Nat.blt (x+y) 4611686018427387904 with
  |false=>simp only[cond_false];exact Pv
  |true=>
   simp only[cond_true,tZ];have:x+y<4611686018427387904:=by simpa[Nat.blt_eq]using h
   congr 1;simp[IntKind.wrap,IntKind.bits,IntKind.signed];omega
 .exact Pv
def X8(op:BinOp)(a b:AV)(K:AV->Option α):Option α:=match a with
 | .pv (.int k x)=>match b with
  | .pv (.int k' y)=>bif Nat.beq (X6 k) (X6 k')then(match op with
   | .eql=>fB (iEq x y) fun c=>K (.pv (.bool c))
   | .neq=>fB (!iEq x y) fun c=>K (.pv (.bool c))
   | .lss=>fB (ZF x y) fun c=>K (.pv (.bool c))
   | .gtr=>fB (ZF y x) fun c=>K (.pv (.bool c))
   | .geq=>fB (!ZF x y) fun c=>K (.pv (.bool c))
   | .leq=>fB (!ZF y x) fun c=>K (.pv (.bool c))
   | .add=>X7 k x y fun n=>K (.pv (.int k n))
   |op=>(cU op a b).bind fun v=>fV v K)
    else (cU op a b).bind fun v=>fV v K
  |b=>(cU op a b).bind fun v=>fV v K
 |a=>(cU op a b).bind fun v=>fV v K
def TN{op:BinOp}{O b:AV}{K:AV->Option α}:X8 op O b K=(cU op O b).bind K:=by
 have c:((cU op O b).bind fun v=>fV v K)=(cU op O b).bind K:=by
  congr 1;funext v;exact Py
 unfold X8;split
 .rename_i k x;split
  .rename_i k' y;cases d:Nat.beq (X6 k) (X6 k')with
   |false=>exact c
   |true=>
    obtain rfl:=TJ d;simp only[cond_true];split
    .simp[wJ,PC,cU]
    .simp[wJ,PC,cU,bne]
    .simp[wJ,AY,cU]
    .simp[wJ,AY,cU]
    .simp[wJ,AY,cU,<-zdh,zdk]
    .simp[wJ,AY,cU,<-zdh,zdk]
    .simp[TK,cU]
    .exact c
  .exact c
 .exact c
def xFa(off:Nat)(x:AV)(K:AV->Option α):Option α:=match x with
 | .au d o=>fN (o+off) fun n=>K (.au d n)
 | .aL b o=>fN (o+off) fun n=>K (.aL b n)
 | .et cs=>fS (cs.drop off) fun cs=>K (.et cs)
 |_=>none
def nth:List b->Nat->Option b
 |[],_=>none
 |a::r,n=>match n with
  |0=>some a
  |n+1=>nth r n
theorem HU:∀{l:List b}{n:Nat},nth l n=l[n]?
 |[],n=>by simp[nth]
 |a::r,0=>rfl
 |a::r,n+1=>by simp only[nth,zbx];exact HU
def ln:List a->Nat->(Nat->Option α)->Option α
 |[],n,K=>K n
 |_::r,n,K=>fN (n+1) fun n=>ln r n K
theorem Ja:∀{l:List a}{n:Nat}{K:Nat->Option α},ln l n K=K (n+l.length)
 |[],n,K=>rfl
 |_::r,n,K=>by
  simp only[ln];rw[tZ,Ja];congr 1;simp;omega
def xV(o:Sv)(vals:List AV)(K:AV->Option α):Option α:=match o with
 | .mv=>match vals with
  |[x]=>K x
  |vals=>(bK .mv vals).bind fun v=>fA v K
 | .bin op=>match vals with
  |[a,b]=>X8 op a b K
  |vals=>(bK (.bin op) vals).bind fun v=>fA v K
 | .jh off=>match vals with
  |[x]=>xFa off x K
  |vals=>(bK (.jh off) vals).bind fun v=>fA v K
 | .rU=>match vals with
  |[.au a b]=>K (.au a b)
  |[.aL a b]=>K (.aL a b)
  |vals=>(bK .rU vals).bind fun v=>fA v K
 | .index=>match vals with
  |[.pv (.str s),.pv (.int _ (.ofNat i))]=>match nth s i with
   |some b=>fN b.toNat fun n=>K (.pv (.int .u8 (.ofNat n)))
   |none=>none
  |vals=>(bK .index vals).bind fun v=>fA v K
 | .EV=>match vals with
  |[.pv (.str s)]=>ln s 0 fun n=>K (.pv (.int .i64 (.ofNat n)))
  |vals=>(bK .EV vals).bind fun v=>fA v K
 | .len=>match vals with
  |[.pv (.ae l)]=>ln l 0 fun n=>K (.pv (.int .i64 (.ofNat n)))
  |[.own l _]=>ln l 0 fun n=>K (.pv (.int .i64 (.ofNat n)))
  |vals=>(bK .len vals).bind fun v=>fA v K
 | .eA sz=>match bK (.eA sz) vals with
  |some (.dm l)=>fEs l fun l=>K (.dm l)
  |some v=>K v
  |none=>none
 | .slice a b c d e=>(bK (.slice a b c d e) vals).bind fun v=>fV v K
 |o=>(bK o vals).bind fun v=>fA v K
theorem aan{o:Sv}{K:AV->Option α}:xV o vals K=(bK o vals).bind K:=by
 have a:∀o vals,((bK o vals).bind fun v=>fA v K)=(bK o vals).bind K:=by
  intro o vals;congr 1;funext v;exact t4
 unfold xV;split
 .split
  .rfl
  .exact a _ _
 .split
  .exact TN
  .exact a _ _
 .split
  .rename_i x;cases x<;>simp[xFa,bK,tZ,DE]
  .exact a _ _
 .split
  .rfl
  .rfl
  .exact a _ _
 .split
  .rename_i s k i;rw[HU];have hi:¬(Int.ofNat i<0):=by simp
   simp only[bK];rw[zad hi];simp only[zcs,Int.ofNat_eq_natCast];cases s[i]? with
   |none=>rfl
   |some b=>simp[tZ]
  .exact a _ _
 .split
  .simp[Ja,bK]
  .exact a _ _
 .split
  .simp[Ja,bK,dG]
  .simp[Ja,bK,dG]
  .exact a _ _
 .split
  .rename_i l h;rw[h,Pz];rfl
  .rename_i h;rw[h];rfl
  .rename_i h;rw[h];rfl
 .congr 1;funext v;exact Py
 .exact a _ _
def lay(env:List (Nat×AV))(mem:List (Nat×List AV))(sh:Sh)(aa:aH)(d:Option Nat)(v:AV)(K:St->Option α):Option α:=match d with
 |some d=>pt env d v fun env=>K ⟨env,mem,sh,aa⟩
 |none=>K ⟨env,mem,sh,aa⟩
def oj{C:St->Option α}:lay env mem sh aa d x C=C ⟨ik env d x,mem,sh,aa⟩:=by
 cases d<;>simp[lay,ik,PA]
def X9(mem:List (Nat×List AV))(k:Nat)(cs:Option (List AV))(K:List (Nat×List AV)->Option α):Option α:=match cs with
 |some cs=>TG cs fun cs=>pt mem k cs K
 |none=>K mem
def TO{cs:Option (List AV)}{Z:List (Nat×List AV)->Option α}:X9 mem k cs Z=Z (gG mem (some k) cs):=by
 cases cs<;>simp[X9,gG,wK,PA]
def PD(orc:fQ)(op:AK)(d:Option Nat)(vals:List AV)(env:List (Nat×AV))(mem:List (Nat×List AV))(sh:Sh)(aa:aH)(K:St->Option α):Option α:=
 match exec orc op vals (op.key.bind (look mem)) sh aa with
 |none=>none
 |some ⟨val,cells,sh',toks'⟩=>fV val fun val=>(match op.key with|some k=>X9 mem k cells|none=>fun K=>K mem) fun mem=>ZD sh' fun sh'=>fT toks' fun toks'=>lay env mem sh' toks' d val K
theorem AZ{C:St->Option α}:
   PD orc op d vals env mem sh aa C=(match exec orc op vals (op.key.bind (look mem)) sh aa with
    |none=>none
    |some out=>some (⟨ik env d out.val,gG mem op.key out.cells,out.sh,out.aa⟩:St)).bind C:=by
 unfold PD;cases exec orc op vals (op.key.bind (look mem)) sh aa with
 |none=>rfl
 |some out=>
  obtain⟨val,cells,sh',toks'⟩:=out;simp only[Py,za8];cases op.key with
  |none=>simp only[sG,yV,oj];cases cells<;>rfl
  |some k=>simp only[TO,sG,yV,oj]
def xP(orc:fQ)(g:Nat)(vals:List AV)(K:AV->Option α):Option α:=match dS [] vals with
 |some eE=>match orc.p g eE with
  |some rs=>fA (vB rs) K
  |none=>none
 |none=>none
def x1(orc:fQ)(op:AK)(d:Option Nat)(vals:List AV)(env:List (Nat×AV))(mem:List (Nat×List AV))(sh:Sh)(aa:aH)(K:St->Option α):Option α:=match op with
 | .v o=>xV o vals fun v=>lay env mem sh aa d v K
 | .aJ g=>xP orc g vals fun v=>lay env mem sh aa d v K
 | .cD key off sz ag=>match vals with
  |[.au a o]=>match lk mem key with
   |some cs=>bif Nat.beq a key && Nat.beq o off then(match cm ag sz cs off with
    |some v=>fA v fun v=>lay env mem sh aa d v K
    |none=>none)else none
   |none=>none
  |vals=>PD orc (.cD key off sz ag) d vals env mem sh aa K
 | .ej sz ag=>match vals with
  |[.aL b off]=>match nth sh b with
   |some (some cs)=>bif dR cs then none else(match cm ag sz cs off with
    |some v=>fA v fun v=>lay env mem sh aa d v K
    |none=>none)
   |_=>none
  |vals=>PD orc (.ej sz ag) d vals env mem sh aa K
 |op=>PD orc op d vals env mem sh aa K
theorem aao{C:St->Option α}:
   x1 orc op d vals env mem sh aa C=(match exec orc op vals (op.key.bind (look mem)) sh aa with
    |none=>none
    |some out=>some (⟨ik env d out.val,gG mem op.key out.cells,out.sh,out.aa⟩:St)).bind C:=by
 unfold x1;split
 .rename_i o;simp only[aan,oj,exec];cases bK o vals with
  |none=>rfl
  |some v=>rfl
 .rename_i g;simp only[xP,exec];cases dS [] vals with
  |none=>rfl
  |some eE=>
   dsimp only;cases orc.p g eE with
   |none=>rfl
   |some rs=>simp only[t4,oj];rfl
 .rename_i key off sz ag;split
  .rename_i a o;rw[yX];have c:((AK.cD key off sz ag).key.bind (look mem))=look mem key:=rfl;rw[c];cases look mem key with
   |none=>simp[exec]
   |some cs=>
    simp only[exec];by_cases h:a=key/\o=off
    .obtain⟨rfl,rfl⟩:=h;simp only[Nat.beq_refl,Bool.and_self,cond_true,and_self,za4];cases cm ag sz cs o with
     |none=>rfl
     |some v=>simp only[t4,oj];rfl
    .rw[zad h]
     have:(Nat.beq a key && Nat.beq o off)=false:=by
      rw[zcd];intro e;simp only[zaj]at e;exact h ⟨zbH e.1,zbH e.2⟩
     rw[this];rfl
  .exact AZ
 .rename_i sz ag;split
  .rename_i b off;rw[HU];simp only[exec];split
   .rename_i cs h;rw[h];dsimp only;cases dR cs with
    |true=>rfl
    |false=>
     simp only[cond_false,zaV,zbr];cases cm ag sz cs off with
     |none=>rfl
     |some v=>simp only[t4,oj];rfl
   .rename_i h;split
    .rfl
    .rename_i e1 e2 e3;split at e3
     .rename_i cs e4;exact absurd e4 (h cs)
     .cases e3
  .exact AZ
 .exact AZ
def opF(orc:fQ)(o:d8)(st:St)(K:St->Option α):Option α:=match st with
 |⟨env,mem,sh,aa⟩=>match o with
  |⟨d,g,args,op⟩=>match g with
   |none=>ZE env args fun vals=>x1 orc op d vals env mem sh aa K
   |some (t,b)=>match lk env t with
    |some (.pv (.bool c))=>bif c == b then ZE env args fun vals=>x1 orc op d vals env mem sh aa K else lay env mem sh aa d .un K
    |some .un=>lay env mem sh aa d .un K
    |_=>none
theorem X_{o:d8}{C:St->Option α}:opF orc o st C=(eC orc o st).bind C:=by
 obtain⟨env,mem,sh,aa⟩:=st;obtain⟨d,g,args,op⟩:=o
 have run:(ZE env args fun vals=>x1 orc op d vals env mem sh aa C)=(match eN env args with
  |none=>none
  |some vals=>match exec orc op vals (op.key.bind (look mem)) sh aa with
   |none=>none
   |some out=>some (⟨ik env d out.val,gG mem op.key out.cells,out.sh,out.aa⟩:St)).bind C:=by
   rw[PB];cases eN env args with
   |none=>rfl
   |some vals=>exact aao
 cases g with
 |none=>simp only[opF,eC,gT];exact run
 |some p=>
  obtain⟨t,b⟩:=p;simp only[opF,eC,gT,yX];split
  .rename_i c h;rw[h];dsimp only;cases a:(c == b)with
   |true=>simp only[cond_true];exact run
   |false=>simp only[cond_false,oj];rfl
  .rename_i h;rw[h];simp only[oj];rfl
  .rename_i h1 h2;split
   .rfl
   .rename_i e;split at e<;>simp_all
   .rename_i e;split at e<;>simp_all
def TQ(orc:fQ):List d8->St->(St->Option α)->Option α
 |[],st,K=>K st
 |o::r,st,K=>opF orc o st fun st=>TQ orc r st K
theorem Jb:∀{l:List d8}{st:St}{K:St->Option α},TQ orc l st K=(bC orc l st).bind K
 |[],_,_=>rfl
 |o::r,st,K=>by
  simp only[TQ,bC];rw[X_];cases eC orc o st with
  |none=>rfl
  |some s=>exact Jb
def Jc(f:St->(aX->St->Option α)->Option α)(a:St->St):Nat->St->(aX->St->Option α)->Option α
 |0,_,_=>none
 |n+1,st,K=>X2 (a st) fun st=>f st fun e st=>match e with
  | .normal=>Jc f a n st K
  |e=>K e st
def VX(live:List Nat)(v:AV):Bool:=match v with
 | .au d _=>live.contains d
 | .ug d _=>live.contains d
 | .pv _=>true
 | .own ..=>true
 | .agg cs=>iD cs
 |v=>bB v
def PE:VX live x=ia live x:=by cases x<;>rfl
def rsE(live:List Nat)(env:List (Nat×AV)):List Nat->(List (Nat×AV)->Option α)->Option α
 |[],K=>K []
 |t::r,K=>match lk env t with
  |some v=>rsE live env r fun e=>bif VX live v then K ((t,v)::e)else K e
  |none=>rsE live env r K
theorem HV:∀{l:List Nat}{K:List (Nat×AV)->Option α},rsE live env l K=K (bM live env l)
 |[],_=>rfl
 |t::r,K=>by
  simp only[rsE,bM,yX];cases look env t with
  |none=>exact HV
  |some v=>
   dsimp only;rw[HV,PE];cases ia live v<;>simp
def rsM(mem:List (Nat×List AV)):List Nat->(List (Nat×List AV)->Option α)->Option α
 |[],K=>K []
 |t::r,K=>match lk mem t with
  |some v=>rsM mem r fun e=>K ((t,v)::e)
  |none=>rsM mem r K
theorem HW:∀{l:List Nat}{K:List (Nat×List AV)->Option α},rsM mem l K=K (bR mem l)
 |[],_=>rfl
 |t::r,K=>by
  simp only[rsM,bR,yX];cases look mem t with
  |none=>exact HW
  |some v=>exact HW
def rs(live:List Nat)(st:St)(K:St->Option α):Option α:=match st with
 |⟨env,mem,sh,aa⟩=>rsE live env live fun env=>rsM mem live fun mem=>K ⟨env,mem,sh,aa⟩
def aap{C:St->Option α}:rs live st C=C (restrict live st):=by
 obtain⟨env,mem,sh,aa⟩:=st;simp only[rs];rw[HV,HW];rfl
def VY(K:aX->St->Option α):Option (aX×St)->Option α
 |some (e,st)=>K e st
 |none=>none
def cF(orc:fQ)(k:Nat):ah->St->(aX->St->Option α)->Option α
 | .skip,st,K=>K .normal st
 | .ka ops live,st,K=>TQ orc ops st fun st=>rs live st fun st=>K .normal st
 | .seq a b,st,K=>cF orc k a st fun e st=>match e with
  | .normal=>cF orc k b st K
  |e=>K e st
 | .cond c a b,st,K=>match iJ st.env c with
  |some (.pv (.bool t))=>match t with
   |true=>cF orc k a st K
   |false=>cF orc k b st K
  |_=>none
 | .block id b,st,K=>cF orc k b st fun e st=>match e with
  | .exit d=>if d=id then K .normal st else K (.exit d) st
  |e=>K e st
 | .loop live b,st,K=>Jc (cF orc k b) (fun s=>norm (restrict live s)) k st K
 | .back c gb pi px sz ag live x y,st,K=>VY K (cT orc k (.back c gb pi px sz ag live x y) st)
 | .exit id,st,K=>K (.exit id) st
 | .ret,st,K=>K .ret st
 | .eQ ts,st,K=>K .normal (pw ts st)
 | .VK ds,st,K=>bif jX st.env ds then K .normal st else none
 | .NG ps,st,K=>X2 (Sx ps st) fun st=>K .normal st
 | .oK ts,st,K=>X2 (Z8 ts st) fun st=>K .normal st
 | .Xt ts,st,K=>X2 (Xu ts st) fun st=>K .normal st
theorem DF{U:St->(aX->St->Option α)->Option α}{g:St->Option (aX×St)}{a:St->St}(h:∀st K,U st K=VY K (g st)):∀{n:Nat}{st:St}{K:aX->St->Option α},Jc U a n st K=VY K (gI g a n st)
 |0,_,_=>rfl
 |n+1,st,K=>by
  simp only[Jc,gI];rw[wM,h];cases g (a st)with
  |none=>rfl
  |some q=>
   obtain⟨e,s⟩:=q;cases e with
   |normal=>exact DF h
   |ret=>rfl
   |exit id=>rfl
theorem wO:∀{c:ah}{st:St}{K:aX->St->Option α},cF orc k c st K=VY K (cT orc k c st)
 | .skip,_,_=>rfl
 | .ka ops live,st,K=>by
  simp only[cF,cT];rw[Jb];cases bC orc ops st with
  |none=>rfl
  |some s=>simp only[za8,aap,VY]
 | .seq a b,st,K=>by
  simp only[cF,cT];rw[wO];cases cT orc k a st with
  |none=>rfl
  |some q=>
   obtain⟨e,s⟩:=q;cases e with
   |normal=>simp only[VY];exact wO
   |ret=>rfl
   |exit id=>rfl
 | .cond c a b,st,K=>by
  simp only[cF,cT];split
  .rename_i t h;rw[h];cases t with
   |true=>exact wO
   |false=>exact wO
  .rename_i h;split
   .rename_i t h';exact absurd h' (h t)
   .rfl
 | .block id b,st,K=>by
  simp only[cF,cT];rw[wO];cases cT orc k b st with
  |none=>rfl
  |some q=>
   obtain⟨e,s⟩:=q;cases e with
   |normal=>rfl
   |ret=>rfl
   |exit d=>
    simp only[VY];split<;>rfl
 | .loop live b,st,K=>by
  simp only[cF,cT];exact DF (g:=cT orc k b) fun _ _=>wO
 | .back c gb pi px sz ag live x y,_,_=>by simp only[cF]
 | .exit id,_,_=>rfl
 | .ret,_,_=>rfl
 | .eQ _,_,_=>rfl
 | .VK ds,st,K=>by
  simp only[cF,cT];cases jX st.env ds<;>rfl
 | .NG ps,st,K=>by
  simp only[cF,cT];rw[wM];rfl
 | .oK ps,st,K=>by
  simp only[cF,cT];rw[wM];rfl
 | .Xt ps,st,K=>by
  simp only[cF,cT];rw[wM];rfl
def TS(a6:Bool)(af:aw)(a:Sh)(e:aX)(st:St)(K:List AV->Sh->aH->Option α):Option α:=
 match e with
 | .exit _=>none
 |_=>match e8 st af.results with
  |some vs=>
   fRs (cI a6 af.ks st.sh vs) fun rs=>
   let sh':=if rs.all (aN a.length)=true then(gq a6 af.ks st.sh vs).take a.length else gq a6 af.ks st.sh vs
   if rs.all bQ=true then
    match cL st.aa rs sh' with
    |(rs,sh,_,ts)=>fRs rs fun rs=>ZD sh fun sh=>fT ts fun ts=>K rs sh ts
   else none
  |none=>none
def MP(K:List AV->Sh->aH->Option α):Option (List AV×Sh×aH)->Option α
 |some (a,b,c)=>K a b c
 |none=>none
theorem TT{a:Sh}{e:aX}{E:List AV->Sh->aH->Option α}:TS a6 af a e st E=MP E (finish a6 af a (some (e,st))):=by
 cases e with
 |exit id=>rfl
 |normal=>
  simp only[TS,finish];cases e8 st af.results with
  |none=>rfl
  |some vs=>
   simp only[wL,or_true,za4];split
   .simp only[wL,sG,yV,MP]
   .rfl
 |ret=>
  simp only[TS,finish];cases e8 st af.results with
  |none=>rfl
  |some vs=>
   simp only[wL,true_or,za4];split
   .simp only[wL,sG,yV,MP]
   .rfl
def yY(orc:fQ)(k:Nat)(a6:Bool)(af:aw)(args:List AV)(sh:Sh)(ts:aH)(K:List AV->Sh->aH->Option α):Option α:=
 X2 {env:=bY 0 args,mem:=[],sh,aa:=ts} fun st=>cF orc k af.body st fun e st=>TS a6 af sh e st K
theorem re{E:List AV->Sh->aH->Option α}:yY orc k a6 af args sh ts E=MP E (cE orc k a6 af args sh ts):=by
 unfold yY;rw[wM,wO,iC];cases cT orc k af.body {env:=bY 0 args,mem:=[],sh,aa:=ts}with
 |none=>rfl
 |some q=>obtain⟨e,s⟩:=q;simp only[VY];exact TT
def MQ(AP:Nat->Option aw)(k:Nat):Nat->fQ
 |0=>{p:=fun _ _=>none,i:=fun _ _ _ _=>none}
 |n+1=>
  { p:=fun g eE=>match AP g with
   |some af=>match af.rX with
    |some f=>f.f (MQ AP k n).p eE
    |none=>if eE.length=af.nparams/\eE.length<=af.ntmps then yY (MQ AP k n) k false af (eE.map .pv) [] [] fun rs _ _=>gi rs else none
   |none=>none,
    i:=fun g args sh ts=>match AP g with
     |some af=>if args.length<=af.ntmps then yY (MQ AP k n) k true af args sh ts fun a b c=>some (a,b,c)else none
     |none=>none}
theorem Jd{AP:Nat->Option aw}{k:Nat}:∀n,MQ AP k n=run AP k n
 |0=>rfl
 |n+1=>by
  have a:=Jd (AP:=AP) (k:=k) n;simp only[MQ,run];congr 1
  .funext g eE
   cases AP g with
   |none=>rfl
   |some af=>
    dsimp only;cases af.rX with
    |some f=>dsimp only;rw[a]
    |none=>
     dsimp only;split
     .rw[re,a];cases cE (run AP k n) k false af (eE.map .pv) [] []with
      |none=>rfl
      |some q=>rfl
     .rfl
  .funext g args sh ts
   cases AP g with
   |none=>rfl
   |some af=>
    dsimp only;split
    .rw[re,a];cases cE (run AP k n) k true af args sh ts with
     |none=>rfl
     |some q=>rfl
    .rfl
def Ya{g:Nat}{I rs:List PV}(h:(MQ AP k n).p g I=some rs):(aE AP).p g I=some rs:=by
 rw[Jd]at h;exact we (uL g I) (show(run AP (max k n) (max k n)).p g I=some rs from(cZ (zbj k n) (zbn k n)).p _ _ _ h)
def yi(AP:Nat->Option aw)(d:Nat->List PV->Option (List PV))(k:Nat):Nat->fQ
 |0=>{p:=d,i:=fun _ _ _ _=>none}
 |n+1=>
  { p:=fun g eE=>match d g eE with
   |some r=>some r
   |none=>match AP g with
    |some af=>match af.rX with
     |some f=>f.f (yi AP d k n).p eE
     |none=>if eE.length=af.nparams/\eE.length<=af.ntmps then yY (yi AP d k n) k false af (eE.map .pv) [] [] fun rs _ _=>gi rs else none
    |none=>none,
    i:=fun g args sh ts=>match AP g with
     |some af=>if args.length<=af.ntmps then yY (yi AP d k n) k true af args sh ts fun a b c=>some (a,b,c)else none
     |none=>none}
def DG{r:List AV×Sh×aH}(a:orc.le (aE AP))(h:cE orc k a6 af args sh ts=some r):pH AP a6 af args sh ts=some r:=by
 rw[iC]at h;unfold pH;cases b:cT orc k af.body {env:=bY 0 args,mem:=[],sh,aa:=ts}with
 |none=>rw[b]at h;simp[finish]at h
 |some q=>
  rw[lJ (ca a (zal k) b)];rw[b]at h;exact h
def Je{k:Nat}(a:∀g x r,B g x=some r->(aE AP).p g x=some r):∀n,(yi AP B k n).le (aE AP)
 |0=>⟨a,fun g x s t r h=>by simp[yi]at h⟩
 |n+1=>by
  have i:=Je (k:=k) a n;refine⟨fun g x r h=>?_,fun g x s t r h=>?_⟩
  .simp only[yi]at h;split at h
   .rename_i j e;rw[<-h];exact a g x j e
   .split at h
    .rename_i af d;cases hp:af.rX with
     |some f=>rw[hp]at h;rw[SQ d hp];exact f.mono i.p h
     |none=>
      rw[hp]at h;simp only[zab]at h;obtain⟨⟨h1,h2⟩,h⟩:=h;rw[re]at h;rw[VS d hp h1 h2];cases b:cE (yi AP B k n) k false af (x.map .pv) [] []with
      |none=>rw[b]at h;simp[MP]at h
      |some q=>rw[DG i b];rw[b]at h;exact h
    .cases h
  .simp only[yi]at h;split at h
   .rename_i af d;simp only[zab]at h;obtain⟨h2,h⟩:=h;rw[re]at h;rw[VT d h2];cases b:cE (yi AP B k n) k true af x s t with
    |none=>rw[b]at h;simp[MP]at h
    |some q=>rw[DG i b];rw[b]at h;exact h
   .cases h
def aaq{g:Nat}{I rs:List PV}(a:∀g I r,B g I=some r->(aE AP).p g I=some r)(h:(yi AP B k n).p g I=some rs):(aE AP).p g I=some rs:=(Je a n).p _ _ _ h
end Go.Ab.Fc
namespace Go.Ab
section
variable {P:Program} {ns:Names} {w w':World}
def PF:List PV->Option (List (List UInt8))
 |[]=>some []
 | .str s::r=>(PF r).map (s::·)
 |_=>none
def acg:List PV->Option (List PV)
 |[.ae els,.str a]=>match PF els with
  |some xs=>if xs.length<=1000000000/\(Lib.join xs a).length<=140737488355328 then some [.str (Lib.join xs a)]else none
  |none=>none
 |_=>none
def ach:List PV->Option (List PV)
 |[.int .i64 n]=>if 0<=n/\n<100 then some [.str (Lib.decDigits n.toNat)]else none
 |_=>none
def ab8:List PV->Option (List PV)
 |[.int .i64 n]=>if -9223372036854775808<=n/\n<=9223372036854775807 then some [.str (Lib.itoa n)]else none
 |_=>none
end
open Ev
def HX(o:Nat->List PV->Option (List PV))(g:Nat):List PV->Option (List UInt8)
 |[]=>some []
 |d::r=>match o g [d]with
  |some [.str s]=>(HX o g r).map (s++·)
  |_=>none
def Jf(n:Nat):PV->Bool
 | .agg cs=>cs.length == n && cs.all jI
 |_=>false
def PG(gd gb:Nat)(o:Nat->List PV->Option (List PV)):List PV->Option (List PV)
 |[.agg [.ae ds,.ae bs]]=>
  if ds.all (Jf 4)=true/\bs.all (Jf 20)=true/\ds.length<4611686018427387904/\bs.length<4611686018427387904 then
   match HX o gd ds,HX o gb bs with
   |some a,some b=>if(a++b).length<=140737488355328 then some [.str (a++b)]else none
   |_,_=>none
  else none
 |_=>none
def wP{B:Nat->List PV->Option (List PV)}{g:Nat}:∀{l:List PV}{s:List UInt8},HX B g l=some s->
   ∃c:List (Nat×List PV×List PV),(∀x∈c,B x.1 x.2.1=some x.2.2)/\∀o',(∀x∈c,o' x.1 x.2.1=some x.2.2)->HX o' g l=some s
 |[],s,h=>⟨[],by simp,fun _ _=>h⟩
 |d::r,s,h=>by
  simp only[HX]at h;split at h
  .rename_i t ht;simp only[zac]at h;obtain⟨u,hu,rfl⟩:=h;obtain⟨c,h1,h2⟩:=wP hu;refine⟨(g,[d],[.str t])::c,?_,fun o' a=>?_⟩
   .intro x hx;simp only[zah]at hx;rcases hx with rfl|hx
    .exact ht
    .exact h1 x hx
   .have e1:=a _ (List.mem_cons_self);simp only[HX,e1,h2 o' (fun x hx=>a x (List.mem_cons_of_mem _ hx)),zaZ]
  .cases h
def acP(gd gb:Nat):Prim:=⟨PG gd gb,by
 intro o x r h;unfold PG at h;split at h
 .rename_i ds bs;rw[zab]at h;obtain⟨e,h⟩:=h;split at h
  .rename_i a b g f;obtain⟨c1,f1,f2⟩:=wP g;obtain⟨c2,d,k2⟩:=wP f;refine⟨c1++c2,?_,fun o' c=>?_⟩
   .intro x hx;rcases zae.1 hx with hx|hx
    .exact f1 x hx
    .exact d x hx
   .unfold PG;simp only;rw[zai e,f2 o' (fun x hx=>c x (zbM _ hx)),k2 o' (fun x hx=>c x (zcM _ hx))];exact h
  .cases h
 .cases h⟩
section
variable {T E:TypeId} {B b:Nat} {w w':World}
end
section
variable {P:Program} {ns:Names}
end
end Go.Ab
