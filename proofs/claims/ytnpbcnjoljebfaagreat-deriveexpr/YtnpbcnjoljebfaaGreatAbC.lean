import Derived.Test.YtnpbcnjoljebfaaGreatAbB
import Derived.RangeFuncLeaves
import Derived.RangeFuncRecord
import Derived.WalkKit
import Derived.ProofKit
import Derived.OpenShut
import Derived.Carry
import Derived.Lib.Join
import Derived.Lib.ItoaNum
import Derived.Lib.LaidTab
import Derived.Sort.Grow
import Derived.Deep.Draws
import Derived.Lib.Builder
import Derived.Lib.UnsafeStr
import Derived.Lib.AppendStr
/- The abstract machine, and that the code of the model does what its slim code says. -/
set_option linter.unusedVariables false
set_option linter.defProp false
set_option linter.unusedSimpArgs false
set_option linter.unnecessarySimpa false
set_option maxRecDepth 100000
set_option maxHeartbeats 8000000
namespace Go.Ab
def zbG:=@List.length_set
def zbC:=@Nat.sub_zero
def zcY:=@List.drop_drop
def zb4:=@List.take_append_drop
def zb6:=@List.contains_iff_mem
def zaW:=@decide_eq_true_eq
def za8:=@List.nil_append
def zb2:=@Bool.eq_false_iff
def zbs:=@Nat.eq_of_beq_eq_true
def zaC:=@decide_eq_false
def zaN:=@Bool.eq_iff_iff
def zcW:=@decide_not
def zbZ:=@List.getElem?_cons_succ
def zck:=@Int.toNat_natCast
end Go.Ab
namespace Go.Ab
section
variable {n0:Nat} {P:Program} {ns:Names} {ro:Option Nat}
theorem rX{c:Code}{Q:Exit->Act->World->Prop}{f:St->Option (aR×St)}{k:St->St}{N:Nat}
   (d:∀{st:St}{G:Gh}{a:Act}{w:World},ik (num ns) n0 N G st a w->∃G',ik (num ns) n0 N G' (k st) a w∧bL G w G' w)
   (hf:∀{st b:St}{e:aR}{G:Gh}{a:Act}{w:World}{Q:Exit->Act->World->Prop},f st=some (e,b)->ik (num ns) n0 N G st a w->
     (∀G' g w',ik (num ns) n0 N G' b g w'->bL G w G' w'->Q (ke e) g w')->c.wpIn (sX ro) 0 P Q a w):
   ∀(n:Nat){st b:St}{e:aR}{G:Gh}{a:Act}{w:World},f_ f k n st=some (e,b)->ik (num ns) n0 N G st a w->
     (∀G' g w',ik (num ns) n0 N G' b g w'->bL G w G' w'->Q (ke e) g w')->Code.roundsIn (sX ro) 0 P c Q n a w
 |0,st,b,e,G,a,w,h,_,_=>by simp[f_]at h
 |n+1,st,b,e,G,a,w,h,hs,v=>by
  rw[roundsIn_succ];obtain⟨y,l,o⟩:=d hs;simp only[f_]at h;split at h
  ·rename_i x h1;refine hf h1 l fun G' g w' i j=>?_;exact rX d hf n h i fun u t q m p=>v u t q m ((o.trans j).trans p)
  ·rename_i r hr
   have s:e≠.normal:=by
    rintro rfl
    exact hr b h
   refine hf h l fun G' g w' i j=>?_;have:=v G' g w' i (o.trans j)
   cases e with
   |normal=>exact absurd rfl s
   |ret=>exact this
   |exit id=>exact this
theorem FG{ρ:bU}{G:Gh}{x:AV}{v:Value}(h:aD ρ G x v):aD ρ G (oj x) v:=by
 cases x with
 |cQ l=>
  simp only[aD]at h;obtain⟨base,len,e,r⟩:=h;simp only[oj,aD];exact cq.2 ⟨base,len,len,e,zaj _,r⟩
 |_=>exact h
theorem ux{ρ:bU}{G:Gh}:∀(n:Nat){xs:List AV}{vs:List Value},aB ρ G xs vs->aB ρ G ((xs.take n).map oj++xs.drop n) vs
 |0,xs,vs,h=>by simpa using h
 |n+1,[],vs,h=>by simpa using h
 |n+1,x::r,vs,h=>by
  simp only[aB]at h;obtain⟨v,q,rfl,h1,h2⟩:=h;simp only[zbT,zao,zcF,za5,aB];exact⟨v,q,rfl,FG h1,ux n h2⟩
theorem wW{p:AV->Bool}(hp:∀l,p (.cQ l)=true->p (.pv (.aq l))=true){xs:List AV}(h:xs.all p=true)(n:Nat):((xs.take n).map oj++xs.drop n).all p=true:=by
 rw[zaq]at h⊢;intro y hy;rw[zai,zat]at hy;rcases hy with⟨x,hx,rfl⟩|hy
 ·have:=h x (za7 hx);cases x<;>first|exact this|exact hp _ this
 ·exact h y (zbL hy)
theorem FH{N:Nat}{v:AV}{st:St}{G:Gh}{a:Act}{w:World}(h:ik (num ns) n0 N G st a w):∃G',ik (num ns) n0 N G' (xJ v st) a w∧bL G w G' w:=by
 unfold xJ;split
 ·rename_i n b;split
  ·rename_i cs j;refine⟨G,⟨h.env,?_,h.marks⟩,bL.refl G w⟩;have i:=h.inv;refine⟨i.known,i.a_,i.fresh,i.cV,i.i7,?_,?_,i.dp,i.gX,i.nZ⟩
   ·intro s cells hs;rw[zaA]at hs;by_cases m:b=s
    ·subst m;have y:=(zaa.1 j).1;rw[zak rfl,zak y]at hs;cases hs;obtain⟨q,e1,⟨e2,o,e3,e4⟩,e5,I⟩:=i.dU b cs j;refine⟨q,e1,⟨e2,o,e3,e4.to (fun _ _ _ h=>h) (fun kvs H=>by subst H;simp[oj]) fun vs=>ux _⟩,wW (fun _ _=>rfl) e5 _,wW (fun _ _=>rfl) I _⟩
    ·rw[zad m]at hs;exact i.dU s cells hs
   ·intro s q hs;rw[zbG];exact i.gO s q hs
  ·exact⟨G,h,bL.refl G w⟩
 ·rename_i n d;split
  ·rename_i cs j;split
   ·rename_i ps u;obtain⟨G1,f,r,D,F,J⟩:=Inv.kill ([.agg cs].flatMap gN) h.inv;obtain⟨b,e1,⟨e2,c,t,e3,e4⟩,e5⟩:=h.inv.cV d cs j;obtain⟨C,f1,⟨f2,c',t',f3,L⟩,f5⟩:=f.cV d cs j;have m:b=C:=by have:=r.pm d b e1;rw[f1]at this;simpa using this.symm
    subst m;have A:c=c':=by rw[e3]at f3;cases f3;rfl
    subst A;have k:dJ G1.K ps c.toList:=oK r F h.inv.x8 (fun s hs=>by simpa using hs) u e4
    have z:(ps.map AV.pv).all aZ=true:=by
     rw[zaq];intro x hx;rw[zat]at hx;obtain⟨p,hp,rfl⟩:=hx;have:=qx k p hp;cases p<;>first|rfl|simp[i6]at this
    refine⟨G1,⟨⟨h.env.size,fun t' x hx=>?_⟩,?_,h.marks.zL D rfl⟩,D⟩
    ·obtain⟨E,g1,g2⟩:=h.env.env t' x hx;exact⟨E,g1,g2.mono r⟩
    ·refine⟨f.known,f.a_,f.fresh,?_,?_,f.dU,f.gO,f.dp,f.gX,f.nZ⟩
     ·intro l B e;by_cases g:d=l
      ·subst g;rw[b_]at e;cases e;exact⟨b,f1,⟨f2,c,t',f3,lu k⟩,z⟩
      ·rw[bM _ _ _ _ g]at e;exact f.cV l B e
     ·intro l C e;by_cases g:d=l
      ·subst g;rw[b_];rfl
      ·rw[bM _ _ _ _ g];exact f.i7 l C e
   ·exact⟨G,h,bL.refl G w⟩
  ·exact⟨G,h,bL.refl G w⟩
 ·exact⟨G,h,bL.refl G w⟩
theorem kf{N:Nat}:∀{ts:List Nat}{st:St}{G:Gh}{a:Act}{w:World},ik (num ns) n0 N G st a w->∃G',ik (num ns) n0 N G' (nY ts st) a w∧bL G w G' w
 |[],st,G,a,w,h=>⟨G,h,bL.refl G w⟩
 |t::r,st,G,a,w,h=>by
  simp only[nY];split
  ·rename_i v k;split
   ·rename_i p hp;obtain⟨G1,j,e,d,i,m⟩:=Inv.kill ([v].flatMap gN) h.inv;obtain⟨u,hu,hr⟩:=h.env.env t v k;have b:Rel G1.K p u:=tV e i h.inv.x8 (fun s hs=>by simpa using hs) hp hr
    have h1:ik (num ns) n0 N G1 {st with env:=cN st.env t (.pv p),sh:=eN st.sh [v]} a w:=by
     refine⟨⟨h.env.size,fun t' x hx=>?_⟩,j,h.marks.zL d rfl⟩;by_cases f:t'=t
     ·subst f;rw[Ev.nG,zak rfl]at hx;cases hx;exact⟨u,hu,by simpa only[aD]using b⟩
     ·rw[Ev.nG,zad f]at hx;obtain⟨g,f1,f2⟩:=h.env.env t' x hx;exact⟨g,f1,f2.mono e⟩
    obtain⟨c,h2,l⟩:=kf (ts:=r) h1;exact⟨c,h2,d.trans l⟩
   ·obtain⟨G1,h1,e1⟩:=FH (v:=v) h;obtain⟨c,h2,e2⟩:=kf (ts:=r) h1;exact⟨c,h2,e1.trans e2⟩
  ·exact kf h
theorem uy{N:Nat}{ps:List (Nat×Nat×Bool)}{st:St}{G:Gh}{a:Act}{w:World}(h:ik (num ns) n0 N G st a w):∃G',ik (num ns) n0 N G' (Pj ps st) a w∧bL G w G' w:=⟨G,h,bL.refl G w⟩
theorem FI{N:Nat}{ts:List Nat}{st:St}{G:Gh}{a:Act}{w:World}(h:ik (num ns) n0 N G st a w):∃G',ik (num ns) n0 N G' (Tg ts st) a w∧bL G w G' w:=⟨G,h,bL.refl G w⟩
theorem mD{live:List Nat}{env:List (Nat×AV)}:∀{ds:List (Nat×Nat)},jl (bz live env live) ds=true->jl env ds=true
 |[],_=>rfl
 |(a,b)::r,h=>by
  simp only[jl,zaf]at h⊢;refine⟨?_,mD h.2⟩;obtain⟨b1,o1,d,o2,h1,h2,c⟩:=wJ h.1;rw[(dF h1).1,(dF h2).1];simpa[apart]using c
theorem uz{orc:eZ}{k:Nat}{as:List dI}{live:List Nat}{ds:Option (List (Nat×Nat))}{ps:Option (List (Nat×Nat×Bool))}{st b:St}{e:aR}
   (h:cE orc k (behind ds ps (.jt as live)) st=some (e,b)):
   ∃a,br orc as st=some a∧e=.normal∧jl a.env (ds.getD [])=true∧b=Pj (ps.getD []) (restrict live a):=by
 have h1:∀e2 c,cE orc k (match ds with|some ds=>ae.seq (.jt as live) (.Rw ds)|none=>.jt as live) st=some (e2,c)->
     ∃a,br orc as st=some a∧e2=.normal∧jl a.env (ds.getD [])=true∧c=restrict live a:=by
   intro e2 c h;cases ds with
   |none=>
    simp only[cE]at h;split at h
    ·rename_i a h1;simp at h;obtain⟨rfl,rfl⟩:=h;exact⟨a,h1,rfl,rfl,rfl⟩
    ·simp at h
   |some ds=>
    simp only[cE]at h;cases h1:br orc as st with
    |none=>rw[h1]at h;simp at h
    |some a=>
     rw[h1]at h;simp only[zab,zae,zav]at h;obtain⟨h2,rfl,rfl⟩:=h;exact⟨a,rfl,rfl,mD h2,rfl⟩
 unfold behind at h;cases ps with
 |none=>
  obtain⟨a,g1,g2,d,g4⟩:=h1 e b h;exact⟨a,g1,g2,d,g4⟩
 |some ps=>
  simp only[cE]at h;split at h
  ·rename_i c h2;simp at h;obtain⟨a,g1,g2,d,rfl⟩:=h1 _ _ h2;exact⟨a,g1,h.1.symm,d,h.2.symm⟩
  ·rename_i r hr;obtain⟨a,g1,rfl,d,g4⟩:=h1 e b h;exact absurd h (hr b)
def s7(P:Program)(ns:Names):Prop:=∀gb sz ag,look ns.bk gb=some (sz,ag)->∀f,ns.of f=some gb->Nonempty (pN P ns f sz ag)
theorem iw(hm:P.follows .mixedOrders=true)(B:iM P ns){orc:eZ}(j:kJ P ns orc)(q:s7 P ns){A:mA}{N k:Nat}:∀{c:Code}{u:ae},fH P ns A N c=some u->
   ∀{n0:Nat}{ro:Option Nat},(ro=none∨u.eQ=true)->∀{st i:St}{e:aR}{G:Gh}{a:Act}{w:World}{Q:Exit->Act->World->Prop},cE orc k u st=some (e,i)->ik (num ns) n0 N G st a w->
     (∀G' v w',ik (num ns) n0 N G' i v w'->bL G w G' w'->Q (ke e) v w')->c.wpIn (sX ro) 0 P Q a w
 | .skip,u,g,n0,ro,l,st,i,e,G,a,w,Q,d,hs,m=>by
  simp[fH]at g;subst g;simp[cE]at d;obtain⟨rfl,rfl⟩:=d;exact wpIn_skip (m G a w hs (bL.refl G w))
 | .region id ops s,u,g,n0,ro,l,st,i,e,G,a,w,Q,d,hs,m=>by
  simp only[fH]at g;split at g
  ·rename_i as W
   have key:∀o ds ps live,u=lL o (behind ds ps (.jt as live))->(s=true->xL (ds.getD []) ops.toList as=true)->(Code.region id ops s).wpIn (sX ro) 0 P Q a w:=by
    rintro o ds ps live rfl hd
    have F:∀{st:St}{G1:Gh},cE orc k (behind ds ps (.jt as live)) st=some (e,i)->ik (num ns) n0 N G1 st a w->bL G w G1 w->(Code.region id ops s).wpIn (sX ro) 0 P Q a w:=by
     intro st G1 d hs z;obtain⟨I,h1,rfl,h3,rfl⟩:=uz d;refine wL hm B j W hd hs h1 h3 fun G' v w' n p=>?_;obtain⟨M,h4,h5⟩:=uy (ps:=ps.getD []) (n.restrict live);exact m M v w' h4 (z.trans (p.trans ((bL.aW live).trans h5)))
    cases o with
    |none=>exact F d hs (bL.refl G w)
    |some ts=>
     simp only[lL,cE]at d;obtain⟨M,h2,C⟩:=kf (ts:=ts) hs;exact F d h2 C
   have ahead:∀o1 o2 c,u=xM o1 (lL o2 c)->(∀{st:St}{G1:Gh},cE orc k c st=some (e,i)->ik (num ns) n0 N G1 st a w->bL G w G1 w->(Code.region id ops s).wpIn (sX ro) 0 P Q a w)->(Code.region id ops s).wpIn (sX ro) 0 P Q a w:=by
    rintro o1 o2 c rfl hm
    have h2:∀{st:St}{G1:Gh},cE orc k (lL o2 c) st=some (e,i)->ik (num ns) n0 N G1 st a w->bL G w G1 w->(Code.region id ops s).wpIn (sX ro) 0 P Q a w:=by
     intro st G1 d hs z;cases o2 with
     |none=>exact hm d hs z
     |some ts=>
      simp only[lL,cE]at d;obtain⟨M,h2,C⟩:=kf (ts:=ts) hs;exact hm d h2 (z.trans C)
    cases o1 with
    |none=>exact h2 d hs (bL.refl G w)
    |some ts=>
     simp only[xM,cE]at d;obtain⟨M,h3,C⟩:=FI (ts:=ts) hs;exact h2 d h3 C
   split at g
   ·rename_i L;split at g
    ·rename_i K;simp at g;exact key _ _ _ _ g.symm (fun _=>K)
    ·simp at g
   ·rename_i L;have V:s=false:=by simpa using L
    subst V;split at g
    ·simp at g
    ·simp only[zae]at g;refine ahead _ _ _ g.symm fun d hs z=>?_;obtain⟨I,h1,rfl,h3,rfl⟩:=uz d;refine wL hm B j W (fun h=>absurd h L) hs h1 h3 fun G' v w' n p=>?_;obtain⟨M,h4,h5⟩:=uy (ps:=(look A.Le id).getD []) (n.restrict ((look A.live id).getD []));exact m M v w' h4 (z.trans (p.trans ((bL.aW _).trans h5)))
  ·simp at g
 | .seq x y,u,g,n0,ro,l,st,i,e,G,a,w,Q,d,hs,m=>by
  simp only[fH]at g;split at g
  ·rename_i Z Y hx hy;simp at g;subst g;have D:ro=none∨Z.eQ=true:=l.imp_right fun h=>by simp only[ae.eQ,zaf]at h;exact h.1
   have J:ro=none∨Y.eQ=true:=l.imp_right fun h=>by simp only[ae.eQ,zaf]at h;exact h.2
   simp only[cE]at d;refine zbQ ?_;split at d
   ·rename_i I h1;refine iw hm B j q hx D h1 hs fun G' v w' n p=>?_;exact iw hm B j q hy J d n fun aj ai a1 R U=>m aj ai a1 R (p.trans U)
   ·rename_i r hr;refine iw hm B j q hx D d hs fun G' v w' n p=>?_;have:=m G' v w' n p
    cases e with
    |normal=>exact absurd d (hr i)
    |ret=>exact this
    |exit id=>exact this
  ·simp at g
 | .cond c x y,u,g,n0,ro,l,st,i,e,G,a,w,Q,d,hs,m=>by
  simp only[fH]at g;split at g
  ·rename_i ak Z Y a5 hx hy;simp at g;subst g;have D:ro=none∨Z.eQ=true:=l.imp_right fun h=>by simp only[ae.eQ,zaf]at h;exact h.1
   have J:ro=none∨Y.eQ=true:=l.imp_right fun h=>by simp only[ae.eQ,zaf]at h;exact h.2
   simp only[cE]at d;split at d
   ·rename_i t ht;have H:=Gu hs.env a5 ht;simp only[aD,jT]at H;refine wpIn_cond H ?_;cases t with
    |true=>exact iw hm B j q hx D (by simpa using d) hs m
    |false=>exact iw hm B j q hy J (by simpa using d) hs m
   ·simp at d
  ·simp at g
 | .block id b,u,g,n0,ro,l,st,i,e,G,a,w,Q,d,hs,m=>by
  simp only[fH,zac]at g;obtain⟨ab,X,rfl⟩:=g;have E:ro=none∨ab.eQ=true:=l.imp_right fun h=>by simpa only[ae.eQ]using h
  refine wpIn_block ?_;simp only[cE]at d;split at d
  ·rename_i O I h1;refine iw hm B j q X E h1 hs fun G' v w' n p=>?_;split at d
   ·rename_i Yj;simp at d;obtain⟨rfl,rfl⟩:=d;simp only[ke,Exit.inBlock,Yj,za0];exact m G' v w' n p
   ·rename_i Yj;simp at d;obtain⟨rfl,rfl⟩:=d;simp only[ke,Exit.inBlock,Yj,zbg];exact m G' v w' n p
  ·rename_i r hr;refine iw hm B j q X E d hs fun G' v w' n p=>?_;have:=m G' v w' n p
   cases e with
   |normal=>exact this
   |ret=>exact this
   |exit O=>exact absurd d (hr O i)
 | .loop b,u,g,n0,ro,l,st,i,e,G,a,w,Q,d,hs,m=>by
  simp only[fH,zac]at g;obtain⟨ab,X,rfl⟩:=g;have E:ro=none∨ab.eQ=true:=l.imp_right fun h=>by simpa only[ae.eQ]using h
  simp only[cE]at d;refine wpIn_loop_rounds k ?_;exact rX (fun h=>h.head _) (fun h1 h2 h3=>iw hm B j q X E h1 h2 h3) k d hs m
 | .exit id,u,g,n0,ro,l,st,i,e,G,a,w,Q,d,hs,m=>by
  simp[fH]at g;subst g;simp[cE]at d;obtain⟨rfl,rfl⟩:=d;exact wpIn_exit (m G a w hs (bL.refl G w))
 | .ret,u,g,n0,ro,l,st,i,e,G,a,w,Q,d,hs,m=>by
  simp[fH]at g;subst g;simp[cE]at d;obtain⟨rfl,rfl⟩:=d;exact zcQ (m G a w hs (bL.refl G w))
 | .rangeFunc f ps x y,u,g,n0,ro,l,st,i,e,G,a,w,Q,d,hs,m=>by
  cases f with
  |tmp t=>
   simp only[fH]at g;split at g
   ·rename_i pi px gb a3 al;split at g
    ·rename_i sz ag Z Y ad hx hy;split at g
     ·rename_i K;obtain⟨nx,ny,a4,a2⟩:=K;simp at g;subst g;have S:ro=none:=l.resolve_right (by simp[ae.eQ]);subst S
      have T:ps=#[pi,px]:=by
       have:=zcn List.toArray a3;simpa using this
      subst T;simp only[cE]at d
      exact FD B j (q gb _ _ ad)
        (fun h1 h2 h3=>iw hm B j q hx (.inr nx) h1 h2 h3) (fun h1 h2 h3=>iw hm B j q hy (.inr ny) h1 h2 h3) a4 a2 d hs m
     ·simp at g
    ·simp at g
   ·simp at g
  |_=>simp[fH]at g
 | .scope _,u,g,n0,ro,l,st,i,e,G,a,w,Q,d,hs,m=>by simp[fH]at g
 | .label _,u,g,n0,ro,l,st,i,e,G,a,w,Q,d,hs,m=>by simp[fH]at g
 | .goto _,u,g,n0,ro,l,st,i,e,G,a,w,Q,d,hs,m=>by simp[fH]at g
 | .refuse _,u,g,n0,ro,l,st,i,e,G,a,w,Q,d,hs,m=>by simp[fH]at g
end
end Go.Ab
namespace Go.Ab
section
variable {P:Program} {ns:Names} {G:Gh} {w:World}
theorem uA:∀{l:List AV}{i t:Nat}{v:AV},look (bK i l) t=some v->i<=t∧l[t-i]?=some v
 |[],i,t,v,h=>by simp[bK,look]at h
 |x::l,i,t,v,h=>by
  simp only[bK,look]at h;split at h
  ·rename_i e;subst e;cases h;simp
  ·rename_i a;obtain⟨h1,h2⟩:=uA h;refine⟨by omega,?_⟩;rw[show t-i=(t-(i+1))+1 from by omega];simpa using h2
theorem MT{N:Nat}{args:List AV}{vs:List Value}(hr:aB (num ns) G args vs)(hN:args.length<=N):
   mN (num ns) G N (bK 0 args) {tmps:=vs.toArray++Array.replicate (N-vs.toArray.size) undef,defers:=[]}:=by
 have hl:=hr.length;refine⟨by simp;omega,fun t x hx=>?_⟩;obtain⟨_,h2⟩:=uA hx;simp only[zbC]at h2;obtain⟨v,h3,h4⟩:=hr.get h2;refine⟨v,?_,h4⟩;rw[zc1 (by have:=(zaa.1 h3).1;simpa using this)];simpa using h3
theorem rY{n0 N:Nat}{st:St}{a:Act}(hs:ik (num ns) n0 N G st a w){F:ResultVar->Sem Value}(m:∀t,F (.tmp t)=pure (a.tmps.getD t undef))(j:∀x t,F (.cell x t)=(do loadVar t (<-asAddr (a.tmps.getD x undef)))):∀{i:List ResultVar}{rs:List qo}{xs:List AV},dm (Gt P) i=some rs->eC st rs=some xs->
   ∃vs,(i.mapM F).run P w=.ok vs w∧aB (num ns) G xs vs
 |[],rs,xs,h,hx=>by
  simp[dm]at h;subst h;simp[eC]at hx;subst hx;exact⟨[],by simp,by simp[aB]⟩
 |r::i,rs,xs,h,hx=>by
  simp only[dm]at h;split at h
  ·rename_i ar C h1 h2;simp at h;subst h;simp only[eC]at hx;split at hx
   ·rename_i v y g1 g2;simp at hx;subst hx;obtain⟨us,A,z⟩:=rY hs m j h2 g2
    have one:∃u,(F r).run P w=.ok u w∧aD (num ns) G v u:=by
     cases r with
     |tmp t=>
      simp[Gt]at h1;subst h1;simp only[rf]at g1;obtain⟨u,e1,e2⟩:=hs.env.env t v g1;exact⟨u,by rw[m];simp[e1],e2⟩
     |cell x t=>
      simp only[Gt]at h1;split at h1
      ·rename_i sz ag k l;simp at h1;subst h1;simp only[rf]at g1;split at g1
       ·rename_i d e1;split at g1
        ·rename_i cs e2;simp only[zab]at g1;obtain⟨rfl,g1⟩:=g1;obtain⟨u,f1,f2⟩:=hs.env.env _ _ e1;simp only[aD]at f2;obtain⟨b,hp,rfl⟩:=f2;obtain⟨B,f,g,_⟩:=hs.inv.cV _ _ e2;rw[hp]at f;cases f;obtain⟨_,c,ty,q,e⟩:=g;obtain⟨u,o,n⟩:=jA (w:=w) k l g1 e (kS q);exact⟨u,by rw[j];simp[f1,asAddr,o],n⟩
        ·cases g1
       ·rename_i s e1;split at g1
        ·rename_i cs e2;split at g1
         ·cases g1
         ·rename_i hm;obtain⟨u,f1,f2⟩:=hs.env.env _ _ e1;simp only[aD]at f2;obtain⟨b,hp,rfl⟩:=f2;obtain⟨B,f,g,_⟩:=hs.inv.dU _ _ e2;rw[hp]at f;cases f;obtain⟨_,c,ty,vs,suf,q,_,p,e⟩:=g.cells (by simpa using hm);obtain⟨u,o,n⟩:=jA (w:=w) k l g1 e (pn q p);exact⟨u,by rw[j];simp[f1,asAddr,o],n⟩
        ·cases g1
       ·cases g1
      ·simp at h1
    obtain⟨u,o1,o2⟩:=one;refine⟨u::us,?_,?_⟩
    ·rw[zcC];simp only[zau];rw[o1];simp only[zag];rw[A];rfl
    ·simp only[aB];exact⟨u,us,rfl,o2,z⟩
   ·simp at hx
  ·simp at h
theorem oY{G':Gh}{sh:Sh}{ks:List Nat}(a:G.le G')(hf:kU ns G G' sh ks)(hl:∀(s:Nat)(cells:List AV),sh[s]?=some (some cells)->cells.all aZ=true)
   {x:AV} {v:Value} (b:∀s∈gN x,s∈ks) (h:aD (num ns) G x v):aD (num ns) G' (lr sh x) v:=by
 unfold lr;split
 ·rename_i p hp;simp only[aD];exact tV a hf hl b hp h
 ·exact h.mono a
theorem MU{G':Gh}{sh:Sh}{ks:List Nat}(a:G.le G')(hf:kU ns G G' sh ks)(hl:∀(s:Nat)(cells:List AV),sh[s]?=some (some cells)->cells.all aZ=true)
   {x:AV} {v:Value} (c:aZ x=true->∀s∈gN x,s∈ks) (h:aD (num ns) G x v):aD (num ns) G' (qq sh x) v:=by
 unfold qq;split
 ·exact h.mono a
 ·split
  ·rename_i b;exact oY a hf hl (c b) h
  ·exact h.mono a
theorem wX{G':Gh}{sh:Sh}{ks:List Nat}(a:G.le G')(hf:kU ns G G' sh ks)(hl:∀(s:Nat)(cells:List AV),sh[s]?=some (some cells)->cells.all aZ=true):
   ∀{cs:List AV}{vs:List Value},(∀s∈gN (.agg cs),s∈ks)->aB (num ns) G cs vs->aB (num ns) G' (cs.map (qq sh)) vs
 |[],vs,_,h=>by simpa[aB]using h
 |c::cs,vs,b,h=>by
  simp only[aB]at h;obtain⟨v,r,e,e1,e2⟩:=h;simp only[zao,aB];refine⟨v,r,e,MU a hf hl (fun d s hs=>b s ?_) e1,wX a hf hl (fun s hs=>b s ?_) e2⟩
  ·simp only[gN,zas,zai];left;cases c<;>simp_all[gN,aZ]
  ·simp only[gN,zas,zai]at hs⊢;exact .inr hs
theorem MV{G':Gh}{sh:Sh}{ks:List Nat}(a:G.le G')(hf:kU ns G G' sh ks)(hl:∀(s:Nat)(cells:List AV),sh[s]?=some (some cells)->cells.all aZ=true)
   {x:AV} {v:Value} (b:∀s∈gN x,s∈ks) (h:aD (num ns) G x v):aD (num ns) G' (mG sh x) v:=by
 unfold mG;split
 ·exact h.mono a
 ·exact h.mono a
 ·simp only[aD]at h⊢;obtain⟨vs,e,r⟩:=h;exact⟨vs,e,wX a hf hl b r⟩
 ·exact oY a hf hl b h
theorem oZ{G':Gh}{sh:Sh}{ks:List Nat}{F:Sh->AV->AV}(b:∀{x:AV}{v:Value},(∀s∈gN x,s∈ks)->aD (num ns) G x v->aD (num ns) G' (F sh x) v):
   ∀{xs:List AV}{vs:List Value},(∀s∈xs.flatMap gN,s∈ks)->aB (num ns) G xs vs->aB (num ns) G' (xs.map (F sh)) vs
 |[],vs,_,h=>by simpa[aB]using h
 |x::xs,vs,a,h=>by
  simp only[aB]at h;obtain⟨v,r,e,e1,e2⟩:=h;simp only[zas,zai]at a;simp only[zao,aB];exact⟨v,r,e,b (fun s hs=>a s (.inl hs)) e1,oZ b (fun s hs=>a s (.inr hs)) e2⟩
theorem FJ{G':Gh}{sh:Sh}{ks:List Nat}{aW b:Bool}(a:G.le G')(hf:kU ns G G' sh ks)(hl:∀(s:Nat)(cells:List AV),sh[s]?=some (some cells)->cells.all aZ=true)
   {xs:List AV} {vs:List Value} (c:∀s∈xs.flatMap gN,s∈ks) (h:aB (num ns) G xs vs):aB (num ns) G' (cp aW b sh xs) vs:=by
 unfold cp;split
 ·split
  ·exact aB.mono a h
  ·exact oZ (MV a hf hl) c h
 ·exact oZ (oY a hf hl) c h
theorem FK{xs:List AV}{vs:List Value}(h:aB (num ns) G xs vs):dz (num ns) G xs (if h:vs.toArray.size=1 then vs.toArray[0]else .tuple vs.toArray):=by
 unfold dz;split
 ·rename_i r;simp only[aB]at h;obtain⟨v,a,e,e1,e2⟩:=h;subst e2;subst e;simpa using e1
 ·rename_i hn;have hl:=h.length;rw[dif_neg]
  ·exact⟨vs,rfl,h⟩
  ·intro e;simp at e;rw[e]at hl;cases xs with
   |nil=>simp at hl
   |cons x xs=>
    cases xs with
    |nil=>exact hn x rfl
    |cons _ _=>simp at hl
end
mutual
theorem uB{ρ:bU}{G G':Gh}{n:Nat}(hK:G.K.le G'.K)(hs:∀s b,s<n->G.sm s=some b->G'.sm s=some b):∀{x:AV}{v:Value},bJ x=true->aK n x=true->aD ρ G x v->aD ρ G' x v
 | .pv p,_,_,_,h=>by simp only[aD]at h⊢;exact h.mono hK
 | .aI s o,_,_,hr,h=>by simp[aK]at hr;simp only[aD]at h⊢;obtain⟨b,e,r⟩:=h;exact⟨b,hs _ _ hr e,r⟩
 | .bh s _ n _,_,_,hr,h=>by simp[aK]at hr;simp only[aD]at h⊢;obtain⟨b,c,e,r⟩:=h;exact⟨b,c,hs _ _ hr e,r⟩
 | .ic,_,_,_,h=>by simpa only[aD]using h
 | .jN s,_,_,hr,h=>by simp[aK]at hr;simp only[aD]at h⊢;obtain⟨b,e,r⟩:=h;exact⟨b,hs _ _ hr e,r⟩
 | .ql ..,_,hp,_,_=>by simp[bJ]at hp
 | .fM _,_,_,_,h=>by simp only[aD]at h
 | .fn g cap,_,hp,hr,h=>by
  simp only[bJ]at hp;simp only[aK]at hr;simp only[aD]at h⊢;obtain⟨f,vs,e1,e2,r⟩:=h;exact⟨f,vs,e1,e2,qJ hK hs hp hr r⟩
 | .un,_,hp,_,_=>by simp[bJ]at hp
 | .cQ _,_,_,_,h=>by simp only[aD]at h⊢;obtain⟨b,l,e,r⟩:=h;exact⟨b,l,e,r.mono hK⟩
 | .own _ _,_,hp,_,_=>by simp[bJ]at hp
 | .agg _,_,hp,hr,h=>by
  simp only[bJ]at hp;simp only[aK]at hr;simp only[aD]at h⊢;obtain⟨vs,e,r⟩:=h;exact⟨vs,e,qJ hK hs hp hr r⟩
 | .qj _,_,hp,_,_=>by simp[bJ]at hp
 | .au _ _,_,hp,_,_=>by simp[bJ]at hp
 | .dQ _,_,hp,_,_=>by simp[bJ]at hp
theorem qJ{ρ:bU}{G G':Gh}{n:Nat}(hK:G.K.le G'.K)(hs:∀s b,s<n->G.sm s=some b->G'.sm s=some b):∀{xs:List AV}{vs:List Value},bJ.iG xs=true->aK.cz n xs=true->aB ρ G xs vs->aB ρ G' xs vs
 |[],_,_,_,h=>by simpa only[aB]using h
 |x::xs,_,hp,hr,h=>by
  simp only[bJ.iG,zaf]at hp;simp only[aK.cz,zaf]at hr;simp only[aB]at h⊢;obtain⟨v,r,e,e1,e2⟩:=h;exact⟨v,r,e,uB hK hs hp.1 hr.1 e1,qJ hK hs hp.2 hr.2 e2⟩
end
section
variable {P:Program} {ns:Names} {G:Gh} {w:World}
theorem uD{ρ:bU}{G':Gh}{n:Nat}(hK:G.K.le G'.K)(hs:∀s b,s<n->G.sm s=some b->G'.sm s=some b)(a:∀τ t,G.tk τ=some t->G'.tk τ=some t):∀{xs:List AV}{vs:List Value},fW xs=true->aK.cz n xs=true->aB ρ G xs vs->aB ρ G' xs vs
 |[],_,_,_,h=>by simpa only[aB]using h
 |x::xs,_,hp,hr,h=>by
  simp only[fW,zaf]at hp;simp only[aK.cz,zaf]at hr;simp only[aB]at h⊢;obtain⟨v,r,e,e1,e2⟩:=h;refine⟨v,r,e,?_,uD hK hs a hp.2 hr.2 e2⟩;cases x with
  |own l τ=>
   simp only[aD]at e1⊢;obtain⟨t,g,f,d,c⟩:=e1;exact⟨t,a _ _ g,f,d.mono hK,fun hl=>⟨(c hl).1,Pl (c hl).2 fun⟨b,o,e,r⟩=>⟨b,o,e,Row.mono hK _ _ _ _ r⟩⟩⟩
  |_=>exact uB hK hs (show bJ _=true from hp.1) hr.1 e1
theorem Kq{ρ:bU}{G':Gh}{n:Nat}(hK:G.K.le G'.K)(hs:∀s b,s<n->G.sm s=some b->G'.sm s=some b)(a:∀τ t,G.tk τ=some t->G'.tk τ=some t){x:AV}{v:Value}(hp:bE x=true)(hr:aK n x=true)(h:aD ρ G x v):aD ρ G' x v:=by
 cases x with
 |own l τ=>
  simp only[aD]at h⊢;obtain⟨t,e1,e2,e3,e4⟩:=h;exact⟨t,a _ _ e1,e2,e3.mono hK,fun hl=>⟨(e4 hl).1,Pl (e4 hl).2 fun⟨b,o,e,r⟩=>⟨b,o,e,Row.mono hK _ _ _ _ r⟩⟩⟩
 |agg cs=>
  simp only[aK]at hr;simp only[aD]at h⊢;obtain⟨vs,e,r⟩:=h;exact⟨vs,e,uD hK hs a (by simpa[bE]using hp) hr r⟩
 |_=>exact uB hK hs (show bJ _=true from hp) hr h
theorem o5{ρ:bU}{G':Gh}{n:Nat}(hK:G.K.le G'.K)(hs:∀s b,s<n->G.sm s=some b->G'.sm s=some b)(a:∀τ t,G.tk τ=some t->G'.tk τ=some t):∀{xs:List AV}{vs:List Value},xs.all bE=true->xs.all (aK n)=true->aB ρ G xs vs->aB ρ G' xs vs
 |[],_,_,_,h=>by simpa only[aB]using h
 |x::xs,_,hp,hr,h=>by
  simp only[zaS,zaf]at hp hr;simp only[aB]at h⊢;obtain⟨v,r,e,e1,e2⟩:=h;exact⟨v,r,e,Kq hK hs a hp.1 hr.1 e1,o5 hK hs a hp.2 hr.2 e2⟩
def Gh.bare(G:Gh):Gh:={G with pm:=fun _=>none,role:=fun b=>match G.role b with| .mK _=>.d9|r=>r}
theorem Inv.bare{mem:List (Nat×List AV)}{sh:Sh}{ts:aG}(hi:Inv (num ns) G w mem sh ts):Inv (num ns) G.bare w [] sh ts where
 known:=hi.known
 a_:=fun b o v i=>by
  rcases hi.a_ b o v i with h|⟨τ,h⟩
  ·exact .inl (by simp[Gh.bare,h])
  ·exact .inr ⟨τ,by simp[Gh.bare,h]⟩
 fresh:=fun b f=>by simp[Gh.bare,hi.fresh b f]
 cV:=fun d cells h=>by simp[look]at h
 i7:=fun d b h=>by simp[Gh.bare]at h
 dU:=fun s cells hs=>by
  obtain⟨b,e1,e2,e3,e4⟩:=hi.dU s cells hs;obtain⟨hr,o,j,a⟩:=e2;exact⟨b,e1,⟨by simp[Gh.bare,hr],o,j,a.to (fun _ _ _ h=>h) (fun _ e=>e) (fun _ r=>j_ (G:=G) (G':=G.bare) (bo.le_refl _) (fun _ _ h=>h) (fun _ _ h=>h) (jD e3) r)⟩,e3,e4⟩
 gO:=hi.gO
 dp:=fun τ n h=>by
  obtain⟨t,e1,e2,e3⟩:=hi.dp τ n h;refine⟨t,e1,e2,e3.cap,e3.zero,fun g=>?_⟩;obtain⟨b,o,c,ty,f1,f2,f3,k,f5⟩:=e3.spare g;exact⟨b,o,c,ty,f1,by simp[Gh.bare,f2],f3,k,f5⟩
 gX:=hi.gX
 nZ:=fun b c f=>⟨by simp[Gh.bare,(hi.nZ b c f).1],(hi.nZ b c f).2⟩
def Gh.ou(G:Gh)(n:Nat):Gh:={G with sm:=fun s=>if s<n then G.sm s else none}
theorem Inv.ou{sh:Sh}{ts:aG}(hi:Inv (num ns) G w [] sh ts)(n:Nat):Inv (num ns) (G.ou n) w [] (sh.take n) ts where
 known:=hi.known
 a_:=hi.a_
 fresh:=hi.fresh
 cV:=fun d cells h=>by simp[look]at h
 i7:=hi.i7
 dU:=fun s cells hs=>by
  rw[zbE]at hs;split at hs
  ·rename_i c;obtain⟨b,e1,e2,e3,e4⟩:=hi.dU s cells hs;obtain⟨hr,o,g,a⟩:=e2;exact⟨b,by simp[Gh.ou,c,e1],⟨hr,o,g,a.to (fun _ _ _ h=>h) (fun _ e=>e) (fun _ r=>o5 (G:=G) (G':=G.ou n) (n:=s+1) (bo.le_refl G.K) (fun s' i f h=>by simp only[Gh.ou];rw[zak (by omega)];exact h) (fun _ _ h=>h) (jD e3) e4 r)⟩,e3,e4⟩
  ·simp at hs
 gO:=fun s b h=>by
  simp only[Gh.ou]at h;split at h
  ·have:=hi.gO s b h;simp;omega
  ·simp at h
 dp:=fun τ n h=>by
  obtain⟨t,e1,e2,e3⟩:=hi.dp τ n h;exact⟨t,e1,e2,e3.cap,e3.zero,e3.spare⟩
 gX:=hi.gX
 nZ:=hi.nZ
theorem Inv.shut{mem:List (Nat×List AV)}{sh:Sh}{aa:aG}{D:Nat}{x:Option (List Deferred)}(hi:Inv (num ns) G w mem sh aa)(e:w.heap[D]?=some (.deferred x)):
   Inv (num ns) G (w.putObj D (.deferred none)) mem sh aa:=by
 have a:∀{b:Nat}{c:Array Value}{t:TypeId},w.heap[b]?=some (.cells c t (0,0))->(w.putObj D (.deferred none)).heap[b]?=some (.cells c t (0,0)):=by
  intro b c t h;rw[zaF]
  ·exact h
  ·rintro rfl;rw[e]at h;cases h
 have f:(w.putObj D (.deferred none)).heap.size=w.heap.size:=by simp[World.putObj]
 refine {hi with known:=?_,fresh:=?_,cV:=?_,dU:=?_,dp:=?_,nZ:=?_}
 ·intro b o v d;have h:=hi.known b o v d;rw[<-h];have:b≠D:=by rintro rfl;simp[World.cell?,e]at h
  simp only[World.cell?,zaF this]
 ·intro b i;exact hi.fresh b (by omega)
 ·intro k cs d;obtain⟨b,e1,⟨e2,c,t,e3,e4⟩,e5⟩:=hi.cV k cs d;exact⟨b,e1,⟨e2,c,t,a e3,e4⟩,e5⟩
 ·intro k cs d;obtain⟨b,e1,⟨e2,o,e3,e4⟩,e5⟩:=hi.dU k cs d;refine⟨b,e1,⟨e2,o,?_,e4⟩,e5⟩;rw[zaF]
  ·exact e3
  ·rintro rfl
   rw[e]at e3;cases e3;rcases e4 with⟨_,_,_,_,h,_⟩|⟨_,_,_,h,_⟩<;>cases h
 ·intro τ n hn;obtain⟨t,e1,e2,e3⟩:=hi.dp τ n hn;refine⟨t,e1,e2,e3.cap,e3.zero,fun g=>?_⟩;obtain⟨b,o,c,ty,f1,f2,f3,j,f5⟩:=e3.spare g;exact⟨b,o,c,ty,f1,f2,a f3,j,f5⟩
 ·intro b c i;obtain⟨h1,t',z,h2⟩:=hi.nZ b c i;refine⟨h1,t',z,?_⟩;rw[zaF]
  ·exact h2
  ·rintro rfl;rw[e]at h2;cases h2
theorem bL.shut{G':Gh}{w':World}{D:Nat}(a:bL G w G' w')(d:w.heap.size<=D):bL G w G' (w'.putObj D (.deferred none)):=
 { a with
  size:=by simpa[World.putObj]using a.size
  os:=by simpa[World.putObj]using a.os
  tape:=by simpa[World.putObj]using a.tape
  output:=by simpa[World.putObj]using a.output
  d9:=fun b c hr=>by
   obtain⟨h1,h2⟩:=a.d9 b c hr;exact⟨h1,by rw[zaF (by omega)];exact h2⟩}
theorem rZ{fn:Func}{tmps:Array Value}{R:Ending->World->Prop}{mem:List (Nat×List AV)}{sh:Sh}{aa:aG}{G':Gh}:∀(Ds:List Nat)(w':World),Inv (num ns) G' w' mem sh aa->bL G w G' w'->Ds.Nodup->
   (∀D∈Ds,w.heap.size<=D∧w'.heap[D]?=some (.deferred (some [])))->
   (∀a,Inv (num ns) G' a mem sh aa->bL G w G' a->∃v,(results fn tmps).run P a=.ok v a∧R (.returned v) a)->
   LeavesInM Fence.wide 0 P fn tmps R (Ds.map (fun D=>{target:=.collected D,args:=#[]})) .returning w'
 |[],w',hi,b,_,_,h=>h w' hi b
 |D::Ds,w',hi,b,hn,d,h=>by
  obtain⟨h1,h2⟩:=d D (by simp);refine⟨by simp,.inl ⟨D,_,rfl,run_takeDeferred h2,?_⟩⟩;simp only[zcy]at hn;refine rZ Ds _ (hi.shut h2) (b.shut h1) hn.2 (fun E c=>?_) h;obtain⟨g1,g2⟩:=d E (by simp[c]);refine⟨g1,?_⟩;rw[zaF]
  ·exact g2
  ·rintro rfl;exact hn.1 c
theorem uE(hm:P.follows .mixedOrders=true)(hB:iM P ns)(Z:s7 P ns){orc:eZ}(J:kJ P ns orc){A:mA}{k f:Nat}{aW:Bool}{fn:Func}{af:aw}(hf:P.funcs[f]?=some fn)(L:ri P ns A fn=some af)
   {args rs:List AV} {vs:List Value} {sh sh':Sh} {ts ts':aG} (hi:Inv (num ns) G w [] sh ts) (hr:aB (num ns) G args vs) (hN:args.length<=af.ntmps) (h:cj orc k aW af args sh ts=some (rs,sh',ts')):
   (Calls P f vs.toArray w fun e w'=>∃v G',e=.returned v∧dz (num ns) G' rs v∧Inv (num ns) G' w' [] sh' ts'∧bL G w G' w')∧rs.all bE=true:=by
 unfold ri at L;split at L
 ·rename_i c a2 uv ie;simp only[zab,zac]at L;obtain⟨_,ac,Y,rfl⟩:=L;unfold cj at h;split at h
  ·rename_i e st X;simp only[zab]at h;obtain⟨he,h⟩:=h;split at h
   ·rename_i xs S;simp only[zab]at h;obtain⟨j,h⟩:=h;let g:=A.ks;let i:Sh:=fF aW g st.sh xs;let Ry:Sh:=if(cp aW g st.sh xs).all (aK sh.length)=true then i.take sh.length else i;have h:some ((ct st.aa (cp aW g st.sh xs) Ry).1,(ct st.aa (cp aW g st.sh xs) Ry).2.1,(ct st.aa (cp aW g st.sh xs) Ry).2.2.2)=some (rs,sh',ts'):=h;simp only[zae,zav]at h;obtain⟨Zk,U,T⟩:=h;have x:rs.all bE=true:=by rw[<-Zk];exact jd j
    refine⟨?_,x⟩;refine callsIn_wide (n:=0).1 (callsIn_of_wp_marks hf uv trivial ?_ rfl);have V:ik (num ns) w.heap.size fn.ntmps G {env:=bK 0 args,mem:=[],sh,aa:=ts} {tmps:=vs.toArray++Array.replicate (fn.ntmps-vs.toArray.size) undef,defers:=[]} w:=⟨MT hr hN,hi,zaj _,[],rfl,by simp,by simp⟩;refine iw (ro:=none) hm hB J Z Y (.inl rfl) X V fun G' M w1 r B=>?_
    have key:LeavesInM Fence.wide 0 P fn M.tmps (fun e w'=>∃v G',e=.returned v∧dz (num ns) G' rs v∧Inv (num ns) G' w' [] sh' ts'∧bL G w G' w') M.defers .returning w1:=by
     obtain⟨m0,Ds,m1,m2,m3⟩:=r.marks;rw[m1];refine rZ Ds w1 r.inv B m2 (fun D hD=>⟨(m3 D hD).1,(m3 D hD).2.2.2⟩) ?_;intro w' W z;have u:ik (num ns) w.heap.size fn.ntmps G' st {tmps:=M.tmps,defers:=[]} w':=⟨⟨r.env.size,r.env.env⟩,W,z.size,[],rfl,by simp,by simp⟩;obtain⟨us,u1,u2⟩:=rY (P:=P) u (F:=fun| .tmp t=>pure (M.tmps.getD t undef)| .cell ad t=>do loadVar t (<-asAddr (M.tmps.getD ad undef))) (fun _=>rfl) (fun _ _=>rfl) ie S;refine⟨(if h:us.toArray.size=1 then us.toArray[0]else .tuple us.toArray),?_,?_⟩
     ·unfold results;rw[zc4];simp only[zau,Sem.run_map]
      erw [u1]
      rfl
     ·obtain⟨G1,R,Q,O,I⟩:∃G1,Inv (num ns) G1 w' st.mem i st.aa∧G'.le G1∧bL G' w' G1 w'∧aB (num ns) G1 (cp aW g st.sh xs) us:=by
       by_cases p:(aW && g)=true
       ·refine⟨G',?_,Gh.le_refl _,bL.refl _ _,?_⟩
        ·have:i=st.sh:=by simp only[i,fF,p,za0]
         rw[this];exact u.inv
        ·have:cp aW g st.sh xs=xs:=by
          simp only[zaf]at p;simp only[cp,p.1,p.2,za0]
         rw[this];exact u2
       ·obtain⟨G1,R,Q,O,k4,k5⟩:=Inv.kill (xs.flatMap gN) u.inv;refine⟨G1,?_,Q,O,FJ (aW:=aW) Q k4 u.inv.x8 (fun s hs=>hs) u2⟩
        have:i=eN st.sh xs:=by
         simp only[i,fF];rw[zad p]
        rw[this];exact R
      have q:=j_ (G:=G1) (G':=G1.bare) (bo.le_refl _) (fun _ _ h=>h) (fun _ _ h=>h) j I;have C:=R.bare;have d:=z.trans O
      obtain⟨G2,i2,r2,e2⟩:∃G2,Inv (num ns) G2 w' [] Ry st.aa∧aB (num ns) G2 (cp aW g st.sh xs) us∧bL G w G2 w':=by
       have a:bL G w G1.bare w':={
         size:=d.size,os:=d.os,tape:=d.tape,output:=d.output,K:=d.K,sm:=d.sm,
         d9:=fun b N hr=>⟨by simp[Gh.bare,(d.d9 b N hr).1],(d.d9 b N hr).2⟩
         jR:=fun b τ N hr=>by
          rcases d.jR b τ N hr with h|⟨τ',h⟩
          ·exact .inl (by simp[Gh.bare,h])
          ·exact .inr ⟨τ',by simp[Gh.bare,h]⟩
         i_:=d.i_}
       by_cases o:(cp aW g st.sh xs).all (aK sh.length)=true
       ·have l:Ry=i.take sh.length:=zak o;rw[l];refine⟨G1.bare.ou sh.length,C.ou sh.length,o5 (G:=G1.bare) (G':=G1.bare.ou sh.length) (n:=sh.length) (bo.le_refl _) (fun s b hs h=>by simp only[Gh.ou];rw[zak hs];exact h) (fun _ _ h=>h) j o q,?_⟩
        exact { size:=a.size,os:=a.os,tape:=a.tape,output:=a.output,K:=a.K,
                sm:=fun s b H=>by
                 have:=hi.gO s b H;show(if s<sh.length then G1.sm s else none)=some b;rw[zak this];exact a.sm s b H
                d9:=a.d9,jR:=a.jR,i_:=a.i_}
       ·have l:Ry=i:=zad o;rw[l];exact⟨G1.bare,C,q,a⟩
      obtain⟨m,tks,a1,E,y⟩:=i2.HY j r2;rw[Zk]at y;rw[U,T]at E;exact⟨_,G2.to m tks,rfl,FK y,E,e2.to m tks⟩
    cases e with
    |normal=>exact key
    |ret=>exact key
    |exit id=>simp at he
   ·simp at h
  ·simp at h
 ·simp at L
theorem wm{orc:eZ}{k:Nat}{aW:Bool}{af:aw}{args rs:List AV}{sh sh':Sh}{ts ts':aG}(h:cj orc k aW af args sh ts=some (rs,sh',ts')):rs.all bE=true:=by
 unfold cj at h;split at h
 ·split at h
  ·split at h
   ·simp only[zab]at h;obtain⟨hp,h⟩:=h;have e:=zcn Prod.fst (zcT h);dsimp only at e;rw[<-e];exact jd hp
   ·simp at h
  ·simp at h
 ·simp at h
structure Impl(P:Program)(ns:Names)(AP:Nat->Option aw):Prop where
 mixed:P.follows .mixedOrders=true
 funcs:∀f g,ns.of f=some g->(∃fn A af,P.funcs[f]?=some fn∧ri P ns A fn=some af∧AP g=some af)∨
   ((∃fn b,P.funcs[f]?=some fn∧fn.body=some b∧fn.name ≠ "runtime.NumGoroutine") ∧
     (AP g=none∨∃af pf,AP g=some af∧af.qp=some pf∧af.body=.exit 0∧∀orc,kJ P ns orc->∀dV rs,pf.f orc.p dV=some rs->Rz P ns f dV rs))
 Gq:s7 P ns
 TT:∀g sz bytes f,look ns.cl g=some (sz,bytes)->ns.of f=some g->Nonempty (lz P ns f sz bytes)
theorem Impl.MW{AP:Nat->Option aw}(h:Impl P ns AP):iM P ns:=by
 intro f g a;rcases h.funcs f g a with⟨fn,A,af,h1,h2,_⟩|⟨⟨fn,b,h1,h2,h3⟩,_⟩
 ·unfold ri at h2;split at h2
  ·rename_i b rs c _;simp only[zab]at h2;obtain⟨⟨_,hn⟩,_⟩:=h2;exact⟨fn,b,h1,c,by simpa using hn⟩
  ·simp at h2
 ·exact⟨fn,b,h1,h2,h3⟩
theorem FL{A:mA}{fn:Func}{af:aw}(h:ri P ns A fn=some af):af.qp=none:=by
 unfold ri at h;split at h
 ·simp only[zab,zac]at h;obtain⟨_,_,_,rfl⟩:=h;rfl
 ·simp at h
theorem uF:∀{rs:List AV}{ps:List PV},fp rs=some ps->rs=ps.map .pv
 |[],ps,h=>by simp[fp]at h;subst h;rfl
 |x::rs,ps,h=>by
  cases x with
  |pv p=>
   simp only[fp,zac]at h;obtain⟨a,h1,rfl⟩:=h;simp[uF h1]
  |_=>simp[fp]at h
theorem r_:∀{ps:List PV}{vs:List Value},aB (num ns) G (ps.map .pv) vs->lK G.K ps vs
 |[],vs,h=>by simp only[zbk,aB]at h;exact h
 |p::ps,vs,h=>by
  simp only[zao,aB]at h;obtain⟨v,r,e,e1,e2⟩:=h;simp only[aD]at e1;exact⟨v,r,e,e1,r_ e2⟩
theorem Kr{ps:List PV}{v:Value}(h:dz (num ns) G (ps.map .pv) v):mR G.K ps v:=by
 unfold mR;split
 ·rename_i p;simp only[zao,zbk,dz,aD]at h;exact h
 ·rename_i hn;unfold dz at h;split at h
  ·rename_i r e;cases ps with
   |nil=>simp at e
   |cons q a=>
    cases a with
    |nil=>exact absurd rfl (hn q)
    |cons _ _=>simp at e
  ·obtain⟨vs,e,h⟩:=h;exact⟨vs,e,r_ h⟩
theorem wY{AP:Nat->Option aw}(i:Impl P ns AP)(k:Nat):∀n,kJ P ns (run AP k n)
 |0=>⟨fun g f dV rs _ h=>by simp[run]at h,fun g f args ts rs sh sh' ts' _ _ h=>by simp[run]at h,fun g sz y f h1 h2=>(i.TT g sz y f h1 h2).elim BP⟩
 |n+1=>by
  have p:=wY i k n;refine⟨fun g f dV rs x h=>?_,fun g f args ts rs sh sh' ts' x hp h=>?_,p.c⟩
  ·rcases i.funcs f g x with⟨fn,A,af,h1,h2,h3⟩|⟨_,h3|⟨af,pf,h3,h4,_,h5⟩⟩
   ·simp only[run,h3,FL h2,zab]at h;obtain⟨⟨_,hN⟩,h⟩:=h;split at h
    ·rename_i xs z j;obtain⟨sh',ts'⟩:=z;have q:=uF h;subst q;intro K w vs l hK hr;let m:Gh:={K,role:=fun _=>.d9,pm:=fun _=>none,sm:=fun _=>none,tk:=fun _=>none}
     have hi:Inv (num ns) m w [] [] []:={
       known:=hK,a_:=fun _ _ _ _=>.inl rfl,fresh:=fun _ _=>rfl,cV:=fun d c h=>by simp[look]at h,i7:=fun d b h=>by simp[m]at h,
       dU:=fun s c h=>by simp at h,gO:=fun s b h=>by simp[m]at h,dp:=fun τ n h=>by simp at h,gX:=fun τ t h=>by simp[m]at h,nZ:=fun b c j=>⟨rfl,l b c j⟩}
     have hC:=(uE i.mixed i.MW i.Gq p h1 h2 hi (iW (ρ:=num ns) (G:=m) hr) (by simpa using hN) j).1;refine hC.mono ?_
     rintro e w' ⟨v,G',rfl,ie,r,a⟩
     refine⟨v,G'.K,rfl,Kr ie,a.K,fun b o u j B=>a.i_ b o u j rfl B,r.known,⟨a.os,a.tape,a.output,a.size,fun b j=>(a.d9 b j rfl).2⟩⟩
    ·simp at h
   ·simp only[run,h3]at h;cases h
   ·simp only[run,h3,h4]at h;exact h5 _ p _ _ h
  ·rcases i.funcs f g x with⟨fn,A,af,h1,h2,h3⟩|⟨_,h3|⟨af,pf,h3,_,h4,_⟩⟩
   ·simp only[run,h3,zab]at h;obtain⟨hN,h⟩:=h;exact⟨fun G w vs hi hr=>(uE i.mixed i.MW i.Gq p h1 h2 hi hr hN h).1,wm h⟩
   ·simp only[run,h3]at h;cases h
   ·simp only[run,h3,zab]at h;obtain⟨_,h⟩:=h;unfold cj at h;rw[h4]at h;simp[cE]at h
end
end Go.Ab
namespace Go.Ab
def uG:Code->List (Nat×Array Oper)
 | .region id ops _=>[(id,ops)]
 | .seq a b| .cond _ a b| .rangeFunc _ _ a b=>uG a++uG b
 | .block _ c| .loop c| .scope c=>uG c
 |_=>[]
def mZ:Code->List Nat
 | .seq a b| .cond _ a b| .rangeFunc _ _ a b=>mZ a++mZ b
 | .block i c=>i::mZ c
 | .loop c| .scope c=>mZ c
 |_=>[]
def m4(fn:Func):Code:=match fn.body with|some c=>c|none=>.skip
def pO(fn:Func)(i:Nat):Array Oper:=match(uG (m4 fn))[i]? with|some (_,o)=>o|none=>#[]
def ia(fn:Func)(i:Nat):Nat:=match(uG (m4 fn))[i]? with|some (n,_)=>n|none=>0
def s8(fn:Func)(i:Nat):Nat:=match(mZ (m4 fn))[i]? with|some n=>n|none=>0
def bu(fn:Func)(i j:Nat):Oper:=match(pO fn i).toList[j]? with|some o=>o|none=>default
def typesOf(o:Oper):Array TypeId:=match o.op with| .call c=>c.argTypes|_=>#[]
def MX(o:Oper):TypeId:=match o.op with| .unOp _ t _=>t|_=>0
def ix(o:Oper):TypeId×TypeId:=match o.op with| .binOp _ t _ _ u=>(t,u)|_=>(0,0)
def TV(P:Program)(t:TypeId):TypeId:=match P.underlying t with|some (.slice e)=>e|_=>0
open Go.ChangeShapes Go.WideShapes Go.ChangeAt Go.RowKit
def KW(w:World):bo:=fun b o=>w.cell? ⟨b,o,none⟩
theorem VW(w:World):Yh (KW w) w:=fun _ _ _ h=>h
def Qg(S:TypeId->PV->Prop):List Field->List PV->Prop
 |[],[]=>True
 |f::fs,p::ps=>S f.type p∧Qg S fs ps
 |_,_=>False
def m5(P:Program):Nat->TypeId->PV->Prop
 |0,_,_=>False
 |n+1,t,p=>match P.underlying t with
  |some .bool=>∃b,p=.bool b
  |some (.int k)=>∃i,p=.int k i∧(Lit.int k i).wf=true
  |some .string=>∃s,p=.str s∧s.length<=maxLen
  |some (.slice e)=>∃els,p=.aq els∧els.length<=maxLen∧∀q∈els,m5 P n e q
  |some (.struct fs)=>∃ps:List PV,p=.agg (ps.flatMap a9)∧Qg (m5 P n) fs.toList ps
  |_=>False
def MY(P:Program):Nat->List Field->Nat->Bool
 |o,[],a=>o == a
 |o,f::fs,a=>f.offset == o && MY P (o+P.cellsOf f.type) fs a
def GI(P:Program)(T:List TypeId):Bool:=T.all fun t=>match P.underlying t with
 |some .bool|some (.int _)|some .string=>true
 |some (.slice e)=>T.contains e && decide (0<P.cellsOf e)
 |some (.struct fs)=>fs.toList.all (fun f=>T.contains f.type) && MY P 0 fs.toList (P.cellsOf t)
 |_=>false
section
variable {H:Type} {enc:TypeId×Value->H} {P:Program} {w:World} {base:Nat} {sp:Nat->Bool} {held:Bool}
theorem BQ{α b:Type}{f:α->Option b}:∀{l:List α}{r:List b},l.mapM f=some r->∀{i:Nat}{x:α},l[i]?=some x->∃y,r[i]?=some y∧f x=some y
 |[],_,_,i,x,hx=>by simp at hx
 |a::l,r,h,i,x,hx=>by
  simp only[zcC,Option.bind_eq_bind,zaz,Option.pure_def,zae]at h;obtain⟨y,h1,c,h2,rfl⟩:=h;cases i with
  |zero=>simp at hx;subst hx;exact⟨y,by simp,h1⟩
  |succ i=>simpa using BQ h2 (i:=i) (by simpa using hx)
theorem BR{α b:Type}{f:α->Option b}:∀{l:List α}{r:List b},l.mapM f=some r->r.length=l.length
 |[],r,h=>by simp at h;subst h;rfl
 |a::l,r,h=>by
  simp only[zcC,Option.bind_eq_bind,zaz,Option.pure_def,zae]at h;obtain⟨y,h1,c,h2,rfl⟩:=h;simp[BR h2]
theorem Ks{a:Addr}{n:Nat}{cs:List Value}(hn:0<n)(h:w.cells? base a n=some cs):cs.length=n∧a.spot=none∧At (KW w) a.block a.off cs:=by
 unfold World.cells? at h;split at h
 ·have hl:cs.length=n:=by simpa using BR h
  have key:∀i,i<n->∃y,cs[i]?=some y∧w.cell? (a.add i)=some y:=by
   intro i hi;exact BQ h (i:=i) (x:=i) (by simp[hi])
  obtain⟨f,_,h0⟩:=key 0 hn
  have b:a.spot=none:=by
   cases c:a.spot with
   |none=>rfl
   |some s=>
    simp only[Addr.add,za0,World.cell?]at h0;split at h0
    ·simp[c]at h0
    ·cases h0
  refine⟨hl,b,?_⟩;intro j v hj;have d:j<n:=by have:=(zaa.1 hj).1;omega
  have e:a.add j=⟨a.block,a.off+j,none⟩:=by
   unfold Addr.add;split
   ·rename_i h0;subst h0;cases a;simp_all
   ·rfl
  obtain⟨y,h1,h2⟩:=key j d;rw[e]at h2;rw[hj]at h1;cases h1;exact h2
 ·cases h
theorem GJ{K:bo}{S:PV->Prop}{b sz:Nat}:∀{n:Nat}{o:Nat},(∀i,i<n->∃vs q,vs.length=sz∧At K b (o+i*sz) vs∧S q∧R K true q vs)->∃els:List PV,els.length=n∧(∀q∈els,S q)∧Row K b o sz els
 |0,o,_=>⟨[],rfl,by simp,by simp only[Row]⟩
 |n+1,o,h=>by
  obtain⟨vs,q,h1,h2,h3,h4⟩:=h 0 (by omega)
  obtain⟨els,e1,e2,e3⟩:=GJ (K:=K) (S:=S) (b:=b) (sz:=sz) (n:=n) (o:=o+sz) fun i hi=>by
   obtain⟨vs,q,h1,h2,h3,h4⟩:=h (i+1) (by omega);refine⟨vs,q,h1,?_,h3,h4⟩
   rwa [show o+sz+i*sz=o+(i+1)*sz from by rw[zaD];omega]
  refine⟨q::els,by simp[e1],?_,?_⟩
  ·intro x hx;simp only[zah]at hx;rcases hx with rfl|hx
   ·exact h3
   ·exact e2 x hx
  ·simp only[Row];exact⟨⟨vs,h1,by simpa using h2,h4⟩,e3⟩
theorem wZ{K:bo}{S:TypeId->PV->Prop}{cs:List Value}:∀{fs:List Field}{o a:Nat},MY P o fs a=true->cs.length=a->
   (∀f∈fs,∃q,S f.type q∧R K true q ((cs.drop f.offset).take (P.cellsOf f.type)))->∃ps:List PV,Qg S fs ps∧dJ K (ps.flatMap a9) (cs.drop o)
 |[],o,a,hl,c,_=>⟨[],by simp[Qg],by
  simp[MY]at hl;simp[dJ];omega⟩
 |f::fs,o,a,hl,c,h=>by
  simp only[MY,zaf,zcK]at hl;obtain⟨hf,hl⟩:=hl;obtain⟨q,h1,h2⟩:=h f (by simp);obtain⟨ps,e1,e2⟩:=wZ (K:=K) (S:=S) (cs:=cs) hl c (fun d b=>h d (by simp[b]));refine⟨q::ps,⟨h1,e1⟩,?_⟩;simp only[zas];have:=(R.cells h2).append e2;rw[hf]at this
  rwa [<-zcY,zb4]at this
theorem uH{T:List TypeId}(hT:GI P T=true):∀(n:Nat)(t:TypeId)(cs:List Value)(x:DataW H×List MemPlace),t∈T->
   DataW.trod enc P w base sp held n t cs=some x->∃p,m5 P n t p∧R (KW w) true p cs
 |0,t,cs,x,_,h=>by simp[DataW.trod]at h
 |n+1,t,cs,x,z,h=>by
  have hp:=zaq.1 hT t z;simp only[m5];split at hp
  ·rename_i hu;obtain⟨b,rfl,_⟩:=DataW.trod_bool hu h;exact⟨.bool b,by exact⟨b,rfl⟩,by simp[R]⟩
  ·rename_i k hu;obtain⟨i,rfl,_,hw⟩:=DataW.trod_int hu h;exact⟨.int k i,by exact⟨i,rfl,hw⟩,by simp[R]⟩
  ·rename_i hu;obtain⟨s,rfl,_,hl⟩:=DataW.trod_string hu h;exact⟨.str s.data.toList,by exact⟨_,rfl,by simpa using hl⟩,by simp[R]⟩
  ·rename_i e hu;simp only[zaf,zb6,zaW]at hp;rcases DataW.trod_slice hu h with⟨rfl,_⟩|⟨a,len,cap,elems,rest,m,e0,rfl,_,_,d,v,A,c,_,_⟩
   ·exact⟨.aq [],by exact⟨[],rfl,by simp,by simp⟩,by simp only[R];exact⟨none,0,0,rfl,zaj _,rfl,.inl trivial⟩⟩
   ·have hm:m=n:=(by omega);subst hm;by_cases h0:len=0
    ·subst h0;exact⟨.aq [],by exact⟨[],rfl,by simp,by simp⟩,by simp only[R];exact⟨some a,0,cap,rfl,d,rfl,.inl trivial⟩⟩
    ·have key:∀i,i<len->∃vs q,vs.length=P.cellsOf e∧(a.add (i*P.cellsOf e)).spot=none∧At (KW w) (a.add (i*P.cellsOf e)).block (a.add (i*P.cellsOf e)).off vs∧m5 P m e q∧R (KW w) true q vs:=by
      intro i hi;have g:=c i hi;rw[za4 (by omega)]at g;simp only[zaz]at g;obtain⟨vs,h1,h2⟩:=g;obtain⟨c1,c2,c3⟩:=Ks hp.2 h1;obtain⟨q,l,j⟩:=uH hT m e vs _ hp.1 h2;exact⟨vs,q,c1,c2,c3,l,j⟩
     have r:a.spot=none:=by
      obtain⟨_,_,_,h2,_⟩:=key 0 (by omega);simpa[Addr.add]using h2
     obtain⟨els,e1,e2,e3⟩:=GJ (K:=KW w) (S:=m5 P m e) (b:=a.block) (sz:=P.cellsOf e) (n:=len) (o:=a.off) fun i hi=>by
      obtain⟨vs,q,c1,c2,c3,l,j⟩:=key i hi;refine⟨vs,q,c1,?_,l,j⟩
      have:(a.add (i*P.cellsOf e)).block=a.block∧(a.add (i*P.cellsOf e)).off=a.off+i*P.cellsOf e:=by
       unfold Addr.add;split
       ·rename_i h0;simp[h0]
       ·exact⟨rfl,rfl⟩
      rwa [this.1,this.2]at c3
     refine⟨.aq els,by exact⟨els,rfl,by omega,e2⟩,?_⟩;simp only[R];refine⟨some a,len,cap,rfl,d,e1,.inr ⟨a.block,a.off,P.cellsOf e,?_,e3⟩⟩;cases a;simp_all
  ·rename_i fs hu;simp only[zaf,zaq,zb6]at hp;obtain⟨xs,m,e0,_,u,y,c⟩:=DataW.trod_struct hu h;have hm:m=n:=by omega
   subst hm
   obtain⟨ps,e1,e2⟩:=wZ (K:=KW w) (S:=m5 P m) (cs:=cs) hp.2 u fun f hf=>by
    obtain⟨i,hi,B⟩:=List.getElem_of_mem hf;have g:=c i f (by rw[<-Array.getElem?_toList];rw[za4 hi,B]);rw[za4 (by simp at hi;omega)]at g;exact uH hT m f.type _ _ (hp.1 f hf) g
   refine⟨.agg (ps.flatMap a9),by exact⟨ps,rfl,e1⟩,?_⟩;simp only[R];exact⟨trivial,by simpa using e2⟩
  ·cases hp
theorem Qh{T:List TypeId}(hT:GI P T=true){t:TypeId}{v:Value}{d:DataW H}{ps:List MemPlace}{r:Reach}{b0:Nat}(g:t∈T)(f:Value.okWide P w r b0 t v)
   (h:DataW.Trod enc P w base sp held t v d ps):∃n p,m5 P n t p∧Rel (KW w) p v:=by
 obtain⟨n,hn⟩:=h;obtain⟨p,h1,h2⟩:=uH hT n t _ _ g hn;refine⟨n,p,h1,?_⟩;have hp:=zaq.1 hT t g;cases n with
 |zero=>simp[m5]at h1
 |succ n=>
  simp only[m5]at h1;simp only[Value.okWide]at f;split at hp
  ·rename_i hu;rw[hu]at h1 f;obtain⟨b,rfl⟩:=h1;simp only[Cell.okWide,hu,Cell.ok]at f;cases v<;>simp_all[Value.cells,R,Rel]
  ·rename_i k hu;rw[hu]at h1 f;obtain⟨b,rfl,_⟩:=h1;simp only[Cell.okWide,hu,Cell.ok]at f;cases v<;>simp_all[Value.cells,R,Rel]
  ·rename_i hu;rw[hu]at h1 f;obtain⟨b,rfl,_⟩:=h1;simp only[Cell.okWide,hu,Cell.ok]at f;cases v<;>simp_all[Value.cells,R,Rel]
  ·rename_i e hu;rw[hu]at h1 f;obtain⟨b,rfl,_⟩:=h1;simp only[Cell.okWide,hu,Cell.ok]at f;cases v with
   |slice a l c=>
    simp only[R]at h2;simp only[Rel,R];simpa[Value.cells]using h2
   |agg cs=>simp at f
   |_=>simp_all[Value.cells,R]
  ·rename_i fs hu;rw[hu]at h1 f;obtain⟨b,rfl,_⟩:=h1;obtain⟨cs,rfl,_⟩:=f;simp only[Value.cells,R]at h2;exact⟨cs.toList,by simp,h2.2⟩
  ·cases hp
def Kt(P:Program):List TypeId->List PV->Prop
 |[],[]=>True
 |t::ts,p::ps=>(∃n,m5 P n t p)∧Kt P ts ps
 |_,_=>False
theorem BS{T:List TypeId}(hT:GI P T=true){r:Reach}{b0:Nat}:∀{ts:List TypeId}{vs:List Value}{ds:List (DataW H)}{ps:List MemPlace},(∀t∈ts,t∈T)->
   (∀(j:Nat) t v,ts[j]?=some t->vs[j]?=some v->Value.okWide P w r b0 t v)->DataW.TrodAll enc P w base sp held ts vs ds ps->∃dV,Kt P ts dV∧lK (KW w) dV vs∧ds.length=ts.length
 |[],vs,ds,ps,_,_,h=>by
  obtain⟨rfl,rfl,rfl⟩:=trodAll_nil h;exact⟨[],by simp[Kt],by simp[lK],rfl⟩
 |t::ts,vs,ds,ps,a,e,h=>by
  obtain⟨v,b,d,g,p,q,rfl,rfl,rfl,h1,h2⟩:=trodAll_cons h;obtain⟨n,pv,m,l⟩:=Qh hT (a t (by simp)) (e 0 t v (by simp) (by simp)) h1;obtain⟨dV,b1,k,i⟩:=BS hT (fun t f=>a t (by simp[f])) (fun j t v hj c=>e (j+1) t v (by simpa using hj) (by simpa using c)) h2;exact⟨pv::dV,⟨⟨n,m⟩,b1⟩,⟨v,b,rfl,l,k⟩,by simp[i]⟩
theorem uI{W e:World}(hl:laidOutB P=true)(c:Below W.heap.size W e):∀{ts:List TypeId}{vs:List Value}{ds:List (DataW H)}{ps:List MemPlace},(∀t∈ts,P.readableRec t=true∧t<P.types.size)->
   DataW.TrodAll enc P W 0 (fun _=>true) true ts vs ds ps->(∀x∈ps,x.block<W.heap.size)->∀{sp:Nat->Bool},(∀x∈ps,sp x.block=true)->DataW.TrodAll enc P e 0 sp true ts vs ds ps
 |[],vs,ds,ps,_,h,_,_,_=>by
  obtain⟨rfl,rfl,rfl⟩:=trodAll_nil h;exact trodAll_mk0
 |t::ts,vs,ds,ps,a,h,b,sp,hs=>by
  obtain⟨v,f,d,i,p,q,rfl,rfl,rfl,h1,h2⟩:=trodAll_cons h;refine trodAll_cons_mk ?_ (uI hl c (fun t g=>a t (by simp[g])) h2 (fun x hx=>b x (by simp[hx])) (fun x hx=>hs x (by simp[hx])));exact WideElems.Trod_stays hl (a t (by simp)).1 (a t (by simp)).2 h1 (fun x hx=>c.same (b x (by simp[hx]))) (fun x hx=>hs x (by simp[hx]))
end
theorem Ku{H:Type}{enc:TypeId×Value->H}{P:Program}{f:Func}{s:ChangeSpec}{apart fresh e g:Bool}{W h:World}{args:Array Value}{v:Value}{ds l:List (DataW H)}{a:List MemPlace}
   (m:DataW.Whole enc P f.params.toList s.vars apart W args.toList ds l a)
   (ie:∀(b:Nat)(sp:Nat->Bool)(hd:Bool),DataW.TrodAll enc P h b sp hd f.resultTypes.toList (v.resultList f.resultTypes.size) (s.fn H (ds++l)).results [])
   (d:∀sp:Nat->Bool,(∀p∈a,sp p.block=true)->DataW.TrodAll enc P h 0 sp true f.params.toList args.toList (s.fn H (ds++l)).args a)
   (c:∀sp:Nat->Bool,DataW.TrodVars enc P h sp s.vars (s.fn H (ds++l)).vars []) (o:Below W.heap.size W h)
   (n:∀(j:Nat)(t:TypeId)(r:Value),f.resultTypes[j]?=some t->(v.resultList f.resultTypes.size)[j]?=some r->Value.okWide P h .any 0 t r):
   s.post enc P f apart fresh e g W args v h:=by
 have k:∀p∈a,p.block<W.heap.size:=fun p hp=>by simpa using m.lt p hp
 have i:∀p∈a,(fun b=>decide (b<W.heap.size)) p.block=true:=fun p hp=>by simpa using k p hp
 refine⟨ds,l,a,[],a,[],m,ie _ _ _,d _ i,c _,World.keptBut_mono (fun p hp=>⟨hp,.inr (.inl hp)⟩) (o.frame _),fun _=>⟨n,_,_,([]++a)++[],⟨[]++a,[],trodAll_append (d _ (fun _ _=>rfl)) (ie _ _ _),c _,rfl,?_,?_⟩,?_⟩⟩
 ·obtain⟨_,_,_,_,_,q,_⟩:=m;intro b off hp;simp only[za8,zaM]at hp;rw[o.frozen (k _ hp)];exact q b off hp
 ·obtain⟨_,_,_,_,_,_,hn⟩:=m;intro u;simpa using hn u
 ·intro p hp _;simpa using hp
theorem yR{H:Type}{enc:TypeId×Value->H}{P:Program}{ns:Names}{AP:Nat->Option aw}(G:Impl P ns AP){f g:Nat}{fn:Func}{s:ChangeSpec}{T:List TypeId}{tb:TypeId}
   (E:ns.of f=some g) (b:s.vars=[]) (ie:fn.resultTypes=#[tb]) (C:P.underlying tb=some .bool) (hl:laidOutB P=true)
   (o:∀t∈fn.params.toList,P.readableRec t=true∧t<P.types.size) (hT:GI P T=true) (y:∀t∈fn.params.toList,t∈T)
   (hs:∀ds:List (DataW H),ds.length=fn.params.size->s.fn H ds={results:=[.lit (.bool true)],args:=ds})
   (law:∀dV,Kt P fn.params.toList dV->(aC AP).p g dV=some [.bool true])
   (W:World) (base:Nat) (args:Array Value) (ds I:List (DataW H)) (d:List MemPlace)
   (k:∀(j:Nat) t v,fn.params[j]?=some t->args[j]?=some v->Value.okWide P W .any base t v)
   (z:DataW.Whole enc P fn.params.toList s.vars false W args.toList ds I d)
   (l:VL ns.nZ W:=by exact fun _ c h=>(fun q:(Option.none:Option (Array Value))=Option.some c=>nomatch q) h):
   Calls P f args W fun e W'=>∃v,e=.returned v∧s.post enc P fn false true false false W args v W':=by
 have i:=z;obtain⟨p,q,B,hV,rfl,F,D⟩:=z;rw[b]at hV;obtain⟨rfl,rfl⟩:=trodVars_none hV;simp only[zaM]at i;obtain⟨dV,h1,h2,h3⟩:=BS (r:=.any) (b0:=base) hT y (fun j t v hj w=>k j t v (by simpa using hj) (by simpa using w)) B;obtain⟨n,hn⟩:=sZ (law dV h1);have hC:=(wY G n n).p g f dV _ E hn (KW W) W args.toList l (VW W) h2;rw[Array.toArray_toList]at hC;refine hC.mono ?_
 rintro e W' ⟨v,K',rfl,hr,_,_,_,A⟩
 simp only[mR,Rel,R]at hr;obtain rfl:v=.bool true:=by simpa using hr
 have u:∀x∈p,x.block<W.heap.size:=fun x hx=>by simpa using i.lt x hx
 have a:=hs ds (by simpa using h3);refine⟨_,rfl,Ku i (fun _ _ _=>?_) (fun sp m=>?_) (fun _=>?_) A (ok_one ie rfl (okWide_bool_mk C _))⟩
 ·simp only[zaM];rw[a,ie];exact trodAll_cons_mk (p:=[]) (p':=[]) (shut_bool C _) trodAll_mk0
 ·simp only[zaM];rw[a];exact uI hl A o B u m
 ·rw[b];simp only[zaM];rw[a];rfl
end Go.Ab
namespace Go.Ab.Fc
variable {α:Type}
def fN(n:Nat)(K:Nat->Option α):Option α:=match n with
 |0=>K 0
 |m+1=>K (m+1)
theorem sa{n:Nat}{K:Nat->Option α}:fN n K=K n:=by cases n<;>rfl
def fI(n:Int)(K:Int->Option α):Option α:=match n with
 | .ofNat m=>fN m fun m=>K (.ofNat m)
 | .negSucc m=>fN m fun m=>K (.negSucc m)
theorem MZ{n:Int}{K:Int->Option α}:fI n K=K n:=by cases n<;>simp[fI,sa]
def fB(b:Bool)(K:Bool->Option α):Option α:=match b with
 |true=>K true
 |false=>K false
theorem uJ{b:Bool}{K:Bool->Option α}:fB b K=K b:=by cases b<;>rfl
def fS{b:Type}:List b->(List b->Option α)->Option α
 |[],K=>K []
 |a::r,K=>fS r fun r=>K (a::r)
theorem BT{b:Type}:∀{l:List b}{K:List b->Option α},fS l K=K l
 |[],_=>rfl
 |a::r,K=>by simp only[fS];rw[BT]
def fL(p:PV)(K:PV->Option α):Option α:=match p with
 | .bool b=>fB b fun b=>K (.bool b)
 | .int k n=>fI n fun n=>K (.int k n)
 | .str s=>K (.str s)
 | .agg cs=>K (.agg cs)
 | .aq l=>K (.aq l)
theorem RH{p:PV}{K:PV->Option α}:fL p K=K p:=by cases p<;>simp[fL,uJ,MZ]
def VX:List PV->(List PV->Option α)->Option α
 |[],K=>K []
 |a::r,K=>fL a fun a=>VX r fun r=>K (a::r)
theorem FM:∀{l:List PV}{K:List PV->Option α},VX l K=K l
 |[],_=>rfl
 |a::r,K=>by simp only[VX];rw[RH,FM]
def fP(p:PV)(K:PV->Option α):Option α:=match p with
 | .agg cs=>VX cs fun cs=>K (.agg cs)
 |p=>fL p K
theorem M0{p:PV}{K:PV->Option α}:fP p K=K p:=by cases p<;>simp[fP,FM,RH]
def Yk(v:AV)(K:AV->Option α):Option α:=match v with
 | .un=>K .un
 | .pv p=>fP p fun p=>K (.pv p)
 | .cQ l=>K (.cQ l)
 | .own l τ=>fN τ fun τ=>K (.own l τ)
 | .agg cs=>K (.agg cs)
 | .qj cs=>K (.qj cs)
 | .au a b=>fN a fun a=>fN b fun b=>K (.au a b)
 | .aI a b=>fN a fun a=>fN b fun b=>K (.aI a b)
 | .dQ cs=>fS cs fun cs=>K (.dQ cs)
 | .bh a b c d=>fN a fun a=>fN c fun c=>K (.bh a b c d)
 | .fn g c=>K (.fn g c)
 | .ic=>K .ic
 | .jN s=>fN s fun s=>K (.jN s)
 | .fM kvs=>fS kvs fun kvs=>K (.fM kvs)
 | .ql a b c=>fN a fun a=>fN b fun b=>fN c fun c=>K (.ql a b c)
 | .sD a b=>fN a fun a=>fN b fun b=>K (.sD a b)
theorem M1{v:AV}{K:AV->Option α}:Yk v K=K v:=by cases v<;>simp[Yk,M0,sa,BT]
def Qi:List AV->(List AV->Option α)->Option α
 |[],K=>K []
 |a::r,K=>Yk a fun a=>Qi r fun r=>K (a::r)
theorem uL:∀{l:List AV}{K:List AV->Option α},Qi l K=K l
 |[],_=>rfl
 |a::r,K=>by simp only[Qi];rw[M1,uL]
def fA(v:AV)(K:AV->Option α):Option α:=match v with
 | .agg cs=>Qi cs fun cs=>K (.agg cs)
 | .qj cs=>Qi cs fun cs=>K (.qj cs)
 | .fn g cs=>Qi cs fun cs=>K (.fn g cs)
 |v=>Yk v K
theorem sb{v:AV}{K:AV->Option α}:fA v K=K v:=by cases v<;>simp[fA,uL,M1]
def VY:List AV->(List AV->Option α)->Option α
 |[],K=>K []
 |a::r,K=>fA a fun a=>VY r fun r=>K (a::r)
theorem uM:∀{l:List AV}{K:List AV->Option α},VY l K=K l
 |[],_=>rfl
 |a::r,K=>by simp only[VY];rw[sb,uM]
def fV(v:AV)(K:AV->Option α):Option α:=match v with
 | .pv (.str s)=>fS s fun s=>K (.pv (.str s))
 | .pv (.aq l)=>fS l fun l=>K (.pv (.aq l))
 | .cQ l=>fS l fun l=>VX l fun l=>K (.cQ l)
 | .own l τ=>fS l fun l=>fN τ fun τ=>K (.own l τ)
 |v=>fA v K
theorem M3{v:AV}{K:AV->Option α}:fV v K=K v:=by
 cases v with
 |pv p=>cases p<;>simp[fV,BT,sb]
 |_=>simp[fV,BT,sb,FM,sa]
def VZ:List PV->(List PV->Option α)->Option α
 |[],K=>K []
 |a::r,K=>fP a fun a=>VZ r fun r=>K (a::r)
theorem M4:∀{l:List PV}{K:List PV->Option α},VZ l K=K l
 |[],_=>rfl
 |a::r,K=>by simp only[VZ];rw[M0,M4]
def fresh:AK->Bool
 | .v (.dR _)| .v (.slice ..)| .append ..| .v (.bin .add)=>true
 |_=>false
def ZW(op:AK)(v:AV)(K:AV->Option α):Option α:=match op,v with
 | .v (.dR _),.cQ l=>VZ l fun l=>K (.cQ l)
 |op,v=>if fresh op then fV v K else fA v K
def fO{a:Type}(f:a->(a->Option α)->Option α)(o:Option a)(K:Option a->Option α):Option α:=match o with
 |none=>K none
 |some x=>f x fun x=>K (some x)
theorem V7{a:Type}{f:a->(a->Option α)->Option α}(hf:∀x K,f x K=K x){o:Option a}{K:Option a->Option α}:fO f o K=K o:=by cases o<;>simp[fO,hf]
def Va:Sh->(Sh->Option α)->Option α
 |[],K=>K []
 |a::r,K=>fO Qi a fun a=>Va r fun r=>K (a::r)
theorem qK:∀{l:Sh}{K:Sh->Option α},Va l K=K l
 |[],_=>rfl
 |a::r,K=>by simp only[Va];rw[V7 (fun _ _=>uL),qK]
def fT:aG->(aG->Option α)->Option α
 |[],K=>K []
 |a::r,K=>fN a fun a=>fT r fun r=>K (a::r)
theorem w0:∀{l:aG}{K:aG->Option α},fT l K=K l
 |[],_=>rfl
 |a::r,K=>by simp only[fT];rw[sa,w0]
def Qj:List (Nat×AV)->(List (Nat×AV)->Option α)->Option α
 |[],K=>K []
 |(t,v)::r,K=>fA v fun v=>Qj r fun r=>K ((t,v)::r)
theorem GK:∀{l:List (Nat×AV)}{K:List (Nat×AV)->Option α},Qj l K=K l
 |[],_=>rfl
 |(t,v)::r,K=>by simp only[Qj];rw[sb,GK]
def Qk:List (Nat×List AV)->(List (Nat×List AV)->Option α)->Option α
 |[],K=>K []
 |(t,v)::r,K=>Qi v fun v=>Qk r fun r=>K ((t,v)::r)
theorem GL:∀{l:List (Nat×List AV)}{K:List (Nat×List AV)->Option α},Qk l K=K l
 |[],_=>rfl
 |(t,v)::r,K=>by simp only[Qk];rw[uL,GL]
def TW(st:St)(K:St->Option α):Option α:=match st with
 |⟨env,mem,sh,aa⟩=>Qj env fun env=>Qk mem fun mem=>Va sh fun sh=>fT aa fun aa=>K ⟨env,mem,sh,aa⟩
theorem uP{st:St}{K:St->Option α}:TW st K=K st:=by
 obtain⟨env,mem,sh,aa⟩:=st;simp only[TW];rw[GK,GL,qK,w0]
def lk{a:Type}:List (Nat×a)->Nat->Option a
 |[],_=>none
 |(k,v)::r,t=>bif Nat.beq k t then some v else lk r t
theorem w6{a:Type}:∀{l:List (Nat×a)}{t:Nat},lk l t=look l t
 |[],_=>rfl
 |(k,v)::r,t=>by
  simp only[lk,look];rw[w6];by_cases h:k=t
  ·subst h;simp
  ·rw[zad h,show Nat.beq k t=false from by rw[zb2];intro e;exact h (zbs e)];rfl
def pt{a:Type}:List (Nat×a)->Nat->a->(List (Nat×a)->Option α)->Option α
 |[],t,u,K=>K [(t,u)]
 |(k,v)::r,t,u,K=>bif Nat.beq k t then K ((k,u)::r)else pt r t u fun r=>K ((k,v)::r)
theorem M5{a:Type}:∀{l:List (Nat×a)}{t:Nat}{u:a}{K:List (Nat×a)->Option α},pt l t u K=K (cN l t u)
 |[],_,_,_=>rfl
 |(k,v)::r,t,u,K=>by
  simp only[pt,cN];by_cases h:k=t
  ·subst h;simp
  ·rw[zad h,show Nat.beq k t=false from by rw[zb2];intro e;exact h (zbs e)];exact M5
def od(env:List (Nat×AV))(x:eM)(K:AV->Option α):Option α:=match x with
 | .t n=>match lk env n with
  |some v=>K v
  |none=>none
 | .c v=>K v
theorem V8{env:List (Nat×AV)}{x:eM}{K:AV->Option α}:od env x K=(g_ env x).bind K:=by
 cases x with
 |t n=>simp only[od,g_,w6];cases look env n<;>rfl
 |c v=>rfl
def Vb(env:List (Nat×AV)):List eM->(List AV->Option α)->Option α
 |[],K=>K []
 |x::r,K=>od env x fun v=>Vb env r fun vs=>K (v::vs)
theorem M6{env:List (Nat×AV)}:∀{l:List eM}{K:List AV->Option α},Vb env l K=(d_ env l).bind K
 |[],_=>rfl
 |x::r,K=>by
  simp only[Vb,d_];rw[V8];cases g_ env x with
  |none=>rfl
  |some v=>
   dsimp only[Option.bind_some];rw[M6];cases d_ env r<;>rfl
def TX:IntKind->Nat
 | .i8=>0| .i16=>1| .i32=>2| .i64=>3| .u8=>4| .u16=>5| .u32=>6| .u64=>7
theorem Ql{a b:IntKind}(h:Nat.beq (TX a) (TX b)=true):a=b:=by
 have:=zbs h;cases a<;>cases b<;>first|rfl|(simp[TX]at this)
def Yl:Int->Int->Bool
 | .ofNat a,.ofNat b=>Nat.beq a b
 | .negSucc a,.negSucc b=>Nat.beq a b
 |_,_=>false
theorem YI{a b:Nat}:Nat.beq a b=decide (a=b):=by
 by_cases h:a=b
 ·subst h;simp
 ·rw[zaC h,zb2];intro e;exact h (zbs e)
theorem M7{a b:Int}:Yl a b=(a == b):=by
 cases a<;>cases b<;>(rw[zaN];simp[Yl,YI])<;>omega
def Vc:Int->Int->Bool
 | .ofNat a,.ofNat b=>Nat.blt a b
 | .negSucc a,.negSucc b=>Nat.blt b a
 | .negSucc _,.ofNat _=>true
 | .ofNat _,.negSucc _=>false
theorem yS{a b:Int}:Vc a b=decide (a<b):=by
 cases a<;>cases b<;>(rw[zaN];simp[Vc,Nat.blt_eq])<;>omega
def TY(k:IntKind)(a b:Int)(K:Int->Option α):Option α:=match k,a,b with
 | .i64,.ofNat x,.ofNat y=>bif Nat.blt (x+y) 4611686018427387904 then fN (x+y) fun n=>K (.ofNat n)else fI (IntKind.i64.wrap (.ofNat x+.ofNat y)) K
 |k,a,b=>fI (k.wrap (a+b)) K
theorem Qm{k:IntKind}{a b:Int}{K:Int->Option α}:TY k a b K=K (k.wrap (a+b)):=by
 unfold TY;split
 ·rename_i x y;cases h:Nat.blt (x+y) 4611686018427387904 with
  |false=>simp only[cond_false];exact MZ
  |true=>
   simp only[cond_true,sa];have:x+y<4611686018427387904:=by simpa[Nat.blt_eq]using h
   congr 1;simp[IntKind.wrap,IntKind.bits,IntKind.signed];omega
 ·exact MZ
def TZ(op:BinOp)(a b:AV)(K:AV->Option α):Option α:=match a with
 | .pv (.int k x)=>match b with
  | .pv (.int k' y)=>bif Nat.beq (TX k) (TX k')then(match op with
   | .eql=>fB (Yl x y) fun c=>K (.pv (.bool c))
   | .neq=>fB (!Yl x y) fun c=>K (.pv (.bool c))
   | .lss=>fB (Vc x y) fun c=>K (.pv (.bool c))
   | .gtr=>fB (Vc y x) fun c=>K (.pv (.bool c))
   | .geq=>fB (!Vc x y) fun c=>K (.pv (.bool c))
   | .leq=>fB (!Vc y x) fun c=>K (.pv (.bool c))
   | .add=>TY k x y fun n=>K (.pv (.int k n))
   |op=>(cG op a b).bind fun v=>fV v K)
    else (cG op a b).bind fun v=>fV v K
  |b=>(cG op a b).bind fun v=>fV v K
 |a=>(cG op a b).bind fun v=>fV v K
theorem Qo{op:BinOp}{a b:AV}{K:AV->Option α}:TZ op a b K=(cG op a b).bind K:=by
 have c:((cG op a b).bind fun v=>fV v K)=(cG op a b).bind K:=by
  congr 1;funext v;exact M3
 unfold TZ;split
 ·rename_i k x;split
  ·rename_i k' y;cases d:Nat.beq (TX k) (TX k')with
   |false=>exact c
   |true=>
    obtain rfl:=Ql d;simp only[cond_true];split
    ·simp[uJ,M7,cG]
    ·simp[uJ,M7,cG,bne]
    ·simp[uJ,yS,cG]
    ·simp[uJ,yS,cG]
    ·simp[uJ,yS,cG,<-zcW,zcZ]
    ·simp[uJ,yS,cG,<-zcW,zcZ]
    ·simp[Qm,cG]
    ·exact c
  ·exact c
 ·exact c
def Zm(off:Nat)(x:AV)(K:AV->Option α):Option α:=match x with
 | .au d o=>fN (o+off) fun n=>K (.au d n)
 | .aI b o=>fN (o+off) fun n=>K (.aI b n)
 | .dQ cs=>fS (cs.drop off) fun cs=>K (.dQ cs)
 |_=>none
def nth{b:Type}:List b->Nat->Option b
 |[],_=>none
 |a::r,n=>match n with
  |0=>some a
  |n+1=>nth r n
theorem FN{b:Type}:∀{l:List b}{n:Nat},nth l n=l[n]?
 |[],n=>by simp[nth]
 |a::r,0=>rfl
 |a::r,n+1=>by simp only[nth,zbZ];exact FN
def ln{a:Type}:List a->Nat->(Nat->Option α)->Option α
 |[],n,K=>K n
 |_::r,n,K=>fN (n+1) fun n=>ln r n K
theorem GM{a:Type}:∀{l:List a}{n:Nat}{K:Nat->Option α},ln l n K=K (n+l.length)
 |[],n,K=>rfl
 |_::r,n,K=>by
  simp only[ln];rw[sa,GM];congr 1;simp;omega
def xV(o:Pg)(vals:List AV)(K:AV->Option α):Option α:=match o with
 | .mv=>match vals with
  |[x]=>K x
  |vals=>(bw .mv vals).bind fun v=>fA v K
 | .bin op=>match vals with
  |[a,b]=>TZ op a b K
  |vals=>(bw (.bin op) vals).bind fun v=>fA v K
 | .iF off=>match vals with
  |[x]=>Zm off x K
  |vals=>(bw (.iF off) vals).bind fun v=>fA v K
 | .qm=>match vals with
  |[.au a b]=>K (.au a b)
  |[.aI a b]=>K (.aI a b)
  |vals=>(bw .qm vals).bind fun v=>fA v K
 | .index=>match vals with
  |[.pv (.str s),.pv (.int _ (.ofNat i))]=>match nth s i with
   |some b=>fN b.toNat fun n=>K (.pv (.int .u8 (.ofNat n)))
   |none=>none
  |vals=>(bw .index vals).bind fun v=>fA v K
 | .CW=>match vals with
  |[.pv (.str s)]=>ln s 0 fun n=>K (.pv (.int .i64 (.ofNat n)))
  |vals=>(bw .CW vals).bind fun v=>fA v K
 | .len=>match vals with
  |[.pv (.aq l)]=>ln l 0 fun n=>K (.pv (.int .i64 (.ofNat n)))
  |[.own l _]=>ln l 0 fun n=>K (.pv (.int .i64 (.ofNat n)))
  |vals=>(bw .len vals).bind fun v=>fA v K
 | .dR sz=>match bw (.dR sz) vals with
  |some (.cQ l)=>VZ l fun l=>K (.cQ l)
  |some v=>K v
  |none=>none
 | .slice a b c d e=>(bw (.slice a b c d e) vals).bind fun v=>fV v K
 |o=>(bw o vals).bind fun v=>fA v K
theorem V9{o:Pg}{vals:List AV}{K:AV->Option α}:xV o vals K=(bw o vals).bind K:=by
 have a:∀o vals,((bw o vals).bind fun v=>fA v K)=(bw o vals).bind K:=by
  intro o vals;congr 1;funext v;exact sb
 unfold xV;split
 ·split
  ·rfl
  ·exact a _ _
 ·split
  ·exact Qo
  ·exact a _ _
 ·split
  ·rename_i x;cases x<;>simp[Zm,bw,sa,BT]
  ·exact a _ _
 ·split
  ·rfl
  ·rfl
  ·exact a _ _
 ·split
  ·rename_i s k i;rw[FN];have hi:¬(Int.ofNat i<0):=by simp
   simp only[bw];rw[zad hi];simp only[zck,Int.ofNat_eq_natCast];cases s[i]? with
   |none=>rfl
   |some b=>simp[sa]
  ·exact a _ _
 ·split
  ·simp[GM,bw]
  ·exact a _ _
 ·split
  ·simp[GM,bw,db]
  ·simp[GM,bw,db]
  ·exact a _ _
 ·split
  ·rename_i l h;rw[h,M4];rfl
  ·rename_i h;rw[h];rfl
  ·rename_i h;rw[h];rfl
 ·congr 1;funext v;exact M3
 ·exact a _ _
def lay(env:List (Nat×AV))(mem:List (Nat×List AV))(sh:Sh)(aa:aG)(d:Option Nat)(v:AV)(K:St->Option α):Option α:=match d with
 |some d=>pt env d v fun env=>K ⟨env,mem,sh,aa⟩
 |none=>K ⟨env,mem,sh,aa⟩
theorem m6{env:List (Nat×AV)}{mem:List (Nat×List AV)}{sh:Sh}{aa:aG}{d:Option Nat}{v:AV}{K:St->Option α}:lay env mem sh aa d v K=K ⟨gJ env d v,mem,sh,aa⟩:=by
 cases d<;>simp[lay,gJ,M5]
def T3(mem:List (Nat×List AV))(k:Nat)(cs:Option (List AV))(K:List (Nat×List AV)->Option α):Option α:=match cs with
 |some cs=>Qi cs fun cs=>pt mem k cs K
 |none=>K mem
theorem Qp{mem:List (Nat×List AV)}{k:Nat}{cs:Option (List AV)}{K:List (Nat×List AV)->Option α}:T3 mem k cs K=K (fY mem (some k) cs):=by
 cases cs<;>simp[T3,fY,uL,M5]
def M8(orc:eZ)(op:AK)(d:Option Nat)(vals:List AV)(env:List (Nat×AV))(mem:List (Nat×List AV))(sh:Sh)(aa:aG)(K:St->Option α):Option α:=
 match exec orc op vals (op.key.bind (look mem)) sh aa with
 |none=>none
 |some ⟨val,cells,sh',toks'⟩=>fV val fun val=>(match op.key with|some k=>T3 mem k cells|none=>fun K=>K mem) fun mem=>Va sh' fun sh'=>fT toks' fun toks'=>lay env mem sh' toks' d val K
theorem yT{orc:eZ}{op:AK}{d:Option Nat}{vals:List AV}{env:List (Nat×AV)}{mem:List (Nat×List AV)}{sh:Sh}{aa:aG}{K:St->Option α}:
   M8 orc op d vals env mem sh aa K=(match exec orc op vals (op.key.bind (look mem)) sh aa with
    |none=>none
    |some out=>some (⟨gJ env d out.val,fY mem op.key out.cells,out.sh,out.aa⟩:St)).bind K:=by
 unfold M8;cases exec orc op vals (op.key.bind (look mem)) sh aa with
 |none=>rfl
 |some out=>
  obtain⟨val,cells,sh',toks'⟩:=out;simp only[M3,za3];cases op.key with
  |none=>simp only[qK,w0,m6];cases cells<;>rfl
  |some k=>simp only[Qp,qK,w0,m6]
def xP(orc:eZ)(g:Nat)(vals:List AV)(K:AV->Option α):Option α:=match dx [] vals with
 |some dV=>match orc.p g dV with
  |some rs=>fA (tI rs) K
  |none=>none
 |none=>none
def x1(orc:eZ)(op:AK)(d:Option Nat)(vals:List AV)(env:List (Nat×AV))(mem:List (Nat×List AV))(sh:Sh)(aa:aG)(K:St->Option α):Option α:=match op with
 | .v o=>xV o vals fun v=>lay env mem sh aa d v K
 | .aH g=>xP orc g vals fun v=>lay env mem sh aa d v K
 | .cg key off sz ag=>match vals with
  |[.au a o]=>match lk mem key with
   |some cs=>bif Nat.beq a key && Nat.beq o off then(match bY ag sz cs off with
    |some v=>fA v fun v=>lay env mem sh aa d v K
    |none=>none)else none
   |none=>none
  |vals=>M8 orc (.cg key off sz ag) d vals env mem sh aa K
 | .dH sz ag=>match vals with
  |[.aI b off]=>match nth sh b with
   |some (some cs)=>bif dE cs then none else(match bY ag sz cs off with
    |some v=>fA v fun v=>lay env mem sh aa d v K
    |none=>none)
   |_=>none
  |vals=>M8 orc (.dH sz ag) d vals env mem sh aa K
 |op=>M8 orc op d vals env mem sh aa K
theorem V_{orc:eZ}{op:AK}{d:Option Nat}{vals:List AV}{env:List (Nat×AV)}{mem:List (Nat×List AV)}{sh:Sh}{aa:aG}{K:St->Option α}:
   x1 orc op d vals env mem sh aa K=(match exec orc op vals (op.key.bind (look mem)) sh aa with
    |none=>none
    |some out=>some (⟨gJ env d out.val,fY mem op.key out.cells,out.sh,out.aa⟩:St)).bind K:=by
 unfold x1;split
 ·rename_i o;simp only[V9,m6,exec];cases bw o vals with
  |none=>rfl
  |some v=>rfl
 ·rename_i g;simp only[xP,exec];cases dx [] vals with
  |none=>rfl
  |some dV=>
   dsimp only;cases orc.p g dV with
   |none=>rfl
   |some rs=>simp only[sb,m6];rfl
 ·rename_i key off sz ag;split
  ·rename_i a o;rw[w6];have c:((AK.cg key off sz ag).key.bind (look mem))=look mem key:=rfl;rw[c];cases look mem key with
   |none=>simp[exec]
   |some cs=>
    simp only[exec];by_cases h:a=key∧o=off
    ·obtain⟨rfl,rfl⟩:=h;simp only[Nat.beq_refl,Bool.and_self,cond_true,and_self,za0];cases bY ag sz cs o with
     |none=>rfl
     |some v=>simp only[sb,m6];rfl
    ·rw[zad h]
     have:(Nat.beq a key && Nat.beq o off)=false:=by
      rw[zb2];intro e;simp only[zaf]at e;exact h ⟨zbs e.1,zbs e.2⟩
     rw[this];rfl
  ·exact yT
 ·rename_i sz ag;split
  ·rename_i b off;rw[FN];simp only[exec];split
   ·rename_i cs h;rw[h];dsimp only;cases dE cs with
    |true=>rfl
    |false=>
     simp only[cond_false,zaO,zbg];cases bY ag sz cs off with
     |none=>rfl
     |some v=>simp only[sb,m6];rfl
   ·rename_i h;split
    ·rfl
    ·rename_i e1 e2 e3;split at e3
     ·rename_i cs e4;exact absurd e4 (h cs)
     ·cases e3
  ·exact yT
 ·exact yT
def Ym(orc:eZ)(o:dI)(st:St)(K:St->Option α):Option α:=match st with
 |⟨env,mem,sh,aa⟩=>match o with
  |⟨d,g,args,op⟩=>match g with
   |none=>Vb env args fun vals=>x1 orc op d vals env mem sh aa K
   |some (t,b)=>match lk env t with
    |some (.pv (.bool c))=>bif c == b then Vb env args fun vals=>x1 orc op d vals env mem sh aa K else lay env mem sh aa d .un K
    |some .un=>lay env mem sh aa d .un K
    |_=>none
theorem T4{orc:eZ}{o:dI}{st:St}{K:St->Option α}:Ym orc o st K=(dT orc o st).bind K:=by
 obtain⟨env,mem,sh,aa⟩:=st;obtain⟨d,g,args,op⟩:=o
 have run:(Vb env args fun vals=>x1 orc op d vals env mem sh aa K)=(match d_ env args with
  |none=>none
  |some vals=>match exec orc op vals (op.key.bind (look mem)) sh aa with
   |none=>none
   |some out=>some (⟨gJ env d out.val,fY mem op.key out.cells,out.sh,out.aa⟩:St)).bind K:=by
   rw[M6];cases d_ env args with
   |none=>rfl
   |some vals=>exact V_
 cases g with
 |none=>simp only[Ym,dT,gq];exact run
 |some p=>
  obtain⟨t,b⟩:=p;simp only[Ym,dT,gq,w6];split
  ·rename_i c h;rw[h];dsimp only;cases a:(c == b)with
   |true=>simp only[cond_true];exact run
   |false=>simp only[cond_false,m6];rfl
  ·rename_i h;rw[h];simp only[m6];rfl
  ·rename_i h1 h2;split
   ·rfl
   ·rename_i e;split at e<;>simp_all
   ·rename_i e;split at e<;>simp_all
def Qq(orc:eZ):List dI->St->(St->Option α)->Option α
 |[],st,K=>K st
 |o::r,st,K=>Ym orc o st fun st=>Qq orc r st K
theorem GN{orc:eZ}:∀{l:List dI}{st:St}{K:St->Option α},Qq orc l st K=(br orc l st).bind K
 |[],_,_=>rfl
 |o::r,st,K=>by
  simp only[Qq,br];rw[T4];cases dT orc o st with
  |none=>rfl
  |some s=>exact GN
def GO(f:St->(aR->St->Option α)->Option α)(a:St->St):Nat->St->(aR->St->Option α)->Option α
 |0,_,_=>none
 |n+1,st,K=>TW (a st) fun st=>f st fun e st=>match e with
  | .normal=>GO f a n st K
  |e=>K e st
def RI(live:List Nat)(v:AV):Bool:=match v with
 | .au d _=>live.contains d
 | .sD d _=>live.contains d
 | .pv _=>true
 | .own ..=>true
 | .agg cs=>gW cs
 |v=>bq v
theorem M9{live:List Nat}{v:AV}:RI live v=gE live v:=by cases v<;>rfl
def V'(live:List Nat)(env:List (Nat×AV)):List Nat->(List (Nat×AV)->Option α)->Option α
 |[],K=>K []
 |t::r,K=>match lk env t with
  |some v=>V' live env r fun e=>bif RI live v then K ((t,v)::e)else K e
  |none=>V' live env r K
theorem FO{live:List Nat}{env:List (Nat×AV)}:∀{l:List Nat}{K:List (Nat×AV)->Option α},V' live env l K=K (bz live env l)
 |[],_=>rfl
 |t::r,K=>by
  simp only[V',bz,w6];cases look env t with
  |none=>exact FO
  |some v=>
   dsimp only;rw[FO,M9];cases gE live v<;>simp
def Wa(mem:List (Nat×List AV)):List Nat->(List (Nat×List AV)->Option α)->Option α
 |[],K=>K []
 |t::r,K=>match lk mem t with
  |some v=>Wa mem r fun e=>K ((t,v)::e)
  |none=>Wa mem r K
theorem FP{mem:List (Nat×List AV)}:∀{l:List Nat}{K:List (Nat×List AV)->Option α},Wa mem l K=K (bG mem l)
 |[],_=>rfl
 |t::r,K=>by
  simp only[Wa,bG,w6];cases look mem t with
  |none=>exact FP
  |some v=>exact FP
def rs(live:List Nat)(st:St)(K:St->Option α):Option α:=match st with
 |⟨env,mem,sh,aa⟩=>V' live env live fun env=>Wa mem live fun mem=>K ⟨env,mem,sh,aa⟩
theorem Wc{live:List Nat}{st:St}{K:St->Option α}:rs live st K=K (restrict live st):=by
 obtain⟨env,mem,sh,aa⟩:=st;simp only[rs];rw[FO,FP];rfl
def RJ(K:aR->St->Option α):Option (aR×St)->Option α
 |some (e,st)=>K e st
 |none=>none
def cF(orc:eZ)(k:Nat):ae->St->(aR->St->Option α)->Option α
 | .skip,st,K=>K .normal st
 | .jt ops live,st,K=>Qq orc ops st fun st=>rs live st fun st=>K .normal st
 | .seq a b,st,K=>cF orc k a st fun e st=>match e with
  | .normal=>cF orc k b st K
  |e=>K e st
 | .cond c a b,st,K=>match g_ st.env c with
  |some (.pv (.bool t))=>match t with
   |true=>cF orc k a st K
   |false=>cF orc k b st K
  |_=>none
 | .block id b,st,K=>cF orc k b st fun e st=>match e with
  | .exit d=>if d=id then K .normal st else K (.exit d) st
  |e=>K e st
 | .loop live b,st,K=>GO (cF orc k b) (fun s=>norm (restrict live s)) k st K
 | .back c gb pi px sz ag live x y,st,K=>RJ K (cE orc k (.back c gb pi px sz ag live x y) st)
 | .exit id,st,K=>K (.exit id) st
 | .ret,st,K=>K .ret st
 | .ej ts,st,K=>K .normal (nY ts st)
 | .Rw ds,st,K=>bif jl st.env ds then K .normal st else none
 | .Le ps,st,K=>TW (Pj ps st) fun st=>K .normal st
 | .nq ts,st,K=>TW (VG ts st) fun st=>K .normal st
 | .Tf ts,st,K=>TW (Tg ts st) fun st=>K .normal st
theorem BU{f:St->(aR->St->Option α)->Option α}{g:St->Option (aR×St)}{a:St->St}(h:∀st K,f st K=RJ K (g st)):∀{n:Nat}{st:St}{K:aR->St->Option α},GO f a n st K=RJ K (f_ g a n st)
 |0,_,_=>rfl
 |n+1,st,K=>by
  simp only[GO,f_];rw[uP,h];cases g (a st)with
  |none=>rfl
  |some q=>
   obtain⟨e,s⟩:=q;cases e with
   |normal=>exact BU h
   |ret=>rfl
   |exit id=>rfl
theorem uQ{orc:eZ}{k:Nat}:∀{c:ae}{st:St}{K:aR->St->Option α},cF orc k c st K=RJ K (cE orc k c st)
 | .skip,_,_=>rfl
 | .jt ops live,st,K=>by
  simp only[cF,cE];rw[GN];cases br orc ops st with
  |none=>rfl
  |some s=>simp only[za3,Wc,RJ]
 | .seq a b,st,K=>by
  simp only[cF,cE];rw[uQ];cases cE orc k a st with
  |none=>rfl
  |some q=>
   obtain⟨e,s⟩:=q;cases e with
   |normal=>simp only[RJ];exact uQ
   |ret=>rfl
   |exit id=>rfl
 | .cond c a b,st,K=>by
  simp only[cF,cE];split
  ·rename_i t h;rw[h];cases t with
   |true=>exact uQ
   |false=>exact uQ
  ·rename_i h;split
   ·rename_i t h';exact absurd h' (h t)
   ·rfl
 | .block id b,st,K=>by
  simp only[cF,cE];rw[uQ];cases cE orc k b st with
  |none=>rfl
  |some q=>
   obtain⟨e,s⟩:=q;cases e with
   |normal=>rfl
   |ret=>rfl
   |exit d=>
    simp only[RJ];split<;>rfl
 | .loop live b,st,K=>by
  simp only[cF,cE];exact BU (g:=cE orc k b) fun _ _=>uQ
 | .back c gb pi px sz ag live x y,_,_=>by simp only[cF]
 | .exit id,_,_=>rfl
 | .ret,_,_=>rfl
 | .ej _,_,_=>rfl
 | .Rw ds,st,K=>by
  simp only[cF,cE];cases jl st.env ds<;>rfl
 | .Le ps,st,K=>by
  simp only[cF,cE];rw[uP];rfl
 | .nq ps,st,K=>by
  simp only[cF,cE];rw[uP];rfl
 | .Tf ps,st,K=>by
  simp only[cF,cE];rw[uP];rfl
def Qr(aW:Bool)(af:aw)(a:Sh)(e:aR)(st:St)(K:List AV->Sh->aG->Option α):Option α:=
 match e with
 | .exit _=>none
 |_=>match eC st af.results with
  |some vs=>
   VY (cp aW af.ks st.sh vs) fun rs=>
   let sh':=if rs.all (aK a.length)=true then(fF aW af.ks st.sh vs).take a.length else fF aW af.ks st.sh vs
   if rs.all bE=true then
    match ct st.aa rs sh' with
    |(rs,sh,_,ts)=>VY rs fun rs=>Va sh fun sh=>fT ts fun ts=>K rs sh ts
   else none
  |none=>none
def Kv(K:List AV->Sh->aG->Option α):Option (List AV×Sh×aG)->Option α
 |some (a,b,c)=>K a b c
 |none=>none
theorem Qs{aW:Bool}{af:aw}{a:Sh}{e:aR}{st:St}{K:List AV->Sh->aG->Option α}:Qr aW af a e st K=Kv K (finish aW af a (some (e,st))):=by
 cases e with
 |exit id=>rfl
 |normal=>
  simp only[Qr,finish];cases eC st af.results with
  |none=>rfl
  |some vs=>
   simp only[uM,or_true,za0];split
   ·simp only[uM,qK,w0,Kv]
   ·rfl
 |ret=>
  simp only[Qr,finish];cases eC st af.results with
  |none=>rfl
  |some vs=>
   simp only[uM,true_or,za0];split
   ·simp only[uM,qK,w0,Kv]
   ·rfl
def w7(orc:eZ)(k:Nat)(aW:Bool)(af:aw)(args:List AV)(sh:Sh)(ts:aG)(K:List AV->Sh->aG->Option α):Option α:=
 TW {env:=bK 0 args,mem:=[],sh,aa:=ts} fun st=>cF orc k af.body st fun e st=>Qr aW af sh e st K
theorem pP{orc:eZ}{k:Nat}{aW:Bool}{af:aw}{args:List AV}{sh:Sh}{ts:aG}{K:List AV->Sh->aG->Option α}:w7 orc k aW af args sh ts K=Kv K (cj orc k aW af args sh ts):=by
 unfold w7;rw[uP,uQ,gU];cases cE orc k af.body {env:=bK 0 args,mem:=[],sh,aa:=ts}with
 |none=>rfl
 |some q=>obtain⟨e,s⟩:=q;simp only[RJ];exact Qs
def Kx(AP:Nat->Option aw)(k:Nat):Nat->eZ
 |0=>{p:=fun _ _=>none,i:=fun _ _ _ _=>none}
 |n+1=>
  { p:=fun g dV=>match AP g with
   |some af=>match af.qp with
    |some f=>f.f (Kx AP k n).p dV
    |none=>if dV.length=af.nparams∧dV.length<=af.ntmps then w7 (Kx AP k n) k false af (dV.map .pv) [] [] fun rs _ _=>fp rs else none
   |none=>none,
    i:=fun g args sh ts=>match AP g with
     |some af=>if args.length<=af.ntmps then w7 (Kx AP k n) k true af args sh ts fun a b c=>some (a,b,c)else none
     |none=>none}
theorem GP{AP:Nat->Option aw}{k:Nat}:∀n,Kx AP k n=run AP k n
 |0=>rfl
 |n+1=>by
  have a:=GP (AP:=AP) (k:=k) n;simp only[Kx,run];congr 1
  ·funext g dV
   cases AP g with
   |none=>rfl
   |some af=>
    dsimp only;cases af.qp with
    |some f=>dsimp only;rw[a]
    |none=>
     dsimp only;split
     ·rw[pP,a];cases cj (run AP k n) k false af (dV.map .pv) [] []with
      |none=>rfl
      |some q=>rfl
     ·rfl
  ·funext g args sh ts
   cases AP g with
   |none=>rfl
   |some af=>
    dsimp only;split
    ·rw[pP,a];cases cj (run AP k n) k true af args sh ts with
     |none=>rfl
     |some q=>rfl
    ·rfl
theorem T5{AP:Nat->Option aw}{k n g:Nat}{x rs:List PV}(h:(Kx AP k n).p g x=some rs):(aC AP).p g x=some rs:=by
 rw[GP]at h;exact uf (sY g x) (show(run AP (max k n) (max k n)).p g x=some rs from(cK (zbb k n) (zbd k n)).p _ _ _ h)
def wo(AP:Nat->Option aw)(d:Nat->List PV->Option (List PV))(k:Nat):Nat->eZ
 |0=>{p:=d,i:=fun _ _ _ _=>none}
 |n+1=>
  { p:=fun g dV=>match d g dV with
   |some r=>some r
   |none=>match AP g with
    |some af=>match af.qp with
     |some f=>f.f (wo AP d k n).p dV
     |none=>if dV.length=af.nparams∧dV.length<=af.ntmps then w7 (wo AP d k n) k false af (dV.map .pv) [] [] fun rs _ _=>fp rs else none
    |none=>none,
    i:=fun g args sh ts=>match AP g with
     |some af=>if args.length<=af.ntmps then w7 (wo AP d k n) k true af args sh ts fun a b c=>some (a,b,c)else none
     |none=>none}
theorem BV{AP:Nat->Option aw}{orc:eZ}{k:Nat}{aW:Bool}{af:aw}{args:List AV}{sh:Sh}{ts:aG}{r:List AV×Sh×aG}(a:orc.le (aC AP))(h:cj orc k aW af args sh ts=some r):ot AP aW af args sh ts=some r:=by
 rw[gU]at h;unfold ot;cases b:cE orc k af.body {env:=bK 0 args,mem:=[],sh,aa:=ts}with
 |none=>rw[b]at h;simp[finish]at h
 |some q=>
  rw[kL (bN a (zaj k) b)];rw[b]at h;exact h
theorem GQ{AP:Nat->Option aw}{c:Nat->List PV->Option (List PV)}{k:Nat}(a:∀g x r,c g x=some r->(aC AP).p g x=some r):∀n,(wo AP c k n).le (aC AP)
 |0=>⟨a,fun g x s t r h=>by simp[wo]at h⟩
 |n+1=>by
  have i:=GQ (k:=k) a n;refine⟨fun g x r h=>?_,fun g x s t r h=>?_⟩
  ·simp only[wo]at h;split at h
   ·rename_i j e;rw[<-h];exact a g x j e
   ·split at h
    ·rename_i af d;cases hp:af.qp with
     |some f=>rw[hp]at h;rw[PA d hp];exact f.mono i.p h
     |none=>
      rw[hp]at h;simp only[zab]at h;obtain⟨⟨h1,h2⟩,h⟩:=h;rw[pP]at h;rw[RC d hp h1 h2];cases b:cj (wo AP c k n) k false af (x.map .pv) [] []with
      |none=>rw[b]at h;simp[Kv]at h
      |some q=>rw[BV i b];rw[b]at h;exact h
    ·cases h
  ·simp only[wo]at h;split at h
   ·rename_i af d;simp only[zab]at h;obtain⟨h2,h⟩:=h;rw[pP]at h;rw[RD d h2];cases b:cj (wo AP c k n) k true af x s t with
    |none=>rw[b]at h;simp[Kv]at h
    |some q=>rw[BV i b];rw[b]at h;exact h
   ·cases h
theorem Wd{AP:Nat->Option aw}{b:Nat->List PV->Option (List PV)}{k n g:Nat}{x rs:List PV}(a:∀g x r,b g x=some r->(aC AP).p g x=some r)(h:(wo AP b k n).p g x=some rs):(aC AP).p g x=some rs:=(GQ a n).p _ _ _ h
end Go.Ab.Fc
namespace Go.Ab
section
variable {P:Program} {ns:Names} {w w':World}
def M_:List PV->Option (List (List UInt8))
 |[]=>some []
 | .str s::r=>(M_ r).map (s::·)
 |_=>none
def YJ:List PV->Option (List PV)
 |[.aq els,.str a]=>match M_ els with
  |some xs=>if xs.length<=1000000000∧(Lib.join xs a).length<=140737488355328 then some [.str (Lib.join xs a)]else none
  |none=>none
 |_=>none
def YK:List PV->Option (List PV)
 |[.int .i64 n]=>if 0<=n∧n<100 then some [.str (Lib.decDigits n.toNat)]else none
 |_=>none
def Yn:List PV->Option (List PV)
 |[.int .i64 n]=>if -9223372036854775808<=n∧n<=9223372036854775807 then some [.str (Lib.itoa n)]else none
 |_=>none
end
end Go.Ab
namespace Go.Ab
open Ev
def FR(o:Nat->List PV->Option (List PV))(g:Nat):List PV->Option (List UInt8)
 |[]=>some []
 |d::r=>match o g [d]with
  |some [.str s]=>(FR o g r).map (s++·)
  |_=>none
def GR(n:Nat):PV->Bool
 | .agg cs=>cs.length == n && cs.all i6
 |_=>false
def Na(gd gb:Nat)(o:Nat->List PV->Option (List PV)):List PV->Option (List PV)
 |[.agg [.aq ds,.aq bs]]=>
  if ds.all (GR 4)=true∧bs.all (GR 20)=true∧ds.length<4611686018427387904∧bs.length<4611686018427387904 then
   match FR o gd ds,FR o gb bs with
   |some a,some b=>if(a++b).length<=140737488355328 then some [.str (a++b)]else none
   |_,_=>none
  else none
 |_=>none
theorem uS{o:Nat->List PV->Option (List PV)}{g:Nat}:∀{l:List PV}{s:List UInt8},FR o g l=some s->
   ∃c:List (Nat×List PV×List PV),(∀x∈c,o x.1 x.2.1=some x.2.2)∧∀o',(∀x∈c,o' x.1 x.2.1=some x.2.2)->FR o' g l=some s
 |[],s,h=>⟨[],by simp,fun _ _=>h⟩
 |d::r,s,h=>by
  simp only[FR]at h;split at h
  ·rename_i t b;simp only[zac]at h;obtain⟨u,hu,rfl⟩:=h;obtain⟨c,h1,h2⟩:=uS hu;refine⟨(g,[d],[.str t])::c,?_,fun o' a=>?_⟩
   ·intro x hx;simp only[zah]at hx;rcases hx with rfl|hx
    ·exact b
    ·exact h1 x hx
   ·have e1:=a _ (List.mem_cons_self);simp only[FR,e1,h2 o' (fun x hx=>a x (List.mem_cons_of_mem _ hx)),zaY]
  ·cases h
def Zn(gd gb:Nat):Prim:=⟨Na gd gb,by
 intro o x r h;unfold Na at h;split at h
 ·rename_i ds bs;rw[zab]at h;obtain⟨f,h⟩:=h;split at h
  ·rename_i a b i g;obtain⟨c1,f1,f2⟩:=uS i;obtain⟨c2,e,d⟩:=uS g;refine⟨c1++c2,?_,fun o' c=>?_⟩
   ·intro x hx;rcases zai.1 hx with hx|hx
    ·exact f1 x hx
    ·exact e x hx
   ·unfold Na;simp only;rw[zak f,f2 o' (fun x hx=>c x (List.mem_append_left _ hx)),d o' (fun x hx=>c x (List.mem_append_right _ hx))];exact h
  ·cases h
 ·cases h⟩
section
variable {T E:TypeId} {B b:Nat} {w w':World}
end
section
variable {P:Program} {ns:Names}
end
end Go.Ab
