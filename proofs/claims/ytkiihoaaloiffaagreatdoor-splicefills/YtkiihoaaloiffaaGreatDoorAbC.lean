import Derived.Test.YtkiihoaaloiffaaGreatDoorAbB
import Derived.RangeFuncLeaves
import Derived.RangeFuncRecord
import Derived.WalkKit
import Derived.ProofKit
import Derived.OpenShut
import Derived.Carry
import Derived.Lib.Join
import Derived.Lib.ItoaNum
import Derived.Lib.LaidTab
import Derived.Sort.Grow
import Derived.Deep.Draws
import Derived.Lib.Builder
import Derived.Lib.UnsafeStr
import Derived.Lib.AppendStr
/- The abstract machine, and that the code of the model does what its slim code says. -/
set_option linter.defProp false
set_option linter.unusedVariables false
set_option linter.unusedSimpArgs false
set_option linter.unnecessarySimpa false
set_option maxRecDepth 100000
set_option maxHeartbeats 8000000
namespace Go.Ab
def zaN:=@List.length_set
def zao:=@List.length_nil
def zbS:=@List.take_append_drop
def zc9:=@Go.wpIn_loop_rounds
def zcI:=@Nat.sub_zero
def zbJ:=@Go.World.putObj_heap_other
def zc8:=@List.nodup_cons
def zdd:=@List.drop_drop
def zcq:=@List.contains_iff_mem
def za5:=@decide_eq_true_eq
def zaE:=@List.nil_append
def zcE:=@Bool.eq_false_iff
def zbR:=@Nat.eq_of_beq_eq_true
def zaY:=@decide_eq_false
def za0:=@Bool.eq_iff_iff
def zda:=@decide_not
def zbx:=@Int.toNat_natCast
def zcF:=@Go.RowKit.Below.refl
def zbv:=@List.map_map
def zcp:=@List.mem_append_right
def zdg:=@List.drop_eq_getElem_cons
def zby:=@Nat.zero_le
def zbo:=@List.take_length
def zaO:=@List.drop_length
end Go.Ab
namespace Go.Ab
section
variable {n0:Nat} {P:Program} {ns:Names} {ro:Option Nat}
def th{c:Code}{Q:Exit->Act->World->Prop}{f:St->Option (bh×St)}{k:St->St}{N:Nat}
   (d:∀{st:St}{G:Gh}{a:Act}{w:World},iv (num ns) n0 N G st a w->∃G',iv (num ns) n0 N G' (k st) a w/\bY G w G' w)
   (hf:∀{st b:St}{e:bh}{G:Gh}{a:Act}{w:World}{Q:Exit->Act->World->Prop},f st=some (e,b)->iv (num ns) n0 N G st a w->
     (∀G' g w',iv (num ns) n0 N G' b g w'->bY G w G' w'->Q (rP e) g w')->c.wpIn (wR ro) 0 P Q a w):
   ∀(n:Nat){st b:St}{e:bh}{G:Gh}{a:Act}{w:World},fU f k n st=some (e,b)->iv (num ns) n0 N G st a w->
     (∀G' g w',iv (num ns) n0 N G' b g w'->bY G w G' w'->Q (rP e) g w')->Code.roundsIn (wR ro) 0 P c Q n a w
 |0,st,b,e,G,a,w,h,_,_=>by simp[fU]at h
 |n+1,st,b,e,G,a,w,h,hs,v=>by
  rw[roundsIn_succ];obtain⟨y,l,o⟩:=d hs;simp only[fU]at h;split at h
  .rename_i x h1;refine hf h1 l fun G' g w' i j=>?_;exact th d hf n h i fun u t q m p=>v u t q m ((o.trans j).trans p)
  .rename_i r hr
   have s:e≠.normal:=by
    rintro rfl
    exact hr b h
   refine hf h l fun G' g w' i j=>?_;have:=v G' g w' i (o.trans j)
   cases e with
   |normal=>exact absurd rfl s
   |ret=>exact this
   |exit id=>exact this
def GR{ρ:bX}{G:Gh}{x:AV}{v:Value}(h:aD ρ G x v):aD ρ G (oR x) v:=by
 cases x with
 |dr l=>
  simp only[aD]at h;obtain⟨base,len,e,r⟩:=h;simp only[oR,aD];exact cq.2 ⟨base,len,len,e,zas _,r⟩
 |_=>exact h
def vL{ρ:bX}{G:Gh}:∀(n:Nat){xs:List AV}{vs:List Value},aC ρ G xs vs->aC ρ G ((xs.take n).map oR++xs.drop n) vs
 |0,xs,vs,h=>by simpa using h
 |n+1,[],vs,h=>by simpa using h
 |n+1,x::r,vs,h=>by
  simp only[aC]at h;obtain⟨v,q,rfl,h1,h2⟩:=h;simp only[zbl,zal,zbf,zbb,aC];exact⟨v,q,rfl,GR h1,vL n h2⟩
def xX{p:AV->Bool}(hp:∀l,p (.dr l)=true->p (.pv (.aq l))=true){xs:List AV}(h:xs.all p=true)(n:Nat):((xs.take n).map oR++xs.drop n).all p=true:=by
 rw[zaq]at h⊢;intro y hy;rw[zaz,zat]at hy;rcases hy with⟨x,hx,rfl⟩|hy
 .have:=h x (zbd hx);cases x<;>first|exact this|exact hp _ this
 .exact h y (zbW hy)
def GS{N:Nat}{v:AV}{st:St}{G:Gh}{a:Act}{w:World}(h:iv (num ns) n0 N G st a w):∃G',iv (num ns) n0 N G' (Eg v st) a w/\bY G w G' w:=by
 unfold Eg;split
 .rename_i m b;split
  .rename_i cs g;refine⟨G,⟨h.env,?_,h.marks⟩,bY.refl G w⟩;have i:=h.inv;refine⟨i.known,i.bm,i.fresh,i.di,i.iu,?_,?_,i.dV,i.gF,i.mP⟩
   .intro s cells hs;rw[zaA]at hs;by_cases l:b=s
    .subst l;have r:=(zaa.1 g).1;rw[zan rfl,zan r]at hs;cases hs;obtain⟨q,e1,⟨e2,o,e3,e4⟩,e5,e6⟩:=i.dH b cs g;refine⟨q,e1,⟨e2,o,e3,e4.to (fun _ _ _ h=>h) (fun kvs B=>by subst B;simp[oR]) fun vs=>vL _⟩,xX (fun _ _=>rfl) e5 _,xX (fun _ _=>rfl) e6 _⟩
    .rw[zai l]at hs;exact i.dH s cells hs
   .intro s q hs;rw[zaN];exact i.fu s q hs
  .exact⟨G,h,bY.refl G w⟩
 .rename_i m d;split
  .rename_i cs g;split
   .rename_i ps n;obtain⟨G1,k1,k2,k3,k4,k5⟩:=Inv.kill ([.agg cs].flatMap eA) h.inv;obtain⟨b,e1,⟨e2,c,t,e3,e4⟩,e5⟩:=h.inv.di d cs g;obtain⟨b',f1,⟨f2,c',t',f3,D⟩,C⟩:=k1.di d cs g;have l:b=b':=by have:=k2.pm d b e1;rw[f1]at this;simpa using this.symm
    subst l;have y:c=c':=by rw[e3]at f3;cases f3;rfl
    subst y;have j:dO G1.K ps c.toList:=ml k2 k4 h.inv.uU (fun s hs=>by simpa using hs) n e4
    have u:(ps.map AV.pv).all aY=true:=by
     rw[zaq];intro x hx;rw[zat]at hx;obtain⟨p,hp,rfl⟩:=hx;have:=lM j p hp;cases p<;>first|rfl|simp[dT]at this
    refine⟨G1,⟨⟨h.env.size,fun t' x hx=>?_⟩,?_,h.marks.wQ k3 rfl⟩,k3⟩
    .obtain⟨A,g1,g2⟩:=h.env.env t' x hx;exact⟨A,g1,g2.mono k2⟩
    .refine⟨k1.known,k1.bm,k1.fresh,?_,?_,k1.dH,k1.fu,k1.dV,k1.gF,k1.mP⟩
     .intro k z e;by_cases f:d=k
      .subst f;rw[bN]at e;cases e;exact⟨b,f1,⟨f2,c,t',f3,iV j⟩,u⟩
      .rw[bZ _ _ _ _ f]at e;exact k1.di k z e
     .intro k b' e;by_cases f:d=k
      .subst f;rw[bN];rfl
      .rw[bZ _ _ _ _ f];exact k1.iu k b' e
   .exact⟨G,h,bY.refl G w⟩
  .exact⟨G,h,bY.refl G w⟩
 .exact⟨G,h,bY.refl G w⟩
def kb{N:Nat}:∀{ts:List Nat}{st:St}{G:Gh}{a:Act}{w:World},iv (num ns) n0 N G st a w->∃G',iv (num ns) n0 N G' (oO ts st) a w/\bY G w G' w
 |[],st,G,a,w,h=>⟨G,h,bY.refl G w⟩
 |t::r,st,G,a,w,h=>by
  simp only[oO];split
  .rename_i v hv;split
   .rename_i p hp;obtain⟨G1,k1,k2,k3,k4,k5⟩:=Inv.kill ([v].flatMap eA) h.inv;obtain⟨u,hu,hr⟩:=h.env.env t v hv;have b:Rel G1.K p u:=uT k2 k4 h.inv.uU (fun s hs=>by simpa using hs) hp hr
    have h1:iv (num ns) n0 N G1 {st with env:=dF st.env t (.pv p),sh:=cQ st.sh [v]} a w:=by
     refine⟨⟨h.env.size,fun t' x hx=>?_⟩,k1,h.marks.wQ k3 rfl⟩;by_cases ht:t'=t
     .subst ht;rw[Ev.oq,zan rfl]at hx;cases hx;exact⟨u,hu,by simpa only[aD]using b⟩
     .rw[Ev.oq,zai ht]at hx;obtain⟨d,f1,f2⟩:=h.env.env t' x hx;exact⟨d,f1,f2.mono k2⟩
    obtain⟨c,h2,e⟩:=kb (ts:=r) h1;exact⟨c,h2,k3.trans e⟩
   .obtain⟨G1,h1,e1⟩:=GS (v:=v) h;obtain⟨c,h2,e2⟩:=kb (ts:=r) h1;exact⟨c,h2,e1.trans e2⟩
  .exact kb h
def rQ{d s sz n:Nat}{ag:Bool}{env:List (Nat×AV)}:∀{l:List Nat}{t:Nat}{x:AV},look (tK d s sz n ag env l) t=some x->
   ∃y,look env t=some y/\A' d s sz n ag y=some x
 |[],t,x,h=>by simp[tK,look]at h
 |k::r,t,x,h=>by
  simp only[tK]at h;split at h
  .rename_i v hv;simp only[look]at h;split at h
   .rename_i e;subst e;cases h;rw[zaF]at hv;exact hv
   .exact rQ h
  .exact rQ h
def Gh.mV(G:Gh)(d b s n:Nat):Gh:=
 {G with role:=fun x=>if x=b then .shr s else G.role x,pm:=fun x=>if x=d then none else G.pm x,sm:=fun x=>if x=s then some (b,n)else G.sm x}
def CS{ρ:bX}{G:Gh}{d b s n:Nat}(hs:G.sm s=none){x:AV}{v:Value}(hf:kK x=true)(h:aD ρ G x v):aD ρ (G.mV d b s n) x v:=by
 refine xA (G':=G.mV d b s n) (bt.le_refl G.K) (fun s' b' e=>?_) (fun _ _ e=>e) hf h;simp only[Gh.mV];rw[zai (by rintro rfl;rw[hs]at e;cases e)];exact e
theorem CT{x:AV}(h:aY x=true):kK x=true:=by
 rcases pn h with hf|⟨l,τ,rfl⟩
 .cases x with
  |own l τ=>rfl
  |_=>simpa[kK]using hf
 .rfl
theorem qA:∀{xs:List AV},xs.all aY=true->gv xs=true
 |[],_=>rfl
 |x::xs,h=>by
  simp only[zaQ,zah]at h;simp only[gv,zah];exact⟨CT h.1,qA h.2⟩
def rR{ρ:bX}{G:Gh}{d b s n:Nat}(hs:G.sm s=none){xs:List AV}{vs:List Value}(hf:xs.all aY=true)(h:aC ρ G xs vs):aC ρ (G.mV d b s n) xs vs:=by
 refine jW (G':=G.mV d b s n) (bt.le_refl G.K) (fun s' b' e=>?_) (fun _ _ e=>e) (qA hf) h;simp only[Gh.mV];rw[zai (by rintro rfl;rw[hs]at e;cases e)];exact e
theorem GU{N d sz:Nat}{ag:Bool}{st:St}{G:Gh}{a:Act}{w:World}(h:iv (num ns) n0 N G st a w):∃G',iv (num ns) n0 N G' (Jm d sz ag st) a w/\bY G w G' w:=by
 unfold Jm;split
 .rename_i cells L;split
  .rename_i I;obtain⟨B,H⟩:=I;obtain⟨b,e1,⟨e2,c,t,e3,e4⟩,e5⟩:=h.inv.di d cells L
   have k:G.sm st.sh.length=none:=by
    cases hx:G.sm st.sh.length with
    |none=>rfl
    |some b'=>have:=h.inv.fu _ _ hx;omega
   have M:c.size=cells.length:=by have:=e4.length;simpa using this
   have R:b<w.heap.size:=(zaW.1 e3).1
   have j:bY G w (G.mV d b st.sh.length cells.length) w:=
     { size:=zas _,os:=rfl,tape:=rfl,output:=rfl,K:=bt.le_refl G.K
       sm:=fun s' b' e=>by
        simp only[Gh.mV];rw[zai (by rintro rfl;rw[k]at e;cases e)];exact e
       fe:=fun b' _ hr=>⟨by
        simp only[Gh.mV];rw[zai (by rintro rfl;rw[e2]at hr;cases hr)];exact hr,rfl⟩
       jt:=fun b' τ _ hr=>.inr ⟨τ,by
        simp only[Gh.mV];rw[zai (by rintro rfl;rw[e2]at hr;cases hr)];exact hr⟩
       iG:=fun _ _ _ _ _ z=>z}
   have f:∀b' r,G.role b'=r->r≠.mW d->(G.mV d b st.sh.length cells.length).role b'=r:=by
    intro b' r hr hn;simp only[Gh.mV];rw[zai (by rintro rfl;rw[e2]at hr;exact hn hr.symm)];exact hr
   refine⟨G.mV d b st.sh.length cells.length,⟨⟨h.env.size,fun t' x hx=>?_⟩,?_,h.marks.wQ j rfl⟩,j⟩
   .obtain⟨y,hy,hv⟩:=rQ hx;obtain⟨u,g1,g2⟩:=h.env.env t' y hy;refine⟨u,g1,?_⟩
    have aW:en [] y=true->x=y->aD (num ns) (G.mV d b st.sh.length cells.length) x u:=by
     rintro z rfl
     cases x with
     |own l τ=>exact CS k rfl g2
     |agg cs=>
      simp only[aD]at g2⊢;obtain⟨vs,p,q⟩:=g2;refine⟨vs,p,jW (G':=G.mV d b st.sh.length cells.length) (bt.le_refl G.K) (fun s' b' e=>j.sm s' b' e) (fun _ _ e=>e) (by simpa[en]using z) q⟩
     |au _ _=>simp[en]at z
     |kF _ _=>simp[en]at z
     |_=>exact CS k (by simpa[kK,en]using z) g2
    unfold A' at hv;split at hv
    .rename_i D o;simp only[aD]at g2;obtain⟨b',p,q⟩:=g2;simp only[zag]at hv;split at hv
     .rename_i hd;subst hd hv;rw[e1]at p;cases p;simp only[aD];exact⟨(b,cells.length),by simp[Gh.mV],q⟩
     .rename_i hd;subst hv;simp only[aD];exact⟨b',by simp only[Gh.mV];rw[zai hd];exact p,q⟩
    .rename_i D m;simp only[aD]at g2;obtain⟨b',p,q⟩:=g2;split at hv
     .rename_i hd;subst hd;simp only[zab,zag]at hv;obtain⟨hm,rfl⟩:=hv;rw[e1]at p;cases p;simp only[aD];exact⟨(b,cells.length),0,by simp[Gh.mV],q,hm⟩
     .rename_i hd;simp only[zag]at hv;subst hv;simp only[aD];exact⟨b',by simp only[Gh.mV];rw[zai hd];exact p,q⟩
    .simp only[zab,zag]at hv;exact aW hv.1 hv.2.symm
   .have hi:=h.inv;refine⟨hi.known,?_,?_,?_,?_,?_,?_,?_,?_,hi.jj j⟩
    .intro b' o v z;rcases hi.bm b' o v z with hr|⟨τ,hr⟩
     .exact .inl (f _ _ hr (by simp))
     .exact .inr ⟨τ,f _ _ hr (by simp)⟩
    .intro b' O;exact f _ _ (hi.fresh b' O) (by simp)
    .intro D A i;rw[ou]at i;split at i
     .cases i
     .rename_i s;obtain⟨b',f1,⟨f2,c',t',f3,P⟩,C⟩:=hi.di D A i;exact⟨b',by simp only[Gh.mV];rw[zai s];exact f1,⟨f _ _ f2 (by simpa using s),c',t',f3,rR k C P⟩,C⟩
    .intro D b' i;simp only[Gh.mV]at i;split at i
     .cases i
     .rename_i s;rw[ou,zai s];exact hi.iu D b' i
    .intro s' A g;rw[zbn]at g;split at g
     .rename_i J;obtain⟨b',f1,⟨f2,o,f3,P⟩,C,S⟩:=hi.dH s' A g;refine⟨b',j.sm _ _ f1,⟨f _ _ f2 (by simp),o,f3,P.to (bt.le_refl G.K) (fun _ e=>e) (fun vs r=>rR k (jw C) r)⟩,C,S⟩
     .rename_i J
      have F:s'=st.sh.length:=by
       have:=(zaa.1 g).1;simp at this;omega
      subst F;simp at g;subst g;refine⟨(b,cells.length),by simp[Gh.mV],⟨by simp[Gh.mV],_,e3,?_⟩,B,H⟩;have:=Holds.full (t:=t) (rR (d:=d) (b:=b) (n:=cells.length) k (jw B) e4)
      rwa [M]at this
    .intro s' b' g;simp only[Gh.mV]at g;simp only[zad,zae,zao];split at g
     .omega
     .have:=hi.fu s' b' g;omega
    .intro τ n hn;obtain⟨t',f1,f2,f3⟩:=hi.dV τ n hn;refine⟨t',f1,f2,f3.cap,f3.zero,fun E=>?_⟩;obtain⟨b',o,c',ty,p,q,Q⟩:=f3.spare E;exact⟨b',o,c',ty,p,f _ _ q (by simp),Q⟩
    .exact hi.gF
  .exact⟨G,h,bY.refl G w⟩
 .exact⟨G,h,bY.refl G w⟩
def pF{N:Nat}:∀{ps:List (Nat×Nat×Bool)}{st:St}{G:Gh}{a:Act}{w:World},iv (num ns) n0 N G st a w->∃G',iv (num ns) n0 N G' (yT ps st) a w/\bY G w G' w
 |[],st,G,a,w,h=>⟨G,h,bY.refl G w⟩
 |(d,sz,ag)::r,st,G,a,w,h=>by
  obtain⟨G1,h1,e1⟩:=GU (d:=d) (sz:=sz) (ag:=ag) h;obtain⟨b,h2,e2⟩:=pF (ps:=r) h1;exact⟨b,h2,e1.trans e2⟩
def oz{b b':Nat}:∀{ts:List Nat}{env:List (Nat×AV)}{t:Nat}{x:AV},look (oP b b' ts env) t=some x->look env t=some x\/∃z n ag,look env t=some (.aP b z n ag)/\x=.aP b' z n ag
 |[],env,t,x,h=>.inl h
 |u::r,env,t,x,h=>by
  simp only[oP]at h;split at h
  .rename_i s z n ag hu;split at h
   .rename_i hs;subst hs;rcases oz h with h1|⟨d,n',c,h1,h2⟩
    .by_cases a:u=t
     .subst a;rw[bN]at h1;cases h1;exact .inr ⟨z,n,ag,hu,rfl⟩
     .rw[bZ _ _ _ _ a]at h1;exact .inl h1
    .by_cases a:u=t
     .subst a;rw[bN]at h1;cases h1;exact .inr ⟨z,n,ag,hu,h2⟩
     .rw[bZ _ _ _ _ a]at h1;exact .inr ⟨d,n',c,h1,h2⟩
   .exact oz h
  .exact oz h
def GV{N:Nat}{ts:List Nat}{st:St}{G:Gh}{a:Act}{w:World}(h:iv (num ns) n0 N G st a w):∃G',iv (num ns) n0 N G' (Eh ts st) a w/\bY G w G' w:=by
 unfold Eh;split
 .exact⟨G,h,bY.refl G w⟩
 .rename_i t r;split
  .rename_i b z n ag k;split
   .rename_i cells c;split
    .obtain⟨f,e1,_⟩:=h.inv.dH b cells c;obtain⟨g1,g2,g⟩:=h.inv.iX c e1;refine⟨_,⟨⟨h.env.size,fun t' x hx=>?_⟩,g1,h.marks.wQ g rfl⟩,g⟩;rcases oz hx with h1|⟨j,n',i,h1,rfl⟩
     .obtain⟨v,e,d⟩:=h.env.env t' x h1;exact⟨v,e,d.mono g2⟩
     .obtain⟨v,e,d⟩:=h.env.env t' _ h1;refine⟨v,e,?_⟩;simp only[aD]at d⊢;obtain⟨b',cap,f1,f2,f3⟩:=d;rw[e1]at f1;cases f1;exact⟨f,cap,by simp[Gh.iX],f2,f3⟩
    .exact⟨G,h,bY.refl G w⟩
   .exact⟨G,h,bY.refl G w⟩
  .exact⟨G,h,bY.refl G w⟩
theorem CU:∀{ks:List Nat}{sh:Sh}{b:Nat},b∉ks->(kill sh ks)[b]?=sh[b]?
 |[],_,_,_=>rfl
 |k::ks,sh,b,h=>by
  simp only[zau,not_or]at h;have a:kill sh (k::ks)=kill (sh.set k none) ks:=rfl;rw[a,CU h.2,zaA,zai (fun e=>h.1 e.symm)]
def iK{N:Nat}:∀{ts:List Nat}{st:St}{G:Gh}{a:Act}{w:World},iv (num ns) n0 N G st a w->∃G',iv (num ns) n0 N G' (jO ts st) a w/\bY G w G' w
 |[],st,G,a,w,h=>⟨G,h,bY.refl G w⟩
 |t::r,st,G,a,w,h=>by
  simp only[jO];split
  .rename_i b z n ag I;split
   .rename_i cells j;split
    .rename_i o;obtain⟨u,f⟩:=o;split
     .rename_i ps m;obtain⟨G1,k1,k2,k3,k4,k5⟩:=Inv.kill ([.agg cells].flatMap eA) h.inv;obtain⟨D,e1,e2,e3,e4⟩:=h.inv.dH b cells j;obtain⟨hr,c,ty,vs,suf,F,A,l,i⟩:=e2.cells u
      have q:b∉[AV.agg cells].flatMap eA:=by
       have:¬(eA (.agg cells)).contains b=true:=by rw[f];simp
       simpa using this
      have B:(cQ st.sh [.agg cells])[b]?=some (some cells):=by
       show (kill st.sh ([AV.agg cells].flatMap eA))[b]?=_;rw[CU q];exact j
      obtain⟨e,f1,f2,f3,J⟩:=k1.dH b cells B
      have k:e=D:=by
       have:=k2.sm _ _ e1;rw[f1]at this;simpa using this
      subst k;have g:dO G1.K ps vs:=ml k2 k4 h.inv.uU (fun s hs=>by simpa using hs) m i
      have v:(ps.map AV.pv).all da=true:=by
       rw[zaq];intro x hx;rw[zat]at hx;obtain⟨p,hp,rfl⟩:=hx;have:=lM g p hp;cases p<;>first|rfl|simp[dT]at this
      have h1:iv (num ns) n0 N G1 {st with sh:=(cQ st.sh [.agg cells]).set b (some (ps.map .pv))} a w:=by
       refine⟨⟨h.env.size,fun t' x hx=>?_⟩,?_,h.marks.wQ k3 rfl⟩
       .obtain⟨E,g1,g2⟩:=h.env.env t' x hx;exact⟨E,g1,g2.mono k2⟩
       .exact { k1 with
         dH:=fun s' C d=>by
          rw[zaA]at d;split at d
          .rename_i y;subst y;split at d
           .cases d
            exact⟨e,f1,⟨f2.role,_,F,.inl ⟨c,ty,vs,suf,rfl,A,l,iV g⟩⟩,v,y5 _ _⟩
           .cases d
          .exact k1.dH s' C d
         fu:=fun s' b' d=>by
          have:=k1.fu s' b' d;simpa using this}
      obtain⟨H,h2,y⟩:=iK (ts:=r) h1;exact⟨H,h2,k3.trans y⟩
     .exact iK h
    .exact iK h
   .exact iK h
  .exact iK h
def xY{α a:Type}{f:α->Option a}:∀{l:List α}{r:List a}(k:Nat),cg f l=some r->cg f (l.take k)=some (r.take k)/\cg f (l.drop k)=some (r.drop k)
 |l,r,0,h=>by simp[cg,h]
 |[],r,k+1,h=>by simp[cg]at h;subst h;simp[cg]
 |x::l,r,k+1,h=>by
  simp only[cg]at h;split at h
  .rename_i y b h1 h2;cases h;obtain⟨g1,g2⟩:=xY k h2;simp only[zbl,zbf,cg,h1,g1];exact⟨trivial,g2⟩
  .cases h
def z4(r:fy P ns){orc:eY}(c:iD P ns orc){A:lG}{N id k:Nat}{q:Nat×List Nat×List Nat}{ops:Array Oper}{as:List dM}(hc:cg (cA P ns A N ops) ops.toList=some as){live:List Nat}{st d:St}{e:bh}{G:Gh}{a:Act}{w:World}
   (hs:iv (num ns) n0 N G st a w) (b:c_ orc k (Em (some q) as live) st=some (e,d)) {Q:Exit->Act->World->Prop}
   (v:∀G' s w',iv (num ns) n0 N G' d s w'->bY G w G' w'->Q (rP e) s w'):(Code.region id ops false).wpIn (wR ro) 0 P Q a w:=by
 obtain⟨j,l,ts⟩:=q;simp only[Em,c_]at b;obtain⟨g1,g2⟩:=xY j hc;cases h1:bC orc (as.take j) st with
 |none=>rw[h1]at b;simp at b
 |some f=>
  rw[h1]at b;simp only at b;cases h2:bC orc (as.drop j) (Eh ts (Go.Ab.restrict l f))with
  |none=>rw[h2]at b;simp at b
  |some u=>
   rw[h2]at b;simp only[zag,zaD]at b;obtain⟨rfl,rfl⟩:=b;refine za8 ?_;rw[<-zbS j ops.toList];refine j_ r c g1 hs h1 fun G1 y w1 i p _ _=>?_;obtain⟨z,h,o⟩:=GV (ts:=ts) (i.restrict l)
   have:=j_ (ro:=ro) (n:=0) (rest:=[]) (Q:=Q) r c g2 h h2 (fun G3 x t g m _ _=>by
    unfold wpListIn;exact v (G3.aW live) x t (g.restrict live) (p.trans ((bY.aW l).trans (o.trans (m.trans (bY.aW live))))))
   rwa [zax]at this
theorem mS{live:List Nat}{env:List (Nat×AV)}:∀{ds:List (Nat×Nat)},jh (bJ live env live) ds=true->jh env ds=true
 |[],_=>rfl
 |(a,b)::r,h=>by
  simp only[jh,zah]at h⊢;refine⟨?_,mS h.2⟩;obtain⟨b1,o1,b2,o2,h1,h2,c⟩:=xF h.1;rw[(dQ h1).1,(dQ h2).1];simpa[apart]using c
def vM{orc:eY}{k:Nat}{as:List dM}{live:List Nat}{ds:Option (List (Nat×Nat))}{ps:Option (List (Nat×Nat×Bool))}{st b:St}{e:bh}
   (h:c_ orc k (behind ds ps (.jf as live)) st=some (e,b)):
   ∃a,bC orc as st=some a/\e=.normal/\jh a.env (ds.getD [])=true/\b=yT (ps.getD []) (restrict live a):=by
 have h1:∀e2 c,c_ orc k (match ds with|some ds=>ah.seq (.jf as live) (.TS ds)|none=>.jf as live) st=some (e2,c)->
     ∃a,bC orc as st=some a/\e2=.normal/\jh a.env (ds.getD [])=true/\c=restrict live a:=by
   intro e2 c h;cases ds with
   |none=>
    simp only[c_]at h;split at h
    .rename_i a h1;simp at h;obtain⟨rfl,rfl⟩:=h;exact⟨a,h1,rfl,rfl,rfl⟩
    .simp at h
   |some ds=>
    simp only[c_]at h;cases h1:bC orc as st with
    |none=>rw[h1]at h;simp at h
    |some a=>
     rw[h1]at h;simp only[zab,zag,zaD]at h;obtain⟨h2,rfl,rfl⟩:=h;exact⟨a,rfl,rfl,mS h2,rfl⟩
 unfold behind at h;cases ps with
 |none=>
  obtain⟨a,g1,g2,d,g4⟩:=h1 e b h;exact⟨a,g1,g2,d,g4⟩
 |some ps=>
  simp only[c_]at h;split at h
  .rename_i c h2;simp at h;obtain⟨a,g1,g2,d,rfl⟩:=h1 _ _ h2;exact⟨a,g1,h.1.symm,d,h.2.symm⟩
  .rename_i r hr;obtain⟨a,g1,rfl,d,g4⟩:=h1 e b h;exact absurd h (hr b)
def ue(_:Program)(_:Names):Prop:=True
def jC(hm:P.follows .mixedOrders=true)(C:fy P ns){orc:eY}(j:iD P ns orc)(v:ue P ns){A:lG}{N k:Nat}:∀{c:Code}{s:ah},gK P ns A N c=some s->
   ∀{n0:Nat}{ro:Option Nat},(ro=none\/s.gE=true)->∀{st g:St}{e:bh}{G:Gh}{a:Act}{w:World}{Q:Exit->Act->World->Prop},c_ orc k s st=some (e,g)->iv (num ns) n0 N G st a w->
     (∀G' z w',iv (num ns) n0 N G' g z w'->bY G w G' w'->Q (rP e) z w')->c.wpIn (wR ro) 0 P Q a w
 | .skip,s,hc,n0,ro,i,st,g,e,G,a,w,Q,d,hs,l=>by
  simp[gK]at hc;subst hc;simp[c_]at d;obtain⟨rfl,rfl⟩:=d;exact wpIn_skip (l G a w hs (bY.refl G w))
 | .region id ops p,s,hc,n0,ro,i,st,g,e,G,a,w,Q,d,hs,l=>by
  simp only[gK]at hc;split at hc
  .rename_i as M
   have key:∀o ds ps live,s=kL o (behind ds ps (.jf as live))->(p=true->yV (ds.getD []) ops.toList as=true)->(Code.region id ops p).wpIn (wR ro) 0 P Q a w:=by
    rintro o ds ps live rfl hd
    have F:∀{st:St}{G1:Gh},c_ orc k (behind ds ps (.jf as live)) st=some (e,g)->iv (num ns) n0 N G1 st a w->bY G w G1 w->(Code.region id ops p).wpIn (wR ro) 0 P Q a w:=by
     intro st G1 d hs u;obtain⟨I,h1,rfl,h3,rfl⟩:=vM d;refine xH hm C j M hd hs h1 h3 fun G' z w' m n=>?_;obtain⟨O,h4,h5⟩:=pF (ps:=ps.getD []) (m.restrict live);exact l O z w' h4 (u.trans (n.trans ((bY.aW live).trans h5)))
    cases o with
    |none=>exact F d hs (bY.refl G w)
    |some ts=>
     simp only[kL,c_]at d;obtain⟨O,h2,B⟩:=kb (ts:=ts) hs;exact F d h2 B
   have ahead:∀o1 o2 c,s=t4 o1 (kL o2 c)->(∀{st:St}{G1:Gh},c_ orc k c st=some (e,g)->iv (num ns) n0 N G1 st a w->bY G w G1 w->(Code.region id ops p).wpIn (wR ro) 0 P Q a w)->(Code.region id ops p).wpIn (wR ro) 0 P Q a w:=by
    rintro o1 o2 c rfl hm
    have h2:∀{st:St}{G1:Gh},c_ orc k (kL o2 c) st=some (e,g)->iv (num ns) n0 N G1 st a w->bY G w G1 w->(Code.region id ops p).wpIn (wR ro) 0 P Q a w:=by
     intro st G1 d hs u;cases o2 with
     |none=>exact hm d hs u
     |some ts=>
      simp only[kL,c_]at d;obtain⟨O,h2,B⟩:=kb (ts:=ts) hs;exact hm d h2 (u.trans B)
    cases o1 with
    |none=>exact h2 d hs (bY.refl G w)
    |some ts=>
     simp only[t4,c_]at d;obtain⟨O,h3,B⟩:=iK (ts:=ts) hs;exact h2 d h3 B
   split at hc
   .rename_i L;split at hc
    .rename_i X;simp at hc;exact key _ _ _ _ hc.symm (fun _=>X)
    .simp at hc
   .rename_i L;have U:p=false:=by simpa using L
    subst U;split at hc
    .rename_i q a3;simp only[zag]at hc;exact ahead _ _ _ hc.symm fun d hs u=>z4 C j M hs d fun G' z w' h1 h2=>l G' z w' h1 (u.trans h2)
    .simp only[zag]at hc;refine ahead _ _ _ hc.symm fun d hs u=>?_;obtain⟨I,h1,rfl,h3,rfl⟩:=vM d;refine xH hm C j M (fun h=>absurd h L) hs h1 h3 fun G' z w' m n=>?_;obtain⟨O,h4,h5⟩:=pF (ps:=(look A.mV id).getD []) (m.restrict ((look A.live id).getD []));exact l O z w' h4 (u.trans (n.trans ((bY.aW _).trans h5)))
  .simp at hc
 | .seq x y,s,hc,n0,ro,i,st,g,e,G,a,w,Q,d,hs,l=>by
  simp only[gK]at hc;split at hc
  .rename_i ax Z hx hy;simp at hc;subst hc;have D:ro=none\/ax.gE=true:=i.imp_right fun h=>by simp only[ah.gE,zah]at h;exact h.1
   have J:ro=none\/Z.gE=true:=i.imp_right fun h=>by simp only[ah.gE,zah]at h;exact h.2
   simp only[c_]at d;refine zbF ?_;split at d
   .rename_i I h1;refine jC hm C j v hx D h1 hs fun G' z w' m n=>?_;exact jC hm C j v hy J d m fun a1 a0 W S T=>l a1 a0 W S (n.trans T)
   .rename_i r hr;refine jC hm C j v hx D d hs fun G' z w' m n=>?_;have:=l G' z w' m n
    cases e with
    |normal=>exact absurd d (hr g)
    |ret=>exact this
    |exit id=>exact this
  .simp at hc
 | .cond c x y,s,hc,n0,ro,i,st,g,e,G,a,w,Q,d,hs,l=>by
  simp only[gK]at hc;split at hc
  .rename_i a2 ax Z Y hx hy;simp at hc;subst hc;have D:ro=none\/ax.gE=true:=i.imp_right fun h=>by simp only[ah.gE,zah]at h;exact h.1
   have J:ro=none\/Z.gE=true:=i.imp_right fun h=>by simp only[ah.gE,zah]at h;exact h.2
   simp only[c_]at d;split at d
   .rename_i t ht;have H:=HU hs.env Y ht;simp only[aD,jP]at H;refine wpIn_cond H ?_;cases t with
    |true=>exact jC hm C j v hx D (by simpa using d) hs l
    |false=>exact jC hm C j v hy J (by simpa using d) hs l
   .simp at d
  .simp at hc
 | .block id b,s,hc,n0,ro,i,st,g,e,G,a,w,Q,d,hs,l=>by
  simp only[gK,zac]at hc;obtain⟨ab,V,rfl⟩:=hc;have E:ro=none\/ab.gE=true:=i.imp_right fun h=>by simpa only[ah.gE]using h
  refine wpIn_block ?_;simp only[c_]at d;split at d
  .rename_i R I h1;refine jC hm C j v V E h1 hs fun G' z w' m n=>?_;split at d
   .rename_i K;simp at d;obtain⟨rfl,rfl⟩:=d;simp only[rP,Exit.inBlock,K,zbc];exact l G' z w' m n
   .rename_i K;simp at d;obtain⟨rfl,rfl⟩:=d;simp only[rP,Exit.inBlock,K,zbI];exact l G' z w' m n
  .rename_i r hr;refine jC hm C j v V E d hs fun G' z w' m n=>?_;have:=l G' z w' m n
   cases e with
   |normal=>exact this
   |ret=>exact this
   |exit R=>exact absurd d (hr R g)
 | .loop b,s,hc,n0,ro,i,st,g,e,G,a,w,Q,d,hs,l=>by
  simp only[gK,zac]at hc;obtain⟨ab,V,rfl⟩:=hc;have E:ro=none\/ab.gE=true:=i.imp_right fun h=>by simpa only[ah.gE]using h
  simp only[c_]at d;refine zc9 k ?_;exact th (fun h=>h.head _) (fun h1 h2 h3=>jC hm C j v V E h1 h2 h3) k d hs l
 | .exit id,s,hc,n0,ro,i,st,g,e,G,a,w,Q,d,hs,l=>by
  simp[gK]at hc;subst hc;simp[c_]at d;obtain⟨rfl,rfl⟩:=d;exact wpIn_exit (l G a w hs (bY.refl G w))
 | .ret,s,hc,n0,ro,i,st,g,e,G,a,w,Q,d,hs,l=>by
  simp[gK]at hc;subst hc;simp[c_]at d;obtain⟨rfl,rfl⟩:=d;exact wpIn_ret (l G a w hs (bY.refl G w))
 | .rangeFunc f ps x y,s,hc,n0,ro,i,st,g,e,G,a,w,Q,d,hs,l=>by simp[gK]at hc
 | .scope _,s,hc,n0,ro,i,st,g,e,G,a,w,Q,d,hs,l=>by simp[gK]at hc
 | .label _,s,hc,n0,ro,i,st,g,e,G,a,w,Q,d,hs,l=>by simp[gK]at hc
 | .goto _,s,hc,n0,ro,i,st,g,e,G,a,w,Q,d,hs,l=>by simp[gK]at hc
 | .refuse _,s,hc,n0,ro,i,st,g,e,G,a,w,Q,d,hs,l=>by simp[gK]at hc
end
end Go.Ab
namespace Go.Ab
section
variable {P:Program} {ns:Names} {G:Gh} {w:World}
def vN:∀{l:List AV}{i t:Nat}{v:AV},look (cf i l) t=some v->i<=t/\l[t-i]?=some v
 |[],i,t,v,h=>by simp[cf,look]at h
 |x::l,i,t,v,h=>by
  simp only[cf,look]at h;split at h
  .rename_i e;subst e;cases h;simp
  .rename_i a;obtain⟨h1,h2⟩:=vN h;refine⟨by omega,?_⟩;rw[show t-i=(t-(i+1))+1 from by omega];simpa using h2
def OL{N:Nat}{args:List AV}{vs:List Value}(hr:aC (num ns) G args vs)(hN:args.length<=N):
   ng (num ns) G N (cf 0 args) {tmps:=vs.toArray++Array.replicate (N-vs.toArray.size) undef,defers:=[]}:=by
 have hl:=hr.length;refine⟨by simp;omega,fun t x hx=>?_⟩;obtain⟨_,h2⟩:=vN hx;simp only[zcI]at h2;obtain⟨v,h3,h4⟩:=hr.get h2;refine⟨v,?_,h4⟩;rw[zcB (by have:=(zaa.1 h3).1;simpa using this)];simpa using h3
def tj{n0 N:Nat}{st:St}{a:Act}(hs:iv (num ns) n0 N G st a w){F:ResultVar->Sem Value}(l:∀t,F (.tmp t)=pure (a.tmps.getD t undef))(i:∀ad t,F (.cell ad t)=(do loadVar t (<-asAddr (a.tmps.getD ad undef)))):∀{h:List ResultVar}{rs:List rm}{xs:List AV},cg (HT P) h=some rs->eN st rs=some xs->
   ∃vs,(h.mapM F).run P w=.ok vs w/\aC (num ns) G xs vs
 |[],rs,xs,hc,hx=>by
  simp[cg]at hc;subst hc;simp[eN]at hx;subst hx;exact⟨[],by simp,by simp[aC]⟩
 |r::h,rs,xs,hc,hx=>by
  simp only[cg]at hc;split at hc
  .rename_i ar y h1 h2;simp at hc;subst hc;simp only[eN]at hx;split at hx
   .rename_i v x g1 g2;simp at hx;subst hx;obtain⟨q,k1,k2⟩:=tj hs l i h2 g2
    have one:∃u,(F r).run P w=.ok u w/\aD (num ns) G v u:=by
     cases r with
     |tmp t=>
      simp[HT]at h1;subst h1;simp only[sF]at g1;obtain⟨u,e1,e2⟩:=hs.env.env t v g1;exact⟨u,by rw[l];simp[e1],e2⟩
     |cell ad t=>
      simp only[HT]at h1;split at h1
      .rename_i sz ag j k;simp at h1;subst h1;simp only[sF]at g1;split at g1
       .rename_i d e1;split at g1
        .rename_i cs e2;simp only[zab]at g1;obtain⟨rfl,g1⟩:=g1;obtain⟨u,f1,f2⟩:=hs.env.env _ _ e1;simp only[aD]at f2;obtain⟨b,hp,rfl⟩:=f2;obtain⟨b',f,g,_⟩:=hs.inv.di _ _ e2;rw[hp]at f;cases f;obtain⟨_,c,ty,p,e⟩:=g;obtain⟨u,n,m⟩:=gf (w:=w) j k g1 e (gL p);exact⟨u,by rw[i];simp[f1,asAddr,n],m⟩
        .cases g1
       .rename_i s e1;split at g1
        .rename_i cs e2;split at g1
         .cases g1
         .rename_i hm;obtain⟨u,f1,f2⟩:=hs.env.env _ _ e1;simp only[aD]at f2;obtain⟨b,hp,rfl⟩:=f2;obtain⟨b',f,g,_⟩:=hs.inv.dH _ _ e2;rw[hp]at f;cases f;obtain⟨_,c,ty,vs,suf,p,_,o,e⟩:=g.cells (by simpa using hm);obtain⟨u,n,m⟩:=gf (w:=w) j k g1 e (qd p o);exact⟨u,by rw[i];simp[f1,asAddr,n],m⟩
        .cases g1
       .cases g1
      .simp at h1
    obtain⟨u,o1,o2⟩:=one;refine⟨u::q,?_,?_⟩
    .rw[zcO];simp only[zay];rw[o1];simp only[zam];rw[k1];rfl
    .simp only[aC];exact⟨u,q,rfl,o2,k2⟩
   .simp at hx
  .simp at hc
def pG{G':Gh}{sh:Sh}{ks:List Nat}(a:G.le G')(hf:lf ns G G' sh ks)(hl:∀(s:Nat)(cells:List AV),sh[s]?=some (some cells)->cells.all aY=true)
   {x:AV} {v:Value} (b:∀s∈eA x,s∈ks) (h:aD (num ns) G x v):aD (num ns) G' (uG sh x) v:=by
 unfold uG;split
 .rename_i p hp;simp only[aD];exact uT a hf hl b hp h
 .exact h.mono a
def OM{G':Gh}{sh:Sh}{ks:List Nat}(a:G.le G')(hf:lf ns G G' sh ks)(hl:∀(s:Nat)(cells:List AV),sh[s]?=some (some cells)->cells.all aY=true)
   {x:AV} {v:Value} (c:aY x=true->∀s∈eA x,s∈ks) (h:aD (num ns) G x v):aD (num ns) G' (tM sh x) v:=by
 unfold tM;split
 .exact h.mono a
 .split
  .rename_i b;exact pG a hf hl (c b) h
  .exact h.mono a
def xZ{G':Gh}{sh:Sh}{ks:List Nat}(a:G.le G')(hf:lf ns G G' sh ks)(hl:∀(s:Nat)(cells:List AV),sh[s]?=some (some cells)->cells.all aY=true):
   ∀{cs:List AV}{vs:List Value},(∀s∈eA (.agg cs),s∈ks)->aC (num ns) G cs vs->aC (num ns) G' (cs.map (tM sh)) vs
 |[],vs,_,h=>by simpa[aC]using h
 |c::cs,vs,b,h=>by
  simp only[aC]at h;obtain⟨v,r,e,e1,e2⟩:=h;simp only[zal,aC];refine⟨v,r,e,OM a hf hl (fun d s hs=>b s ?_) e1,xZ a hf hl (fun s hs=>b s ?_) e2⟩
  .simp only[eA,zav,zaz];left;cases c<;>simp_all[eA,aY]
  .simp only[eA,zav,zaz]at hs⊢;exact .inr hs
def ON{G':Gh}{sh:Sh}{ks:List Nat}(a:G.le G')(hf:lf ns G G' sh ks)(hl:∀(s:Nat)(cells:List AV),sh[s]?=some (some cells)->cells.all aY=true)
   {x:AV} {v:Value} (b:∀s∈eA x,s∈ks) (h:aD (num ns) G x v):aD (num ns) G' (uH sh x) v:=by
 unfold uH;split
 .exact h.mono a
 .exact h.mono a
 .simp only[aD]at h⊢;obtain⟨vs,e,r⟩:=h;exact⟨vs,e,xZ a hf hl b r⟩
 .exact pG a hf hl b h
def pH{G':Gh}{sh:Sh}{ks:List Nat}{F:Sh->AV->AV}(hF:∀{x:AV}{v:Value},(∀s∈eA x,s∈ks)->aD (num ns) G x v->aD (num ns) G' (F sh x) v):
   ∀{xs:List AV}{vs:List Value},(∀s∈xs.flatMap eA,s∈ks)->aC (num ns) G xs vs->aC (num ns) G' (xs.map (F sh)) vs
 |[],vs,_,h=>by simpa[aC]using h
 |x::xs,vs,a,h=>by
  simp only[aC]at h;obtain⟨v,r,e,e1,e2⟩:=h;simp only[zav,zaz]at a;simp only[zal,aC];exact⟨v,r,e,hF (fun s hs=>a s (.inl hs)) e1,pH hF (fun s hs=>a s (.inr hs)) e2⟩
def GW{G':Gh}{sh:Sh}{ks:List Nat}{aW b:Bool}(a:G.le G')(hf:lf ns G G' sh ks)(hl:∀(s:Nat)(cells:List AV),sh[s]?=some (some cells)->cells.all aY=true)
   {xs:List AV} {vs:List Value} (c:∀s∈xs.flatMap eA,s∈ks) (h:aC (num ns) G xs vs):aC (num ns) G' (cE aW b sh xs) vs:=by
 unfold cE;split
 .split
  .exact aC.mono a h
  .exact pH (ON a hf hl) c h
 .exact pH (pG a hf hl) c h
def GX{xs:List AV}{vs:List Value}(h:aC (num ns) G xs vs):dJ (num ns) G xs (if h:vs.toArray.size=1 then vs.toArray[0]else .tuple vs.toArray):=by
 unfold dJ;split
 .rename_i r;simp only[aC]at h;obtain⟨v,a,e,e1,e2⟩:=h;subst e2;subst e;simpa using e1
 .rename_i hn;have hl:=h.length;rw[dif_neg]
  .exact⟨vs,rfl,h⟩
  .intro e;simp at e;rw[e]at hl;cases xs with
   |nil=>simp at hl
   |cons x xs=>
    cases xs with
    |nil=>exact hn x rfl
    |cons _ _=>simp at hl
end
mutual
theorem vO{ρ:bX}{G G':Gh}{n:Nat}(hK:G.K.le G'.K)(hs:∀s b,s<n->G.sm s=some b->G'.sm s=some b):∀{x:AV}{v:Value},ca x=true->aJ n x=true->aD ρ G x v->aD ρ G' x v
 | .pv p,_,_,_,h=>by simp only[aD]at h⊢;exact h.mono hK
 | .aV s o,_,_,hr,h=>by simp[aJ]at hr;simp only[aD]at h⊢;obtain⟨b,e,r⟩:=h;exact⟨b,hs _ _ hr e,r⟩
 | .aP s _ n _,_,_,hr,h=>by simp[aJ]at hr;simp only[aD]at h⊢;obtain⟨b,c,e,r⟩:=h;exact⟨b,c,hs _ _ hr e,r⟩
 | .ia,_,_,_,h=>by simpa only[aD]using h
 | .jL s,_,_,hr,h=>by simp[aJ]at hr;simp only[aD]at h⊢;obtain⟨b,e,r⟩:=h;exact⟨b,hs _ _ hr e,r⟩
 | .ri ..,_,hp,_,_=>by simp[ca]at hp
 | .fH _,_,_,_,h=>by simp only[aD]at h
 | .fn g cap,_,hp,hr,h=>by
  simp only[ca]at hp;simp only[aJ]at hr;simp only[aD]at h⊢;obtain⟨f,vs,e1,e2,r⟩:=h;exact⟨f,vs,e1,e2,rS hK hs hp hr r⟩
 | .un,_,hp,_,_=>by simp[ca]at hp
 | .dr _,_,_,_,h=>by simp only[aD]at h⊢;obtain⟨b,l,e,r⟩:=h;exact⟨b,l,e,r.mono hK⟩
 | .own _ _,_,hp,_,_=>by simp[ca]at hp
 | .agg _,_,hp,hr,h=>by
  simp only[ca]at hp;simp only[aJ]at hr;simp only[aD]at h⊢;obtain⟨vs,e,r⟩:=h;exact⟨vs,e,rS hK hs hp hr r⟩
 | .rf _,_,hp,_,_=>by simp[ca]at hp
 | .au _ _,_,hp,_,_=>by simp[ca]at hp
 | .h_ _,_,hp,_,_=>by simp[ca]at hp
theorem rS{ρ:bX}{G G':Gh}{n:Nat}(hK:G.K.le G'.K)(hs:∀s b,s<n->G.sm s=some b->G'.sm s=some b):∀{xs:List AV}{vs:List Value},ca.jq xs=true->aJ.cI n xs=true->aC ρ G xs vs->aC ρ G' xs vs
 |[],_,_,_,h=>by simpa only[aC]using h
 |x::xs,_,hp,hr,h=>by
  simp only[ca.jq,zah]at hp;simp only[aJ.cI,zah]at hr;simp only[aC]at h⊢;obtain⟨v,r,e,e1,e2⟩:=h;exact⟨v,r,e,vO hK hs hp.1 hr.1 e1,rS hK hs hp.2 hr.2 e2⟩
end
section
variable {P:Program} {ns:Names} {G:Gh} {w:World}
def vP{ρ:bX}{G':Gh}{n:Nat}(hK:G.K.le G'.K)(hs:∀s b,s<n->G.sm s=some b->G'.sm s=some b)(ht:∀τ t,G.tk τ=some t->G'.tk τ=some t):∀{xs:List AV}{vs:List Value},fM xs=true->aJ.cI n xs=true->aC ρ G xs vs->aC ρ G' xs vs
 |[],_,_,_,h=>by simpa only[aC]using h
 |x::xs,_,hp,hr,h=>by
  simp only[fM,zah]at hp;simp only[aJ.cI,zah]at hr;simp only[aC]at h⊢;obtain⟨v,r,e,e1,e2⟩:=h;refine⟨v,r,e,?_,vP hK hs ht hp.2 hr.2 e2⟩;cases x with
  |own l τ=>
   simp only[aD]at e1⊢;obtain⟨t,f,d,c,a⟩:=e1;exact⟨t,ht _ _ f,d,c.mono hK,fun hl=>⟨(a hl).1,Q5 (a hl).2 fun⟨b,o,e,r⟩=>⟨b,o,e,Row.mono hK _ _ _ _ r⟩⟩⟩
  |_=>exact vO hK hs (show ca _=true from hp.1) hr.1 e1
def L0{ρ:bX}{G':Gh}{n:Nat}(hK:G.K.le G'.K)(hs:∀s b,s<n->G.sm s=some b->G'.sm s=some b)(ht:∀τ t,G.tk τ=some t->G'.tk τ=some t){x:AV}{v:Value}(hp:bU x=true)(hr:aJ n x=true)(h:aD ρ G x v):aD ρ G' x v:=by
 cases x with
 |own l τ=>
  simp only[aD]at h⊢;obtain⟨t,e1,e2,e3,e4⟩:=h;exact⟨t,ht _ _ e1,e2,e3.mono hK,fun hl=>⟨(e4 hl).1,Q5 (e4 hl).2 fun⟨b,o,e,r⟩=>⟨b,o,e,Row.mono hK _ _ _ _ r⟩⟩⟩
 |agg cs=>
  simp only[aJ]at hr;simp only[aD]at h⊢;obtain⟨vs,e,r⟩:=h;exact⟨vs,e,vP hK hs ht (by simpa[bU]using hp) hr r⟩
 |_=>exact vO hK hs (show ca _=true from hp) hr h
def pI{ρ:bX}{G':Gh}{n:Nat}(hK:G.K.le G'.K)(hs:∀s b,s<n->G.sm s=some b->G'.sm s=some b)(ht:∀τ t,G.tk τ=some t->G'.tk τ=some t):∀{xs:List AV}{vs:List Value},xs.all bU=true->xs.all (aJ n)=true->aC ρ G xs vs->aC ρ G' xs vs
 |[],_,_,_,h=>by simpa only[aC]using h
 |x::xs,_,hp,hr,h=>by
  simp only[zaQ,zah]at hp hr;simp only[aC]at h⊢;obtain⟨v,r,e,e1,e2⟩:=h;exact⟨v,r,e,L0 hK hs ht hp.1 hr.1 e1,pI hK hs ht hp.2 hr.2 e2⟩
def Gh.bare(G:Gh):Gh:={G with pm:=fun _=>none,role:=fun b=>match G.role b with| .mW _=>.fe|r=>r}
def Inv.bare{mem:List (Nat×List AV)}{sh:Sh}{ts:aF}(hi:Inv (num ns) G w mem sh ts):Inv (num ns) G.bare w [] sh ts where
 known:=hi.known
 bm:=fun b o v i=>by
  rcases hi.bm b o v i with h|⟨τ,h⟩
  .exact .inl (by simp[Gh.bare,h])
  .exact .inr ⟨τ,by simp[Gh.bare,h]⟩
 fresh:=fun b f=>by simp[Gh.bare,hi.fresh b f]
 di:=fun d cells h=>by simp[look]at h
 iu:=fun d b h=>by simp[Gh.bare]at h
 dH:=fun s cells hs=>by
  obtain⟨b,e1,e2,e3,e4⟩:=hi.dH s cells hs;obtain⟨hr,o,j,a⟩:=e2;exact⟨b,e1,⟨by simp[Gh.bare,hr],o,j,a.to (fun _ _ _ h=>h) (fun _ e=>e) (fun _ r=>jX (G:=G) (G':=G.bare) (bt.le_refl _) (fun _ _ h=>h) (fun _ _ h=>h) (jA e3) r)⟩,e3,e4⟩
 fu:=hi.fu
 dV:=fun τ n h=>by
  obtain⟨t,e1,e2,e3⟩:=hi.dV τ n h;refine⟨t,e1,e2,e3.cap,e3.zero,fun g=>?_⟩;obtain⟨b,o,c,ty,f1,f2,f3,l,k⟩:=e3.spare g;exact⟨b,o,c,ty,f1,by simp[Gh.bare,f2],f3,l,k⟩
 gF:=hi.gF
 mP:=fun b c f=>⟨by simp[Gh.bare,(hi.mP b c f).1],(hi.mP b c f).2⟩
def Gh.oV(G:Gh)(n:Nat):Gh:={G with sm:=fun s=>if s<n then G.sm s else none}
def Inv.oV{sh:Sh}{ts:aF}(hi:Inv (num ns) G w [] sh ts)(n:Nat):Inv (num ns) (G.oV n) w [] (sh.take n) ts where
 known:=hi.known
 bm:=hi.bm
 fresh:=hi.fresh
 di:=fun d cells h=>by simp[look]at h
 iu:=hi.iu
 dH:=fun s cells hs=>by
  rw[zb7]at hs;split at hs
  .rename_i c;obtain⟨b,e1,e2,e3,e4⟩:=hi.dH s cells hs;obtain⟨hr,o,g,a⟩:=e2;exact⟨b,by simp[Gh.oV,c,e1],⟨hr,o,g,a.to (fun _ _ _ h=>h) (fun _ e=>e) (fun _ r=>pI (G:=G) (G':=G.oV n) (n:=s+1) (bt.le_refl G.K) (fun s' b' f h=>by simp only[Gh.oV];rw[zan (by omega)];exact h) (fun _ _ h=>h) (jA e3) e4 r)⟩,e3,e4⟩
  .simp at hs
 fu:=fun s b h=>by
  simp only[Gh.oV]at h;split at h
  .have:=hi.fu s b h;simp;omega
  .simp at h
 dV:=fun τ n h=>by
  obtain⟨t,e1,e2,e3⟩:=hi.dV τ n h;exact⟨t,e1,e2,e3.cap,e3.zero,e3.spare⟩
 gF:=hi.gF
 mP:=hi.mP
def Inv.shut{mem:List (Nat×List AV)}{sh:Sh}{aa:aF}{D:Nat}{x:Option (List Deferred)}(hi:Inv (num ns) G w mem sh aa)(e:w.heap[D]?=some (.deferred x)):
   Inv (num ns) G (w.putObj D (.deferred none)) mem sh aa:=by
 have a:∀{b:Nat}{c:Array Value}{t:TypeId},w.heap[b]?=some (.cells c t (0,0))->(w.putObj D (.deferred none)).heap[b]?=some (.cells c t (0,0)):=by
  intro b c t h;rw[zbJ]
  .exact h
  .rintro rfl;rw[e]at h;cases h
 have f:(w.putObj D (.deferred none)).heap.size=w.heap.size:=by simp[World.putObj]
 refine {hi with known:=?_,fresh:=?_,di:=?_,dH:=?_,dV:=?_,mP:=?_}
 .intro b o v d;have h:=hi.known b o v d;rw[<-h];have:b≠D:=by rintro rfl;simp[World.cell?,e]at h
  simp only[World.cell?,zbJ this]
 .intro b i;exact hi.fresh b (by omega)
 .intro k cs d;obtain⟨b,e1,⟨e2,c,t,e3,e4⟩,e5⟩:=hi.di k cs d;exact⟨b,e1,⟨e2,c,t,a e3,e4⟩,e5⟩
 .intro k cs d;obtain⟨b,e1,⟨e2,o,e3,e4⟩,e5⟩:=hi.dH k cs d;refine⟨b,e1,⟨e2,o,?_,e4⟩,e5⟩;rw[zbJ]
  .exact e3
  .rintro rfl
   rw[e]at e3;cases e3;rcases e4 with⟨_,_,_,_,h,_⟩|⟨_,_,_,h,_⟩<;>cases h
 .intro τ n hn;obtain⟨t,e1,e2,e3⟩:=hi.dV τ n hn;refine⟨t,e1,e2,e3.cap,e3.zero,fun g=>?_⟩;obtain⟨b,o,c,ty,f1,f2,f3,l,j⟩:=e3.spare g;exact⟨b,o,c,ty,f1,f2,a f3,l,j⟩
 .intro b c i;obtain⟨h1,t',z,h2⟩:=hi.mP b c i;refine⟨h1,t',z,?_⟩;rw[zbJ]
  .exact h2
  .rintro rfl;rw[e]at h2;cases h2
def bY.shut{G':Gh}{w':World}{D:Nat}(a:bY G w G' w')(d:w.heap.size<=D):bY G w G' (w'.putObj D (.deferred none)):=
 { a with
  size:=by simpa[World.putObj]using a.size
  os:=by simpa[World.putObj]using a.os
  tape:=by simpa[World.putObj]using a.tape
  output:=by simpa[World.putObj]using a.output
  fe:=fun b c hr=>by
   obtain⟨h1,h2⟩:=a.fe b c hr;exact⟨h1,by rw[zbJ (by omega)];exact h2⟩}
def tq{fn:Func}{tmps:Array Value}{R:Ending->World->Prop}{mem:List (Nat×List AV)}{sh:Sh}{aa:aF}{G':Gh}:∀(Ds:List Nat)(w':World),Inv (num ns) G' w' mem sh aa->bY G w G' w'->Ds.Nodup->
   (∀D∈Ds,w.heap.size<=D/\w'.heap[D]?=some (.deferred (some [])))->
   (∀a,Inv (num ns) G' a mem sh aa->bY G w G' a->∃v,(results fn tmps).run P a=.ok v a/\R (.returned v) a)->
   LeavesInM Fence.wide 0 P fn tmps R (Ds.map (fun D=>{target:=.collected D,args:=#[]})) .returning w'
 |[],w',hi,b,_,_,h=>h w' hi b
 |D::Ds,w',hi,b,hn,d,h=>by
  obtain⟨h1,h2⟩:=d D (by simp);refine⟨by simp,.inl ⟨D,_,rfl,run_takeDeferred h2,?_⟩⟩;simp only[zc8]at hn;refine tq Ds _ (hi.shut h2) (b.shut h1) hn.2 (fun E c=>?_) h;obtain⟨g1,g2⟩:=d E (by simp[c]);refine⟨g1,?_⟩;rw[zbJ]
  .exact g2
  .rintro rfl;exact hn.1 c
def vQ(hm:P.follows .mixedOrders=true)(hB:fy P ns)(V:ue P ns){orc:eY}(L:iD P ns orc){A:lG}{k f:Nat}{aW:Bool}{fn:Func}{af:aA}(hf:P.funcs[f]?=some fn)(hc:qc P ns A fn=some af)
   {args rs:List AV} {vs:List Value} {sh sh':Sh} {ts ts':aF} (hi:Inv (num ns) G w [] sh ts) (hr:aC (num ns) G args vs) (hN:args.length<=af.ntmps) (h:ct orc k aW af args sh ts=some (rs,sh',ts')):
   (Calls P f vs.toArray w fun e w'=>∃v G',e=.returned v/\dJ (num ns) G' rs v/\Inv (num ns) G' w' [] sh' ts'/\bY G w G' w')/\rs.all bU=true:=by
 unfold qc at hc;split at hc
 .rename_i c a1 qz jk;simp only[zab,zac]at hc;obtain⟨_,ac,U,rfl⟩:=hc;unfold ct at h;split at h
  .rename_i e st T;simp only[zab]at h;obtain⟨he,h⟩:=h;split at h
   .rename_i xs O;simp only[zab]at h;obtain⟨j,h⟩:=h;let g:=A.ks;let i:Sh:=fD aW g st.sh xs;let TW:Sh:=if(cE aW g st.sh xs).all (aJ sh.length)=true then i.take sh.length else i;have h:some ((de st.aa (cE aW g st.sh xs) TW).1,(de st.aa (cE aW g st.sh xs) TW).2.1,(de st.aa (cE aW g st.sh xs) TW).2.2.2)=some (rs,sh',ts'):=h;simp only[zag,zaD]at h;obtain⟨VY,Q,tP⟩:=h;have x:rs.all bU=true:=by rw[<-VY];exact i_ j
    refine⟨?_,x⟩;refine zc6 (n:=0).1 (callsIn_of_wp_marks hf qz trivial ?_ rfl);have R:iv (num ns) w.heap.size fn.ntmps G {env:=cf 0 args,mem:=[],sh,aa:=ts} {tmps:=vs.toArray++Array.replicate (fn.ntmps-vs.toArray.size) undef,defers:=[]} w:=⟨OL hr hN,hi,zas _,[],rfl,by simp,by simp⟩;refine jC (ro:=none) hm hB L V U (.inl rfl) T R fun G' M w1 r B=>?_
    have key:LeavesInM Fence.wide 0 P fn M.tmps (fun e w'=>∃v G',e=.returned v/\dJ (num ns) G' rs v/\Inv (num ns) G' w' [] sh' ts'/\bY G w G' w') M.defers .returning w1:=by
     obtain⟨m0,Ds,Z,m2,m3⟩:=r.marks;rw[Z];refine tq Ds w1 r.inv B m2 (fun D X=>⟨(m3 D X).1,(m3 D X).2.2.2⟩) ?_;intro w' S z;have u:iv (num ns) w.heap.size fn.ntmps G' st {tmps:=M.tmps,defers:=[]} w':=⟨⟨r.env.size,r.env.env⟩,S,z.size,[],rfl,by simp,by simp⟩;obtain⟨C,Y,W⟩:=tj (P:=P) u (F:=fun| .tmp t=>pure (M.tmps.getD t undef)| .cell ad t=>do loadVar t (<-asAddr (M.tmps.getD ad undef))) (fun _=>rfl) (fun _ _=>rfl) jk O;refine⟨(if h:C.toArray.size=1 then C.toArray[0]else .tuple C.toArray),?_,?_⟩
     .unfold results;rw[zdh];simp only[zay,Sem.run_map]
      erw [Y]
      rfl
     .obtain⟨G1,k1,k2,k3,J⟩:∃G1,Inv (num ns) G1 w' st.mem i st.aa/\G'.le G1/\bY G' w' G1 w'/\aC (num ns) G1 (cE aW g st.sh xs) C:=by
       by_cases p:(aW && g)=true
       .refine⟨G',?_,Gh.le_refl _,bY.refl _ _,?_⟩
        .have:i=st.sh:=by simp only[i,fD,p,zbc]
         rw[this];exact u.inv
        .have:cE aW g st.sh xs=xs:=by
          simp only[zah]at p;simp only[cE,p.1,p.2,zbc]
         rw[this];exact W
       .obtain⟨G1,k1,k2,k3,k4,k5⟩:=Inv.kill (xs.flatMap eA) u.inv;refine⟨G1,?_,k2,k3,GW (aW:=aW) k2 k4 u.inv.uU (fun s hs=>hs) W⟩
        have:i=cQ st.sh xs:=by
         simp only[i,fD];rw[zai p]
        rw[this];exact k1
      have q:=jX (G:=G1) (G':=G1.bare) (bt.le_refl _) (fun _ _ h=>h) (fun _ _ h=>h) j J;have E:=k1.bare;have d:=z.trans k3
      obtain⟨G2,i2,r2,e2⟩:∃G2,Inv (num ns) G2 w' [] TW st.aa/\aC (num ns) G2 (cE aW g st.sh xs) C/\bY G w G2 w':=by
       have a:bY G w G1.bare w':={
         size:=d.size,os:=d.os,tape:=d.tape,output:=d.output,K:=d.K,sm:=d.sm,
         fe:=fun b N hr=>⟨by simp[Gh.bare,(d.fe b N hr).1],(d.fe b N hr).2⟩
         jt:=fun b τ N hr=>by
          rcases d.jt b τ N hr with h|⟨τ',h⟩
          .exact .inl (by simp[Gh.bare,h])
          .exact .inr ⟨τ',by simp[Gh.bare,h]⟩
         iG:=d.iG}
       by_cases o:(cE aW g st.sh xs).all (aJ sh.length)=true
       .have l:TW=i.take sh.length:=zan o;rw[l];refine⟨G1.bare.oV sh.length,E.oV sh.length,pI (G:=G1.bare) (G':=G1.bare.oV sh.length) (n:=sh.length) (bt.le_refl _) (fun s b hs h=>by simp only[Gh.oV];rw[zan hs];exact h) (fun _ _ h=>h) j o q,?_⟩
        exact { size:=a.size,os:=a.os,tape:=a.tape,output:=a.output,K:=a.K,
                sm:=fun s b I=>by
                 have:=hi.fu s b I;show(if s<sh.length then G1.sm s else none)=some b;rw[zan this];exact a.sm s b I
                fe:=a.fe,jt:=a.jt,iG:=a.iG}
       .have l:TW=i:=zai o;rw[l];exact⟨G1.bare,E,q,a⟩
      obtain⟨m,tks,a0,H,y⟩:=i2.M_ j r2;rw[VY]at y;rw[Q,tP]at H;exact⟨_,G2.to m tks,rfl,GX y,H,e2.to m tks⟩
    cases e with
    |normal=>exact key
    |ret=>exact key
    |exit id=>simp at he
   .simp at h
  .simp at h
 .simp at hc
def xg{orc:eY}{k:Nat}{aW:Bool}{af:aA}{args rs:List AV}{sh sh':Sh}{ts ts':aF}(h:ct orc k aW af args sh ts=some (rs,sh',ts')):rs.all bU=true:=by
 unfold ct at h;split at h
 .split at h
  .split at h
   .simp only[zab]at h;obtain⟨hp,h⟩:=h;have e:=zbm Prod.fst (Option.some.inj h);dsimp only at e;rw[<-e];exact i_ hp
   .simp at h
  .simp at h
 .simp at h
structure Impl(P:Program)(ns:Names)(AP:Nat->Option aA):Prop where
 mixed:P.follows .mixedOrders=true
 funcs:∀f g,ns.of f=some g->(∃fn A af,P.funcs[f]?=some fn/\qc P ns A fn=some af/\AP g=some af)\/
   ((∃fn b,P.funcs[f]?=some fn∧fn.body=some b∧fn.name ≠ "runtime.NumGoroutine") ∧
     (AP g=none\/∃af pf,AP g=some af/\af.p8=some pf/\af.body=.exit 0/\∀orc,iD P ns orc->∀dN rs,pf.f orc.p dN=some rs->xy P ns f dN rs))
 M4:ue P ns
 VZ:∀g sz bytes f,look ns.cl g=some (sz,bytes)->ns.of f=some g->Nonempty (ja P ns f sz bytes)
def Impl.z5{AP:Nat->Option aA}(h:Impl P ns AP):fy P ns:=by
 intro f g a;rcases h.funcs f g a with⟨fn,A,af,h1,h2,_⟩|⟨⟨fn,b,h1,h2,h3⟩,_⟩
 .unfold qc at h2;split at h2
  .rename_i b rs c _;simp only[zab]at h2;obtain⟨⟨_,hn⟩,_⟩:=h2;exact⟨fn,b,h1,c,by simpa using hn⟩
  .simp at h2
 .exact⟨fn,b,h1,h2,h3⟩
def GY{A:lG}{fn:Func}{af:aA}(h:qc P ns A fn=some af):af.p8=none:=by
 unfold qc at h;split at h
 .simp only[zab,zac]at h;obtain⟨_,_,_,rfl⟩:=h;rfl
 .simp at h
def vR:∀{rs:List AV}{ps:List PV},gC rs=some ps->rs=ps.map .pv
 |[],ps,h=>by simp[gC]at h;subst h;rfl
 |x::rs,ps,h=>by
  cases x with
  |pv p=>
   simp only[gC,zac]at h;obtain⟨a,h1,rfl⟩:=h;simp[vR h1]
  |_=>simp[gC]at h
def tu:∀{ps:List PV}{vs:List Value},aC (num ns) G (ps.map .pv) vs->kG G.K ps vs
 |[],vs,h=>by simp only[zaJ,aC]at h;exact h
 |p::ps,vs,h=>by
  simp only[zal,aC]at h;obtain⟨v,r,e,e1,e2⟩:=h;simp only[aD]at e1;exact⟨v,r,e,e1,tu e2⟩
def L1{ps:List PV}{v:Value}(h:dJ (num ns) G (ps.map .pv) v):iJ G.K ps v:=by
 unfold iJ;split
 .rename_i p;simp only[zal,zaJ,dJ,aD]at h;exact h
 .rename_i hn;unfold dJ at h;split at h
  .rename_i r e;cases ps with
   |nil=>simp at e
   |cons q a=>
    cases a with
    |nil=>exact absurd rfl (hn q)
    |cons _ _=>simp at e
  .obtain⟨vs,e,h⟩:=h;exact⟨vs,e,tu h⟩
def x4{AP:Nat->Option aA}(i:Impl P ns AP)(k:Nat):∀n,iD P ns (run AP k n)
 |0=>⟨fun g f dN rs _ h=>by simp[run]at h,fun g f args ts rs sh sh' ts' _ _ h=>by simp[run]at h,fun g sz y f h1 h2=>(i.VZ g sz y f h1 h2).elim CR⟩
 |n+1=>by
  have p:=x4 i k n;refine⟨fun g f dN rs x h=>?_,fun g f args ts rs sh sh' ts' x hp h=>?_,p.c⟩
  .rcases i.funcs f g x with⟨fn,A,af,h1,h2,h3⟩|⟨_,h3|⟨af,pf,h3,h4,_,h5⟩⟩
   .simp only[run,h3,GY h2,zab]at h;obtain⟨⟨_,hN⟩,h⟩:=h;split at h
    .rename_i xs z j;obtain⟨sh',ts'⟩:=z;have q:=vR h;subst q;intro K w vs l hK hr;let m:Gh:={K,role:=fun _=>.fe,pm:=fun _=>none,sm:=fun _=>none,tk:=fun _=>none}
     have hi:Inv (num ns) m w [] [] []:={
       known:=hK,bm:=fun _ _ _ _=>.inl rfl,fresh:=fun _ _=>rfl,di:=fun d c h=>by simp[look]at h,iu:=fun d b h=>by simp[m]at h,
       dH:=fun s c h=>by simp at h,fu:=fun s b h=>by simp[m]at h,dV:=fun τ n h=>by simp at h,gF:=fun τ t h=>by simp[m]at h,mP:=fun b c j=>⟨rfl,l b c j⟩}
     have hC:=(vQ i.mixed i.z5 i.M4 p h1 h2 hi (iQ (ρ:=num ns) (G:=m) hr) (by simpa using hN) j).1;refine hC.mono ?_
     rintro e w' ⟨v,G',rfl,jk,r,a⟩
     refine⟨v,G'.K,rfl,L1 jk,a.K,fun b o u j B=>a.iG b o u j rfl B,r.known,⟨a.os,a.tape,a.output,a.size,fun b j=>(a.fe b j rfl).2⟩⟩
    .simp at h
   .simp only[run,h3]at h;cases h
   .simp only[run,h3,h4]at h;exact h5 _ p _ _ h
  .rcases i.funcs f g x with⟨fn,A,af,h1,h2,h3⟩|⟨_,h3|⟨af,pf,h3,_,h4,_⟩⟩
   .simp only[run,h3,zab]at h;obtain⟨hN,h⟩:=h;exact⟨fun G w vs hi hr=>(vQ i.mixed i.z5 i.M4 p h1 h2 hi hr hN h).1,xg h⟩
   .simp only[run,h3]at h;cases h
   .simp only[run,h3,zab]at h;obtain⟨_,h⟩:=h;unfold ct at h;rw[h4]at h;simp[c_]at h
end
end Go.Ab
namespace Go.Ab
def vS:Code->List (Nat×Array Oper)
 | .region id ops _=>[(id,ops)]
 | .seq a b| .cond _ a b| .rangeFunc _ _ a b=>vS a++vS b
 | .block _ c| .loop c| .scope c=>vS c
 |_=>[]
def nB:Code->List Nat
 | .seq a b| .cond _ a b| .rangeFunc _ _ a b=>nB a++nB b
 | .block i c=>i::nB c
 | .loop c| .scope c=>nB c
 |_=>[]
def gG(fn:Func):Code:=match fn.body with|some c=>c|none=>.skip
def nC(fn:Func)(i:Nat):Array Oper:=match(vS (gG fn))[i]? with|some (_,o)=>o|none=>#[]
def dB(fn:Func)(i:Nat):Nat:=match(vS (gG fn))[i]? with|some (n,_)=>n|none=>0
def uf(fn:Func)(i:Nat):Nat:=match(nB (gG fn))[i]? with|some n=>n|none=>0
def aT(fn:Func)(i j:Nat):Oper:=match(nC fn i).toList[j]? with|some o=>o|none=>default
def typesOf(o:Oper):Array TypeId:=match o.op with| .call c=>c.argTypes|_=>#[]
def dX(o:Oper):TypeId×TypeId:=match o.op with| .binOp _ t _ _ u=>(t,u)|_=>(0,0)
def OO(P:Program)(t:TypeId):TypeId:=match P.underlying t with|some (.slice e)=>e|_=>0
open Go.ChangeShapes Go.WideShapes Go.ChangeAt Go.RowKit
def KW(w:World):bt:=fun b o=>w.cell? ⟨b,o,none⟩
def Yp(w:World):HW (KW w) w:=fun _ _ _ h=>h
def RW(S:TypeId->PV->Prop):List Field->List PV->Prop
 |[],[]=>True
 |f::fs,p::ps=>S f.type p/\RW S fs ps
 |_,_=>False
def kg(P:Program):Nat->TypeId->PV->Prop
 |0,_,_=>False
 |n+1,t,p=>match P.underlying t with
  |some .bool=>∃b,p=.bool b
  |some (.int k)=>∃i,p=.int k i/\(Lit.int k i).wf=true
  |some .string=>∃s,p=.str s/\s.length<=maxLen
  |some (.slice e)=>∃els,p=.aq els/\els.length<=maxLen/\∀q∈els,kg P n e q
  |some (.struct fs)=>∃ps:List PV,p=.agg (ps.flatMap aZ)/\RW (kg P n) fs.toList ps
  |_=>False
def OP(P:Program):Nat->List Field->Nat->Bool
 |o,[],a=>o == a
 |o,f::fs,a=>f.offset == o && OP P (o+P.cellsOf f.type) fs a
def Ib(P:Program)(T:List TypeId):Bool:=T.all fun t=>match P.underlying t with
 |some .bool|some (.int _)|some .string=>true
 |some (.slice e)=>T.contains e && decide (0<P.cellsOf e)
 |some (.struct fs)=>fs.toList.all (fun f=>T.contains f.type) && OP P 0 fs.toList (P.cellsOf t)
 |_=>false
section
variable {H:Type} {enc:TypeId×Value->H} {P:Program} {w:World} {base:Nat} {sp:Nat->Bool} {held:Bool}
def CV{α b:Type}{f:α->Option b}:∀{l:List α}{r:List b},l.mapM f=some r->∀{i:Nat}{x:α},l[i]?=some x->∃y,r[i]?=some y/\f x=some y
 |[],_,_,i,x,hx=>by simp at hx
 |a::l,r,h,i,x,hx=>by
  simp only[zcO,Option.bind_eq_bind,zaF,Option.pure_def,zag]at h;obtain⟨y,h1,c,h2,rfl⟩:=h;cases i with
  |zero=>simp at hx;subst hx;exact⟨y,by simp,h1⟩
  |succ i=>simpa using CV h2 (i:=i) (by simpa using hx)
def CW{α b:Type}{f:α->Option b}:∀{l:List α}{r:List b},l.mapM f=some r->r.length=l.length
 |[],r,h=>by simp at h;subst h;rfl
 |a::l,r,h=>by
  simp only[zcO,Option.bind_eq_bind,zaF,Option.pure_def,zag]at h;obtain⟨y,h1,c,h2,rfl⟩:=h;simp[CW h2]
theorem L2{a:Addr}{n:Nat}{cs:List Value}(hn:0<n)(h:w.cells? base a n=some cs):cs.length=n/\a.spot=none/\At (KW w) a.block a.off cs:=by
 unfold World.cells? at h;split at h
 .have hl:cs.length=n:=by simpa using CW h
  have key:∀i,i<n->∃y,cs[i]?=some y/\w.cell? (a.add i)=some y:=by
   intro i hi;exact CV h (i:=i) (x:=i) (by simp[hi])
  obtain⟨f,_,h0⟩:=key 0 hn
  have b:a.spot=none:=by
   cases c:a.spot with
   |none=>rfl
   |some s=>
    simp only[Addr.add,zbc,World.cell?]at h0;split at h0
    .simp[c]at h0
    .cases h0
  refine⟨hl,b,?_⟩;intro j v hj;have d:j<n:=by have:=(zaa.1 hj).1;omega
  have e:a.add j=⟨a.block,a.off+j,none⟩:=by
   unfold Addr.add;split
   .rename_i h0;subst h0;cases a;simp_all
   .rfl
  obtain⟨y,h1,h2⟩:=key j d;rw[e]at h2;rw[hj]at h1;cases h1;exact h2
 .cases h
def Ic{K:bt}{S:PV->Prop}{b sz:Nat}:∀{n:Nat}{o:Nat},(∀i,i<n->∃vs q,vs.length=sz/\At K b (o+i*sz) vs/\S q/\R K true q vs)->∃els:List PV,els.length=n/\(∀q∈els,S q)/\Row K b o sz els
 |0,o,_=>⟨[],rfl,by simp,by simp only[Row]⟩
 |n+1,o,h=>by
  obtain⟨vs,q,h1,h2,h3,h4⟩:=h 0 (by omega)
  obtain⟨els,e1,e2,e3⟩:=Ic (K:=K) (S:=S) (b:=b) (sz:=sz) (n:=n) (o:=o+sz) fun i hi=>by
   obtain⟨vs,q,h1,h2,h3,h4⟩:=h (i+1) (by omega);refine⟨vs,q,h1,?_,h3,h4⟩
   rwa [show o+sz+i*sz=o+(i+1)*sz from by rw[zaI];omega]
  refine⟨q::els,by simp[e1],?_,?_⟩
  .intro x hx;simp only[zau]at hx;rcases hx with rfl|hx
   .exact h3
   .exact e2 x hx
  .simp only[Row];exact⟨⟨vs,h1,by simpa using h2,h4⟩,e3⟩
def x5{K:bt}{S:TypeId->PV->Prop}{cs:List Value}:∀{fs:List Field}{o a:Nat},OP P o fs a=true->cs.length=a->
   (∀f∈fs,∃q,S f.type q/\R K true q ((cs.drop f.offset).take (P.cellsOf f.type)))->∃ps:List PV,RW S fs ps/\dO K (ps.flatMap aZ) (cs.drop o)
 |[],o,a,hl,hc,_=>⟨[],by simp[RW],by
  simp[OP]at hl;simp[dO];omega⟩
 |f::fs,o,a,hl,hc,h=>by
  simp only[OP,zah,zcH]at hl;obtain⟨hf,hl⟩:=hl;obtain⟨q,h1,h2⟩:=h f (by simp);obtain⟨ps,e1,e2⟩:=x5 (K:=K) (S:=S) (cs:=cs) hl hc (fun c b=>h c (by simp[b]));refine⟨q::ps,⟨h1,e1⟩,?_⟩;simp only[zav];have:=(R.cells h2).append e2;rw[hf]at this
  rwa [<-zdd,zbS]at this
def vT{T:List TypeId}(hT:Ib P T=true):∀(n:Nat)(t:TypeId)(cs:List Value)(x:DataW H×List MemPlace),t∈T->
   DataW.trod enc P w base sp held n t cs=some x->∃p,kg P n t p/\R (KW w) true p cs
 |0,t,cs,x,_,h=>by simp[DataW.trod]at h
 |n+1,t,cs,x,ht,h=>by
  have hp:=zaq.1 hT t ht;simp only[kg];split at hp
  .rename_i hu;obtain⟨b,rfl,_⟩:=DataW.trod_bool hu h;exact⟨.bool b,by exact⟨b,rfl⟩,by simp[R]⟩
  .rename_i k hu;obtain⟨i,rfl,_,hw⟩:=DataW.trod_int hu h;exact⟨.int k i,by exact⟨i,rfl,hw⟩,by simp[R]⟩
  .rename_i hu;obtain⟨s,rfl,_,hl⟩:=DataW.trod_string hu h;exact⟨.str s.data.toList,by exact⟨_,rfl,by simpa using hl⟩,by simp[R]⟩
  .rename_i e hu;simp only[zah,zcq,za5]at hp;rcases DataW.trod_slice hu h with⟨rfl,_⟩|⟨a,len,cap,elems,rest,m,e0,rfl,_,_,d,v,z,c,_,_⟩
   .exact⟨.aq [],by exact⟨[],rfl,by simp,by simp⟩,by simp only[R];exact⟨none,0,0,rfl,zas _,rfl,.inl trivial⟩⟩
   .have hm:m=n:=(by omega);subst hm;by_cases h0:len=0
    .subst h0;exact⟨.aq [],by exact⟨[],rfl,by simp,by simp⟩,by simp only[R];exact⟨some a,0,cap,rfl,d,rfl,.inl trivial⟩⟩
    .have key:∀i,i<len->∃vs q,vs.length=P.cellsOf e/\(a.add (i*P.cellsOf e)).spot=none/\At (KW w) (a.add (i*P.cellsOf e)).block (a.add (i*P.cellsOf e)).off vs/\kg P m e q/\R (KW w) true q vs:=by
      intro i hi;have g:=c i hi;rw[zbe (by omega)]at g;simp only[zaF]at g;obtain⟨vs,h1,h2⟩:=g;obtain⟨c1,c2,c3⟩:=L2 hp.2 h1;obtain⟨q,l,j⟩:=vT hT m e vs _ hp.1 h2;exact⟨vs,q,c1,c2,c3,l,j⟩
     have r:a.spot=none:=by
      obtain⟨_,_,_,h2,_⟩:=key 0 (by omega);simpa[Addr.add]using h2
     obtain⟨els,e1,e2,e3⟩:=Ic (K:=KW w) (S:=kg P m e) (b:=a.block) (sz:=P.cellsOf e) (n:=len) (o:=a.off) fun i hi=>by
      obtain⟨vs,q,c1,c2,c3,l,j⟩:=key i hi;refine⟨vs,q,c1,?_,l,j⟩
      have:(a.add (i*P.cellsOf e)).block=a.block/\(a.add (i*P.cellsOf e)).off=a.off+i*P.cellsOf e:=by
       unfold Addr.add;split
       .rename_i h0;simp[h0]
       .exact⟨rfl,rfl⟩
      rwa [this.1,this.2]at c3
     refine⟨.aq els,by exact⟨els,rfl,by omega,e2⟩,?_⟩;simp only[R];refine⟨some a,len,cap,rfl,d,e1,.inr ⟨a.block,a.off,P.cellsOf e,?_,e3⟩⟩;cases a;simp_all
  .rename_i fs hu;simp only[zah,zaq,zcq]at hp;obtain⟨xs,m,e0,_,u,y,c⟩:=DataW.trod_struct hu h;have hm:m=n:=by omega
   subst hm
   obtain⟨ps,e1,e2⟩:=x5 (K:=KW w) (S:=kg P m) (cs:=cs) hp.2 u fun f hf=>by
    obtain⟨i,hi,Xz⟩:=List.getElem_of_mem hf;have g:=c i f (by rw[<-Array.getElem?_toList];rw[zbe hi,Xz]);rw[zbe (by simp at hi;omega)]at g;exact vT hT m f.type _ _ (hp.1 f hf) g
   refine⟨.agg (ps.flatMap aZ),by exact⟨ps,rfl,e1⟩,?_⟩;simp only[R];exact⟨trivial,by simpa using e2⟩
  .cases hp
def RX{T:List TypeId}(hT:Ib P T=true){t:TypeId}{v:Value}{d:DataW H}{ps:List MemPlace}{r:Reach}{b0:Nat}(ht:t∈T)(hv:Value.okWide P w r b0 t v)
   (h:DataW.Trod enc P w base sp held t v d ps):∃n p,kg P n t p/\Rel (KW w) p v:=by
 obtain⟨n,hn⟩:=h;obtain⟨p,h1,h2⟩:=vT hT n t _ _ ht hn;refine⟨n,p,h1,?_⟩;have hp:=zaq.1 hT t ht;cases n with
 |zero=>simp[kg]at h1
 |succ n=>
  simp only[kg]at h1;simp only[Value.okWide]at hv;split at hp
  .rename_i hu;rw[hu]at h1 hv;obtain⟨b,rfl⟩:=h1;simp only[Cell.okWide,hu,Cell.ok]at hv;cases v<;>simp_all[Value.cells,R,Rel]
  .rename_i k hu;rw[hu]at h1 hv;obtain⟨b,rfl,_⟩:=h1;simp only[Cell.okWide,hu,Cell.ok]at hv;cases v<;>simp_all[Value.cells,R,Rel]
  .rename_i hu;rw[hu]at h1 hv;obtain⟨b,rfl,_⟩:=h1;simp only[Cell.okWide,hu,Cell.ok]at hv;cases v<;>simp_all[Value.cells,R,Rel]
  .rename_i e hu;rw[hu]at h1 hv;obtain⟨b,rfl,_⟩:=h1;simp only[Cell.okWide,hu,Cell.ok]at hv;cases v with
   |slice a l c=>
    simp only[R]at h2;simp only[Rel,R];simpa[Value.cells]using h2
   |agg cs=>simp at hv
   |_=>simp_all[Value.cells,R]
  .rename_i fs hu;rw[hu]at h1 hv;obtain⟨b,rfl,_⟩:=h1;obtain⟨cs,rfl,_⟩:=hv;simp only[Value.cells,R]at h2;exact⟨cs.toList,by simp,h2.2⟩
  .cases hp
def L3(P:Program):List TypeId->List PV->Prop
 |[],[]=>True
 |t::ts,p::ps=>(∃n,kg P n t p)/\L3 P ts ps
 |_,_=>False
def CX{T:List TypeId}(hT:Ib P T=true){r:Reach}{b0:Nat}:∀{ts:List TypeId}{vs:List Value}{ds:List (DataW H)}{ps:List MemPlace},(∀t∈ts,t∈T)->
   (∀(j:Nat) t v,ts[j]?=some t->vs[j]?=some v->Value.okWide P w r b0 t v)->DataW.TrodAll enc P w base sp held ts vs ds ps->∃dN,L3 P ts dN/\kG (KW w) dN vs/\ds.length=ts.length
 |[],vs,ds,ps,_,_,h=>by
  obtain⟨rfl,rfl,rfl⟩:=trodAll_nil h;exact⟨[],by simp[L3],by simp[kG],rfl⟩
 |t::ts,vs,ds,ps,tP,hv,h=>by
  obtain⟨v,a,d,c,p,q,rfl,rfl,rfl,h1,h2⟩:=trodAll_cons h;obtain⟨n,pv,f,e⟩:=RX hT (tP t (by simp)) (hv 0 t v (by simp) (by simp)) h1;obtain⟨dN,b1,b2,b3⟩:=CX hT (fun t ht=>tP t (by simp[ht])) (fun j t v hj b=>hv (j+1) t v (by simpa using hj) (by simpa using b)) h2;exact⟨pv::dN,⟨⟨n,f⟩,b1⟩,⟨v,a,rfl,e,b2⟩,by simp[b3]⟩
def vU{W c:World}(hl:laidOutB P=true)(b:Below W.heap.size W c):∀{ts:List TypeId}{vs:List Value}{ds:List (DataW H)}{ps:List MemPlace},(∀t∈ts,P.readableRec t=true/\t<P.types.size)->
   DataW.TrodAll enc P W 0 (fun _=>true) true ts vs ds ps->(∀x∈ps,x.block<W.heap.size)->∀{sp:Nat->Bool},(∀x∈ps,sp x.block=true)->DataW.TrodAll enc P c 0 sp true ts vs ds ps
 |[],vs,ds,ps,_,h,_,_,_=>by
  obtain⟨rfl,rfl,rfl⟩:=trodAll_nil h;exact trodAll_mk0
 |t::ts,vs,ds,ps,tP,h,a,sp,hs=>by
  obtain⟨v,e,d,f,p,q,rfl,rfl,rfl,h1,h2⟩:=trodAll_cons h;refine trodAll_cons_mk ?_ (vU hl b (fun t ht=>tP t (by simp[ht])) h2 (fun x hx=>a x (by simp[hx])) (fun x hx=>hs x (by simp[hx])));exact WideElems.Trod_stays hl (tP t (by simp)).1 (tP t (by simp)).2 h1 (fun x hx=>b.same (a x (by simp[hx]))) (fun x hx=>hs x (by simp[hx]))
end
def L4{H:Type}{enc:TypeId×Value->H}{P:Program}{f:Func}{s:ChangeSpec}{apart fresh e g:Bool}{W h:World}{args:Array Value}{v:Value}{ds l:List (DataW H)}{a:List MemPlace}
   (m:DataW.Whole enc P f.params.toList s.vars apart W args.toList ds l a)
   (jk:∀(b:Nat)(sp:Nat->Bool)(hd:Bool),DataW.TrodAll enc P h b sp hd f.resultTypes.toList (v.resultList f.resultTypes.size) (s.fn H (ds++l)).results [])
   (d:∀sp:Nat->Bool,(∀p∈a,sp p.block=true)->DataW.TrodAll enc P h 0 sp true f.params.toList args.toList (s.fn H (ds++l)).args a)
   (c:∀sp:Nat->Bool,DataW.TrodVars enc P h sp s.vars (s.fn H (ds++l)).vars []) (o:Below W.heap.size W h)
   (n:∀(j:Nat)(t:TypeId)(r:Value),f.resultTypes[j]?=some t->(v.resultList f.resultTypes.size)[j]?=some r->Value.okWide P h .any 0 t r):
   s.post enc P f apart fresh e g W args v h:=by
 have k:∀p∈a,p.block<W.heap.size:=fun p hp=>by simpa using m.lt p hp
 have i:∀p∈a,(fun b=>decide (b<W.heap.size)) p.block=true:=fun p hp=>by simpa using k p hp
 refine⟨ds,l,a,[],a,[],m,jk _ _ _,d _ i,c _,World.keptBut_mono (fun p hp=>⟨hp,.inr (.inl hp)⟩) (o.frame _),fun _=>⟨n,_,_,([]++a)++[],⟨[]++a,[],trodAll_append (d _ (fun _ _=>rfl)) (jk _ _ _),c _,rfl,?_,?_⟩,?_⟩⟩
 .obtain⟨_,_,_,_,_,hz,_⟩:=m;intro b off hp;simp only[zaE,zax]at hp;rw[o.frozen (k _ hp)];exact hz b off hp
 .obtain⟨_,_,_,_,_,_,hn⟩:=m;intro q;simpa using hn q
 .intro p hp _;simpa using hp
def z6{H:Type}{enc:TypeId×Value->H}{P:Program}{ns:Names}{AP:Nat->Option aA}(E:Impl P ns AP){f g:Nat}{fn:Func}{s:ChangeSpec}{T:List TypeId}{tb:TypeId}
   (C:ns.of f=some g) (b:s.vars=[]) (jk:fn.resultTypes=#[tb]) (XA:P.underlying tb=some .bool) (hl:laidOutB P=true)
   (o:∀t∈fn.params.toList,P.readableRec t=true/\t<P.types.size) (hT:Ib P T=true) (y:∀t∈fn.params.toList,t∈T)
   (hs:∀ds:List (DataW H),ds.length=fn.params.size->s.fn H ds={results:=[.lit (.bool true)],args:=ds})
   (law:∀dN,L3 P fn.params.toList dN->(az AP).p g dN=some [.bool true])
   (W:World) (base:Nat) (args:Array Value) (ds F:List (DataW H)) (d:List MemPlace)
   (k:∀(j:Nat) t v,fn.params[j]?=some t->args[j]?=some v->Value.okWide P W .any base t v)
   (z:DataW.Whole enc P fn.params.toList s.vars false W args.toList ds F d)
   (l:rD ns.mP W:=by exact fun _ c h=>(fun q:(Option.none:Option (Array Value))=Option.some c=>nomatch q) h):
   Calls P f args W fun e W'=>∃v,e=.returned v/\s.post enc P fn false true false false W args v W':=by
 have i:=z;obtain⟨p,q,hA,hV,rfl,D,B⟩:=z;rw[b]at hV;obtain⟨rfl,rfl⟩:=trodVars_none hV;simp only[zax]at i;obtain⟨dN,h1,h2,h3⟩:=CX (r:=.any) (b0:=base) hT y (fun j t v hj w=>k j t v (by simpa using hj) (by simpa using w)) hA;obtain⟨n,hn⟩:=t_ (law dN h1);have hC:=(x4 E n n).p g f dN _ C hn (KW W) W args.toList l (Yp W) h2;rw[Array.toArray_toList]at hC;refine hC.mono ?_
 rintro e W' ⟨v,K',rfl,hr,_,_,_,A⟩
 simp only[iJ,Rel,R]at hr;obtain rfl:v=.bool true:=by simpa using hr
 have u:∀x∈p,x.block<W.heap.size:=fun x hx=>by simpa using i.lt x hx
 have a:=hs ds (by simpa using h3);refine⟨_,rfl,L4 i (fun _ _ _=>?_) (fun sp m=>?_) (fun _=>?_) A (ok_one jk rfl (okWide_bool_mk XA _))⟩
 .simp only[zax];rw[a,jk];exact trodAll_cons_mk (p:=[]) (p':=[]) (shut_bool XA _) trodAll_mk0
 .simp only[zax];rw[a];exact vU hl A o hA u m
 .rw[b];simp only[zax];rw[a];rfl
end Go.Ab
namespace Go.Ab.Fc
variable {α:Type}
def fN(n:Nat)(K:Nat->Option α):Option α:=match n with
 |0=>K 0
 |m+1=>K (m+1)
def tv{n:Nat}{K:Nat->Option α}:fN n K=K n:=by cases n<;>rfl
def fI(n:Int)(K:Int->Option α):Option α:=match n with
 | .ofNat m=>fN m fun m=>K (.ofNat m)
 | .negSucc m=>fN m fun m=>K (.negSucc m)
def OQ{n:Int}{K:Int->Option α}:fI n K=K n:=by cases n<;>simp[fI,tv]
def fB(b:Bool)(K:Bool->Option α):Option α:=match b with
 |true=>K true
 |false=>K false
def vV{b:Bool}{K:Bool->Option α}:fB b K=K b:=by cases b<;>rfl
def fS{b:Type}:List b->(List b->Option α)->Option α
 |[],K=>K []
 |a::r,K=>fS r fun r=>K (a::r)
theorem CY{b:Type}:∀{l:List b}{K:List b->Option α},fS l K=K l
 |[],_=>rfl
 |a::r,K=>by simp only[fS];rw[CY]
def fL(p:PV)(K:PV->Option α):Option α:=match p with
 | .bool b=>fB b fun b=>K (.bool b)
 | .int k n=>fI n fun n=>K (.int k n)
 | .str s=>K (.str s)
 | .agg cs=>K (.agg cs)
 | .aq l=>K (.aq l)
def T5{p:PV}{K:PV->Option α}:fL p K=K p:=by cases p<;>simp[fL,vV,OQ]
def Yq:List PV->(List PV->Option α)->Option α
 |[],K=>K []
 |a::r,K=>fL a fun a=>Yq r fun r=>K (a::r)
theorem GZ:∀{l:List PV}{K:List PV->Option α},Yq l K=K l
 |[],_=>rfl
 |a::r,K=>by simp only[Yq];rw[T5,GZ]
def fP(p:PV)(K:PV->Option α):Option α:=match p with
 | .agg cs=>Yq cs fun cs=>K (.agg cs)
 |p=>fL p K
def OR{p:PV}{K:PV->Option α}:fP p K=K p:=by cases p<;>simp[fP,GZ,T5]
def fA0(v:AV)(K:AV->Option α):Option α:=match v with
 | .un=>K .un
 | .pv p=>fP p fun p=>K (.pv p)
 | .dr l=>K (.dr l)
 | .own l τ=>fN τ fun τ=>K (.own l τ)
 | .agg cs=>K (.agg cs)
 | .rf cs=>K (.rf cs)
 | .au a b=>fN a fun a=>fN b fun b=>K (.au a b)
 | .aV a b=>fN a fun a=>fN b fun b=>K (.aV a b)
 | .h_ cs=>fS cs fun cs=>K (.h_ cs)
 | .aP a b c d=>fN a fun a=>fN c fun c=>K (.aP a b c d)
 | .fn g c=>K (.fn g c)
 | .ia=>K .ia
 | .jL s=>fN s fun s=>K (.jL s)
 | .fH kvs=>fS kvs fun kvs=>K (.fH kvs)
 | .ri a b c=>fN a fun a=>fN b fun b=>fN c fun c=>K (.ri a b c)
 | .kF a b=>fN a fun a=>fN b fun b=>K (.kF a b)
def OS{v:AV}{K:AV->Option α}:fA0 v K=K v:=by cases v<;>simp[fA0,OR,tv,CY]
def RY:List AV->(List AV->Option α)->Option α
 |[],K=>K []
 |a::r,K=>fA0 a fun a=>RY r fun r=>K (a::r)
theorem vW:∀{l:List AV}{K:List AV->Option α},RY l K=K l
 |[],_=>rfl
 |a::r,K=>by simp only[RY];rw[OS,vW]
def fA(v:AV)(K:AV->Option α):Option α:=match v with
 | .agg cs=>RY cs fun cs=>K (.agg cs)
 | .rf cs=>RY cs fun cs=>K (.rf cs)
 | .fn g cs=>RY cs fun cs=>K (.fn g cs)
 |v=>fA0 v K
def tw{v:AV}{K:AV->Option α}:fA v K=K v:=by cases v<;>simp[fA,vW,OS]
def Yr:List AV->(List AV->Option α)->Option α
 |[],K=>K []
 |a::r,K=>fA a fun a=>Yr r fun r=>K (a::r)
theorem vX:∀{l:List AV}{K:List AV->Option α},Yr l K=K l
 |[],_=>rfl
 |a::r,K=>by simp only[Yr];rw[tw,vX]
def fV(v:AV)(K:AV->Option α):Option α:=match v with
 | .pv (.str s)=>fS s fun s=>K (.pv (.str s))
 | .pv (.aq l)=>fS l fun l=>K (.pv (.aq l))
 | .dr l=>fS l fun l=>Yq l fun l=>K (.dr l)
 | .own l τ=>fS l fun l=>fN τ fun τ=>K (.own l τ)
 |v=>fA v K
def OT{v:AV}{K:AV->Option α}:fV v K=K v:=by
 cases v with
 |pv p=>cases p<;>simp[fV,CY,tw]
 |_=>simp[fV,CY,tw,GZ,tv]
def Ys:List PV->(List PV->Option α)->Option α
 |[],K=>K []
 |a::r,K=>fP a fun a=>Ys r fun r=>K (a::r)
theorem OU:∀{l:List PV}{K:List PV->Option α},Ys l K=K l
 |[],_=>rfl
 |a::r,K=>by simp only[Ys];rw[OR,OU]
def fresh:AK->Bool
 | .v (.ez _)| .v (.slice ..)| .append ..| .v (.bin .add)=>true
 |_=>false
def abf(op:AK)(v:AV)(K:AV->Option α):Option α:=match op,v with
 | .v (.ez _),.dr l=>Ys l fun l=>K (.dr l)
 |op,v=>if fresh op then fV v K else fA v K
def fO{a:Type}(f:a->(a->Option α)->Option α)(o:Option a)(K:Option a->Option α):Option α:=match o with
 |none=>K none
 |some x=>f x fun x=>K (some x)
def Yt{a:Type}{f:a->(a->Option α)->Option α}(hf:∀x K,f x K=K x){o:Option a}{K:Option a->Option α}:fO f o K=K o:=by cases o<;>simp[fO,hf]
def XB:Sh->(Sh->Option α)->Option α
 |[],K=>K []
 |a::r,K=>fO RY a fun a=>XB r fun r=>K (a::r)
theorem rT:∀{l:Sh}{K:Sh->Option α},XB l K=K l
 |[],_=>rfl
 |a::r,K=>by simp only[XB];rw[Yt (fun _ _=>vW),rT]
def fT:aF->(aF->Option α)->Option α
 |[],K=>K []
 |a::r,K=>fN a fun a=>fT r fun r=>K (a::r)
theorem x6:∀{l:aF}{K:aF->Option α},fT l K=K l
 |[],_=>rfl
 |a::r,K=>by simp only[fT];rw[tv,x6]
def RZ:List (Nat×AV)->(List (Nat×AV)->Option α)->Option α
 |[],K=>K []
 |(t,v)::r,K=>fA v fun v=>RZ r fun r=>K ((t,v)::r)
theorem Ie:∀{l:List (Nat×AV)}{K:List (Nat×AV)->Option α},RZ l K=K l
 |[],_=>rfl
 |(t,v)::r,K=>by simp only[RZ];rw[tw,Ie]
def R0:List (Nat×List AV)->(List (Nat×List AV)->Option α)->Option α
 |[],K=>K []
 |(t,v)::r,K=>RY v fun v=>R0 r fun r=>K ((t,v)::r)
theorem Ig:∀{l:List (Nat×List AV)}{K:List (Nat×List AV)->Option α},R0 l K=K l
 |[],_=>rfl
 |(t,v)::r,K=>by simp only[R0];rw[vW,Ig]
def V7(st:St)(K:St->Option α):Option α:=match st with
 |⟨env,mem,sh,aa⟩=>RZ env fun env=>R0 mem fun mem=>XB sh fun sh=>fT aa fun aa=>K ⟨env,mem,sh,aa⟩
def vY{st:St}{K:St->Option α}:V7 st K=K st:=by
 obtain⟨env,mem,sh,aa⟩:=st;simp only[V7];rw[Ie,Ig,rT,x6]
def lk{a:Type}:List (Nat×a)->Nat->Option a
 |[],_=>none
 |(k,v)::r,t=>bif Nat.beq k t then some v else lk r t
theorem x7{a:Type}:∀{l:List (Nat×a)}{t:Nat},lk l t=look l t
 |[],_=>rfl
 |(k,v)::r,t=>by
  simp only[lk,look];rw[x7];by_cases h:k=t
  .subst h;simp
  .rw[zai h,show Nat.beq k t=false from by rw[zcE];intro e;exact h (zbR e)];rfl
def pt{a:Type}:List (Nat×a)->Nat->a->(List (Nat×a)->Option α)->Option α
 |[],t,u,K=>K [(t,u)]
 |(k,v)::r,t,u,K=>bif Nat.beq k t then K ((k,u)::r)else pt r t u fun r=>K ((k,v)::r)
theorem OV{a:Type}:∀{l:List (Nat×a)}{t:Nat}{u:a}{K:List (Nat×a)->Option α},pt l t u K=K (dF l t u)
 |[],_,_,_=>rfl
 |(k,v)::r,t,u,K=>by
  simp only[pt,dF];by_cases h:k=t
  .subst h;simp
  .rw[zai h,show Nat.beq k t=false from by rw[zcE];intro e;exact h (zbR e)];exact OV
def od(env:List (Nat×AV))(x:fp)(K:AV->Option α):Option α:=match x with
 | .t n=>match lk env n with
  |some v=>K v
  |none=>none
 | .c v=>K v
theorem Yu{env:List (Nat×AV)}{x:fp}{K:AV->Option α}:od env x K=(iB env x).bind K:=by
 cases x with
 |t n=>simp only[od,iB,x7];cases look env n<;>rfl
 |c v=>rfl
def XC(env:List (Nat×AV)):List fp->(List AV->Option α)->Option α
 |[],K=>K []
 |x::r,K=>od env x fun v=>XC env r fun vs=>K (v::vs)
theorem OW{env:List (Nat×AV)}:∀{l:List fp}{K:List AV->Option α},XC env l K=(eC env l).bind K
 |[],_=>rfl
 |x::r,K=>by
  simp only[XC,eC];rw[Yu];cases iB env x with
  |none=>rfl
  |some v=>
   dsimp only[Option.bind_some];rw[OW];cases eC env r<;>rfl
def V8:IntKind->Nat
 | .i8=>0| .i16=>1| .i32=>2| .i64=>3| .u8=>4| .u16=>5| .u32=>6| .u64=>7
def R1{a b:IntKind}(h:Nat.beq (V8 a) (V8 b)=true):a=b:=by
 have:=zbR h;cases a<;>cases b<;>first|rfl|(simp[V8]at this)
def iEq:Int->Int->Bool
 | .ofNat a,.ofNat b=>Nat.beq a b
 | .negSucc a,.negSucc b=>Nat.beq a b
 |_,_=>false
def aaI{a b:Nat}:Nat.beq a b=decide (a=b):=by
 by_cases h:a=b
 .subst h;simp
 .rw[zaY h,zcE];intro e;exact h (zbR e)
def OX{a b:Int}:iEq a b=(a == b):=by
 cases a<;>cases b<;>(rw[za0];simp[iEq,aaI])<;>omega
def XD:Int->Int->Bool
 | .ofNat a,.ofNat b=>Nat.blt a b
 | .negSucc a,.negSucc b=>Nat.blt b a
 | .negSucc _,.ofNat _=>true
 | .ofNat _,.negSucc _=>false
def z7{a b:Int}:XD a b=decide (a<b):=by
 cases a<;>cases b<;>(rw[za0];simp[XD,Nat.blt_eq])<;>omega
def V9(k:IntKind)(a b:Int)(K:Int->Option α):Option α:=match k,a,b with
 | .i64,.ofNat x,.ofNat y=>bif Nat.blt (x+y) 4611686018427387904 then fN (x+y) fun n=>K (.ofNat n)else fI (IntKind.i64.wrap (.ofNat x+.ofNat y)) K
 |k,a,b=>fI (k.wrap (a+b)) K
def R2{k:IntKind}{a b:Int}{K:Int->Option α}:V9 k a b K=K (k.wrap (a+b)):=by
 unfold V9;split
 .rename_i x y;cases h:Nat.blt (x+y) 4611686018427387904 with
  |false=>simp only[cond_false];exact OQ
  |true=>
   simp only[cond_true,tv];have:x+y<4611686018427387904:=by simpa[Nat.blt_eq]using h
   congr 1;simp[IntKind.wrap,IntKind.bits,IntKind.signed];omega
 .exact OQ
def V_(op:BinOp)(a b:AV)(K:AV->Option α):Option α:=match a with
 | .pv (.int k x)=>match b with
  | .pv (.int k' y)=>bif Nat.beq (V8 k) (V8 k')then(match op with
   | .eql=>fB (iEq x y) fun c=>K (.pv (.bool c))
   | .neq=>fB (!iEq x y) fun c=>K (.pv (.bool c))
   | .lss=>fB (XD x y) fun c=>K (.pv (.bool c))
   | .gtr=>fB (XD y x) fun c=>K (.pv (.bool c))
   | .geq=>fB (!XD x y) fun c=>K (.pv (.bool c))
   | .leq=>fB (!XD y x) fun c=>K (.pv (.bool c))
   | .add=>V9 k x y fun n=>K (.pv (.int k n))
   |op=>(cP op a b).bind fun v=>fV v K)
    else (cP op a b).bind fun v=>fV v K
  |b=>(cP op a b).bind fun v=>fV v K
 |a=>(cP op a b).bind fun v=>fV v K
def R3{op:BinOp}{a b:AV}{K:AV->Option α}:V_ op a b K=(cP op a b).bind K:=by
 have c:((cP op a b).bind fun v=>fV v K)=(cP op a b).bind K:=by
  congr 1;funext v;exact OT
 unfold V_;split
 .rename_i k x;split
  .rename_i k' y;cases d:Nat.beq (V8 k) (V8 k')with
   |false=>exact c
   |true=>
    obtain rfl:=R1 d;simp only[cond_true];split
    .simp[vV,OX,cP]
    .simp[vV,OX,cP,bne]
    .simp[vV,z7,cP]
    .simp[vV,z7,cP]
    .simp[vV,z7,cP,<-zda,zde]
    .simp[vV,z7,cP,<-zda,zde]
    .simp[R2,cP]
    .exact c
  .exact c
 .exact c
def xFa(off:Nat)(x:AV)(K:AV->Option α):Option α:=match x with
 | .au d o=>fN (o+off) fun n=>K (.au d n)
 | .aV b o=>fN (o+off) fun n=>K (.aV b n)
 | .h_ cs=>fS (cs.drop off) fun cs=>K (.h_ cs)
 |_=>none
def nth{b:Type}:List b->Nat->Option b
 |[],_=>none
 |a::r,n=>match n with
  |0=>some a
  |n+1=>nth r n
theorem G5{b:Type}:∀{l:List b}{n:Nat},nth l n=l[n]?
 |[],n=>by simp[nth]
 |a::r,0=>rfl
 |a::r,n+1=>by simp only[nth,List.getElem?_cons_succ];exact G5
def ln{a:Type}:List a->Nat->(Nat->Option α)->Option α
 |[],n,K=>K n
 |_::r,n,K=>fN (n+1) fun n=>ln r n K
theorem Ih{a:Type}:∀{l:List a}{n:Nat}{K:Nat->Option α},ln l n K=K (n+l.length)
 |[],n,K=>rfl
 |_::r,n,K=>by
  simp only[ln];rw[tv,Ih];congr 1;simp;omega
def xV(o:Q2)(vals:List AV)(K:AV->Option α):Option α:=match o with
 | .mv=>match vals with
  |[x]=>K x
  |vals=>(bG .mv vals).bind fun v=>fA v K
 | .bin op=>match vals with
  |[a,b]=>V_ op a b K
  |vals=>(bG (.bin op) vals).bind fun v=>fA v K
 | .iA off=>match vals with
  |[x]=>xFa off x K
  |vals=>(bG (.iA off) vals).bind fun v=>fA v K
 | .rj=>match vals with
  |[.au a b]=>K (.au a b)
  |[.aV a b]=>K (.aV a b)
  |vals=>(bG .rj vals).bind fun v=>fA v K
 | .index=>match vals with
  |[.pv (.str s),.pv (.int _ (.ofNat i))]=>match nth s i with
   |some b=>fN b.toNat fun n=>K (.pv (.int .u8 (.ofNat n)))
   |none=>none
  |vals=>(bG .index vals).bind fun v=>fA v K
 | .Ee=>match vals with
  |[.pv (.str s)]=>ln s 0 fun n=>K (.pv (.int .i64 (.ofNat n)))
  |vals=>(bG .Ee vals).bind fun v=>fA v K
 | .len=>match vals with
  |[.pv (.aq l)]=>ln l 0 fun n=>K (.pv (.int .i64 (.ofNat n)))
  |[.own l _]=>ln l 0 fun n=>K (.pv (.int .i64 (.ofNat n)))
  |vals=>(bG .len vals).bind fun v=>fA v K
 | .ez sz=>match bG (.ez sz) vals with
  |some (.dr l)=>Ys l fun l=>K (.dr l)
  |some v=>K v
  |none=>none
 | .slice a b c d e=>(bG (.slice a b c d e) vals).bind fun v=>fV v K
 |o=>(bG o vals).bind fun v=>fA v K
theorem Yv{o:Q2}{vals:List AV}{K:AV->Option α}:xV o vals K=(bG o vals).bind K:=by
 have a:∀o vals,((bG o vals).bind fun v=>fA v K)=(bG o vals).bind K:=by
  intro o vals;congr 1;funext v;exact tw
 unfold xV;split
 .split
  .rfl
  .exact a _ _
 .split
  .exact R3
  .exact a _ _
 .split
  .rename_i x;cases x<;>simp[xFa,bG,tv,CY]
  .exact a _ _
 .split
  .rfl
  .rfl
  .exact a _ _
 .split
  .rename_i s k i;rw[G5];have hi:¬(Int.ofNat i<0):=by simp
   simp only[bG];rw[zai hi];simp only[zbx,Int.ofNat_eq_natCast];cases s[i]? with
   |none=>rfl
   |some b=>simp[tv]
  .exact a _ _
 .split
  .simp[Ih,bG]
  .exact a _ _
 .split
  .simp[Ih,bG,cG]
  .simp[Ih,bG,cG]
  .exact a _ _
 .split
  .rename_i l h;rw[h,OU];rfl
  .rename_i h;rw[h];rfl
  .rename_i h;rw[h];rfl
 .congr 1;funext v;exact OT
 .exact a _ _
def lay(env:List (Nat×AV))(mem:List (Nat×List AV))(sh:Sh)(aa:aF)(d:Option Nat)(v:AV)(K:St->Option α):Option α:=match d with
 |some d=>pt env d v fun env=>K ⟨env,mem,sh,aa⟩
 |none=>K ⟨env,mem,sh,aa⟩
def nD{env:List (Nat×AV)}{mem:List (Nat×List AV)}{sh:Sh}{aa:aF}{d:Option Nat}{v:AV}{K:St->Option α}:lay env mem sh aa d v K=K ⟨gB env d v,mem,sh,aa⟩:=by
 cases d<;>simp[lay,gB,OV]
def V'(mem:List (Nat×List AV))(k:Nat)(cs:Option (List AV))(K:List (Nat×List AV)->Option α):Option α:=match cs with
 |some cs=>RY cs fun cs=>pt mem k cs K
 |none=>K mem
def R4{mem:List (Nat×List AV)}{k:Nat}{cs:Option (List AV)}{K:List (Nat×List AV)->Option α}:V' mem k cs K=K (fQ mem (some k) cs):=by
 cases cs<;>simp[V',fQ,vW,OV]
def OY(orc:eY)(op:AK)(d:Option Nat)(vals:List AV)(env:List (Nat×AV))(mem:List (Nat×List AV))(sh:Sh)(aa:aF)(K:St->Option α):Option α:=
 match exec orc op vals (op.key.bind (look mem)) sh aa with
 |none=>none
 |some ⟨val,cells,sh',toks'⟩=>fV val fun val=>(match op.key with|some k=>V' mem k cells|none=>fun K=>K mem) fun mem=>XB sh' fun sh'=>fT toks' fun toks'=>lay env mem sh' toks' d val K
theorem z8{orc:eY}{op:AK}{d:Option Nat}{vals:List AV}{env:List (Nat×AV)}{mem:List (Nat×List AV)}{sh:Sh}{aa:aF}{K:St->Option α}:
   OY orc op d vals env mem sh aa K=(match exec orc op vals (op.key.bind (look mem)) sh aa with
    |none=>none
    |some out=>some (⟨gB env d out.val,fQ mem op.key out.cells,out.sh,out.aa⟩:St)).bind K:=by
 unfold OY;cases exec orc op vals (op.key.bind (look mem)) sh aa with
 |none=>rfl
 |some out=>
  obtain⟨val,cells,sh',toks'⟩:=out;simp only[OT,zbg];cases op.key with
  |none=>simp only[rT,x6,nD];cases cells<;>rfl
  |some k=>simp only[R4,rT,x6,nD]
def xP(orc:eY)(g:Nat)(vals:List AV)(K:AV->Option α):Option α:=match dG [] vals with
 |some dN=>match orc.p g dN with
  |some rs=>fA (uF rs) K
  |none=>none
 |none=>none
def x1(orc:eY)(op:AK)(d:Option Nat)(vals:List AV)(env:List (Nat×AV))(mem:List (Nat×List AV))(sh:Sh)(aa:aF)(K:St->Option α):Option α:=match op with
 | .v o=>xV o vals fun v=>lay env mem sh aa d v K
 | .aE g=>xP orc g vals fun v=>lay env mem sh aa d v K
 | .cr key off sz ag=>match vals with
  |[.au a o]=>match lk mem key with
   |some cs=>bif Nat.beq a key && Nat.beq o off then(match cm ag sz cs off with
    |some v=>fA v fun v=>lay env mem sh aa d v K
    |none=>none)else none
   |none=>none
  |vals=>OY orc (.cr key off sz ag) d vals env mem sh aa K
 | .eg sz ag=>match vals with
  |[.aV b off]=>match nth sh b with
   |some (some cs)=>bif bW cs then none else(match cm ag sz cs off with
    |some v=>fA v fun v=>lay env mem sh aa d v K
    |none=>none)
   |_=>none
  |vals=>OY orc (.eg sz ag) d vals env mem sh aa K
 |op=>OY orc op d vals env mem sh aa K
theorem Yw{orc:eY}{op:AK}{d:Option Nat}{vals:List AV}{env:List (Nat×AV)}{mem:List (Nat×List AV)}{sh:Sh}{aa:aF}{K:St->Option α}:
   x1 orc op d vals env mem sh aa K=(match exec orc op vals (op.key.bind (look mem)) sh aa with
    |none=>none
    |some out=>some (⟨gB env d out.val,fQ mem op.key out.cells,out.sh,out.aa⟩:St)).bind K:=by
 unfold x1;split
 .rename_i o;simp only[Yv,nD,exec];cases bG o vals with
  |none=>rfl
  |some v=>rfl
 .rename_i g;simp only[xP,exec];cases dG [] vals with
  |none=>rfl
  |some dN=>
   dsimp only;cases orc.p g dN with
   |none=>rfl
   |some rs=>simp only[tw,nD];rfl
 .rename_i key off sz ag;split
  .rename_i a o;rw[x7];have c:((AK.cr key off sz ag).key.bind (look mem))=look mem key:=rfl;rw[c];cases look mem key with
   |none=>simp[exec]
   |some cs=>
    simp only[exec];by_cases h:a=key/\o=off
    .obtain⟨rfl,rfl⟩:=h;simp only[Nat.beq_refl,zcT,cond_true,and_self,zbc];cases cm ag sz cs o with
     |none=>rfl
     |some v=>simp only[tw,nD];rfl
    .rw[zai h]
     have:(Nat.beq a key && Nat.beq o off)=false:=by
      rw[zcE];intro e;simp only[zah]at e;exact h ⟨zbR e.1,zbR e.2⟩
     rw[this];rfl
  .exact z8
 .rename_i sz ag;split
  .rename_i b off;rw[G5];simp only[exec];split
   .rename_i cs h;rw[h];dsimp only;cases bW cs with
    |true=>rfl
    |false=>
     simp only[cond_false,za6,zbI];cases cm ag sz cs off with
     |none=>rfl
     |some v=>simp only[tw,nD];rfl
   .rename_i h;split
    .rfl
    .rename_i e1 e2 e3;split at e3
     .rename_i cs e4;exact absurd e4 (h cs)
     .cases e3
  .exact z8
 .exact z8
def opF(orc:eY)(o:dM)(st:St)(K:St->Option α):Option α:=match st with
 |⟨env,mem,sh,aa⟩=>match o with
  |⟨d,g,args,op⟩=>match g with
   |none=>XC env args fun vals=>x1 orc op d vals env mem sh aa K
   |some (t,b)=>match lk env t with
    |some (.pv (.bool c))=>bif c == b then XC env args fun vals=>x1 orc op d vals env mem sh aa K else lay env mem sh aa d .un K
    |some .un=>lay env mem sh aa d .un K
    |_=>none
theorem Wa{orc:eY}{o:dM}{st:St}{K:St->Option α}:opF orc o st K=(d_ orc o st).bind K:=by
 obtain⟨env,mem,sh,aa⟩:=st;obtain⟨d,g,args,op⟩:=o
 have run:(XC env args fun vals=>x1 orc op d vals env mem sh aa K)=(match eC env args with
  |none=>none
  |some vals=>match exec orc op vals (op.key.bind (look mem)) sh aa with
   |none=>none
   |some out=>some (⟨gB env d out.val,fQ mem op.key out.cells,out.sh,out.aa⟩:St)).bind K:=by
   rw[OW];cases eC env args with
   |none=>rfl
   |some vals=>exact Yw
 cases g with
 |none=>simp only[opF,d_,ga];exact run
 |some p=>
  obtain⟨t,b⟩:=p;simp only[opF,d_,ga,x7];split
  .rename_i c h;rw[h];dsimp only;cases hc:(c == b)with
   |true=>simp only[cond_true];exact run
   |false=>simp only[cond_false,nD];rfl
  .rename_i h;rw[h];simp only[nD];rfl
  .rename_i h1 h2;split
   .rfl
   .rename_i e;split at e<;>simp_all
   .rename_i e;split at e<;>simp_all
def R5(orc:eY):List dM->St->(St->Option α)->Option α
 |[],st,K=>K st
 |o::r,st,K=>opF orc o st fun st=>R5 orc r st K
theorem Ii{orc:eY}:∀{l:List dM}{st:St}{K:St->Option α},R5 orc l st K=(bC orc l st).bind K
 |[],_,_=>rfl
 |o::r,st,K=>by
  simp only[R5,bC];rw[Wa];cases d_ orc o st with
  |none=>rfl
  |some s=>exact Ii
def Ij(f:St->(bh->St->Option α)->Option α)(a:St->St):Nat->St->(bh->St->Option α)->Option α
 |0,_,_=>none
 |n+1,st,K=>V7 (a st) fun st=>f st fun e st=>match e with
  | .normal=>Ij f a n st K
  |e=>K e st
def T6(live:List Nat)(v:AV):Bool:=match v with
 | .au d _=>live.contains d
 | .kF d _=>live.contains d
 | .pv _=>true
 | .own ..=>true
 | .agg cs=>gv cs
 |v=>bI v
def OZ{live:List Nat}{v:AV}:T6 live v=en live v:=by cases v<;>rfl
def Yx(live:List Nat)(env:List (Nat×AV)):List Nat->(List (Nat×AV)->Option α)->Option α
 |[],K=>K []
 |t::r,K=>match lk env t with
  |some v=>Yx live env r fun e=>bif T6 live v then K ((t,v)::e)else K e
  |none=>Yx live env r K
theorem G8{live:List Nat}{env:List (Nat×AV)}:∀{l:List Nat}{K:List (Nat×AV)->Option α},Yx live env l K=K (bJ live env l)
 |[],_=>rfl
 |t::r,K=>by
  simp only[Yx,bJ,x7];cases look env t with
  |none=>exact G8
  |some v=>
   dsimp only;rw[G8,OZ];cases en live v<;>simp
def Yy(mem:List (Nat×List AV)):List Nat->(List (Nat×List AV)->Option α)->Option α
 |[],K=>K []
 |t::r,K=>match lk mem t with
  |some v=>Yy mem r fun e=>K ((t,v)::e)
  |none=>Yy mem r K
theorem G9{mem:List (Nat×List AV)}:∀{l:List Nat}{K:List (Nat×List AV)->Option α},Yy mem l K=K (bQ mem l)
 |[],_=>rfl
 |t::r,K=>by
  simp only[Yy,bQ,x7];cases look mem t with
  |none=>exact G9
  |some v=>exact G9
def rs(live:List Nat)(st:St)(K:St->Option α):Option α:=match st with
 |⟨env,mem,sh,aa⟩=>Yx live env live fun env=>Yy mem live fun mem=>K ⟨env,mem,sh,aa⟩
def Yz{live:List Nat}{st:St}{K:St->Option α}:rs live st K=K (restrict live st):=by
 obtain⟨env,mem,sh,aa⟩:=st;simp only[rs];rw[G8,G9];rfl
def T7(K:bh->St->Option α):Option (bh×St)->Option α
 |some (e,st)=>K e st
 |none=>none
def cF(orc:eY)(k:Nat):ah->St->(bh->St->Option α)->Option α
 | .skip,st,K=>K .normal st
 | .jf ops live,st,K=>R5 orc ops st fun st=>rs live st fun st=>K .normal st
 | .seq a b,st,K=>cF orc k a st fun e st=>match e with
  | .normal=>cF orc k b st K
  |e=>K e st
 | .cond c a b,st,K=>match iB st.env c with
  |some (.pv (.bool t))=>match t with
   |true=>cF orc k a st K
   |false=>cF orc k b st K
  |_=>none
 | .block id b,st,K=>cF orc k b st fun e st=>match e with
  | .exit d=>if d=id then K .normal st else K (.exit d) st
  |e=>K e st
 | .loop live b,st,K=>Ij (cF orc k b) (fun s=>norm (restrict live s)) k st K
 | .back c gb pi px sz ag live x y,st,K=>T7 K (c_ orc k (.back c gb pi px sz ag live x y) st)
 | .exit id,st,K=>K (.exit id) st
 | .ret,st,K=>K .ret st
 | .gr ts,st,K=>K .normal (oO ts st)
 | .TS ds,st,K=>bif jh st.env ds then K .normal st else none
 | .mV ps,st,K=>V7 (yT ps st) fun st=>K .normal st
 | .m9 ts,st,K=>V7 (Eh ts st) fun st=>K .normal st
 | .TT ts,st,K=>V7 (jO ts st) fun st=>K .normal st
theorem CZ{f:St->(bh->St->Option α)->Option α}{g:St->Option (bh×St)}{a:St->St}(h:∀st K,f st K=T7 K (g st)):∀{n:Nat}{st:St}{K:bh->St->Option α},Ij f a n st K=T7 K (fU g a n st)
 |0,_,_=>rfl
 |n+1,st,K=>by
  simp only[Ij,fU];rw[vY,h];cases g (a st)with
  |none=>rfl
  |some q=>
   obtain⟨e,s⟩:=q;cases e with
   |normal=>exact CZ h
   |ret=>rfl
   |exit id=>rfl
theorem vZ{orc:eY}{k:Nat}:∀{c:ah}{st:St}{K:bh->St->Option α},cF orc k c st K=T7 K (c_ orc k c st)
 | .skip,_,_=>rfl
 | .jf ops live,st,K=>by
  simp only[cF,c_];rw[Ii];cases bC orc ops st with
  |none=>rfl
  |some s=>simp only[zbg,Yz,T7]
 | .seq a b,st,K=>by
  simp only[cF,c_];rw[vZ];cases c_ orc k a st with
  |none=>rfl
  |some q=>
   obtain⟨e,s⟩:=q;cases e with
   |normal=>simp only[T7];exact vZ
   |ret=>rfl
   |exit id=>rfl
 | .cond c a b,st,K=>by
  simp only[cF,c_];split
  .rename_i t h;rw[h];cases t with
   |true=>exact vZ
   |false=>exact vZ
  .rename_i h;split
   .rename_i t h';exact absurd h' (h t)
   .rfl
 | .block id b,st,K=>by
  simp only[cF,c_];rw[vZ];cases c_ orc k b st with
  |none=>rfl
  |some q=>
   obtain⟨e,s⟩:=q;cases e with
   |normal=>rfl
   |ret=>rfl
   |exit d=>
    simp only[T7];split<;>rfl
 | .loop live b,st,K=>by
  simp only[cF,c_];exact CZ (g:=c_ orc k b) fun _ _=>vZ
 | .back c gb pi px sz ag live x y,_,_=>by simp only[cF]
 | .exit id,_,_=>rfl
 | .ret,_,_=>rfl
 | .gr _,_,_=>rfl
 | .TS ds,st,K=>by
  simp only[cF,c_];cases jh st.env ds<;>rfl
 | .mV ps,st,K=>by
  simp only[cF,c_];rw[vY];rfl
 | .m9 ps,st,K=>by
  simp only[cF,c_];rw[vY];rfl
 | .TT ps,st,K=>by
  simp only[cF,c_];rw[vY];rfl
def R6(aW:Bool)(af:aA)(a:Sh)(e:bh)(st:St)(K:List AV->Sh->aF->Option α):Option α:=
 match e with
 | .exit _=>none
 |_=>match eN st af.results with
  |some vs=>
   Yr (cE aW af.ks st.sh vs) fun rs=>
   let sh':=if rs.all (aJ a.length)=true then(fD aW af.ks st.sh vs).take a.length else fD aW af.ks st.sh vs
   if rs.all bU=true then
    match de st.aa rs sh' with
    |(rs,sh,_,ts)=>Yr rs fun rs=>XB sh fun sh=>fT ts fun ts=>K rs sh ts
   else none
  |none=>none
def L5(K:List AV->Sh->aF->Option α):Option (List AV×Sh×aF)->Option α
 |some (a,b,c)=>K a b c
 |none=>none
theorem R7{aW:Bool}{af:aA}{a:Sh}{e:bh}{st:St}{K:List AV->Sh->aF->Option α}:R6 aW af a e st K=L5 K (finish aW af a (some (e,st))):=by
 cases e with
 |exit id=>rfl
 |normal=>
  simp only[R6,finish];cases eN st af.results with
  |none=>rfl
  |some vs=>
   simp only[vX,or_true,zbc];split
   .simp only[vX,rT,x6,L5]
   .rfl
 |ret=>
  simp only[R6,finish];cases eN st af.results with
  |none=>rfl
  |some vs=>
   simp only[vX,true_or,zbc];split
   .simp only[vX,rT,x6,L5]
   .rfl
def x8(orc:eY)(k:Nat)(aW:Bool)(af:aA)(args:List AV)(sh:Sh)(ts:aF)(K:List AV->Sh->aF->Option α):Option α:=
 V7 {env:=cf 0 args,mem:=[],sh,aa:=ts} fun st=>cF orc k af.body st fun e st=>R6 aW af sh e st K
theorem qB{orc:eY}{k:Nat}{aW:Bool}{af:aA}{args:List AV}{sh:Sh}{ts:aF}{K:List AV->Sh->aF->Option α}:x8 orc k aW af args sh ts K=L5 K (ct orc k aW af args sh ts):=by
 unfold x8;rw[vY,vZ,gT];cases c_ orc k af.body {env:=cf 0 args,mem:=[],sh,aa:=ts}with
 |none=>rfl
 |some q=>obtain⟨e,s⟩:=q;simp only[T7];exact R7
def C0(AP:Nat->Option aA)(k:Nat):Nat->eY
 |0=>{p:=fun _ _=>none,i:=fun _ _ _ _=>none}
 |n+1=>
  { p:=fun g dN=>match AP g with
   |some af=>match af.p8 with
    |some f=>f.f (C0 AP k n).p dN
    |none=>if dN.length=af.nparams/\dN.length<=af.ntmps then x8 (C0 AP k n) k false af (dN.map .pv) [] [] fun rs _ _=>gC rs else none
   |none=>none,
    i:=fun g args sh ts=>match AP g with
     |some af=>if args.length<=af.ntmps then x8 (C0 AP k n) k true af args sh ts fun a b c=>some (a,b,c)else none
     |none=>none}
theorem Ik{AP:Nat->Option aA}{k:Nat}:∀n,C0 AP k n=run AP k n
 |0=>rfl
 |n+1=>by
  have a:=Ik (AP:=AP) (k:=k) n;simp only[C0,run];congr 1
  .funext g dN
   cases AP g with
   |none=>rfl
   |some af=>
    dsimp only;cases af.p8 with
    |some f=>dsimp only;rw[a]
    |none=>
     dsimp only;split
     .rw[qB,a];cases ct (run AP k n) k false af (dN.map .pv) [] []with
      |none=>rfl
      |some q=>rfl
     .rfl
  .funext g args sh ts
   cases AP g with
   |none=>rfl
   |some af=>
    dsimp only;split
    .rw[qB,a];cases ct (run AP k n) k true af args sh ts with
     |none=>rfl
     |some q=>rfl
    .rfl
def L6{AP:Nat->Option aA}{k n g:Nat}{x rs:List PV}(h:(C0 AP k n).p g x=some rs):(az AP).p g x=some rs:=by
 rw[Ik]at h;exact vq (t9 g x) (show(run AP (max k n) (max k n)).p g x=some rs from(cV (zbt k n) (zbz k n)).p _ _ _ h)
def xh(AP:Nat->Option aA)(d:Nat->List PV->Option (List PV))(k:Nat):Nat->eY
 |0=>{p:=d,i:=fun _ _ _ _=>none}
 |n+1=>
  { p:=fun g dN=>match d g dN with
   |some r=>some r
   |none=>match AP g with
    |some af=>match af.p8 with
     |some f=>f.f (xh AP d k n).p dN
     |none=>if dN.length=af.nparams/\dN.length<=af.ntmps then x8 (xh AP d k n) k false af (dN.map .pv) [] [] fun rs _ _=>gC rs else none
    |none=>none,
    i:=fun g args sh ts=>match AP g with
     |some af=>if args.length<=af.ntmps then x8 (xh AP d k n) k true af args sh ts fun a b c=>some (a,b,c)else none
     |none=>none}
def C1{AP:Nat->Option aA}{orc:eY}{k:Nat}{aW:Bool}{af:aA}{args:List AV}{sh:Sh}{ts:aF}{r:List AV×Sh×aF}(a:orc.le (az AP))(h:ct orc k aW af args sh ts=some r):oU AP aW af args sh ts=some r:=by
 rw[gT]at h;unfold oU;cases hc:c_ orc k af.body {env:=cf 0 args,mem:=[],sh,aa:=ts}with
 |none=>rw[hc]at h;simp[finish]at h
 |some q=>
  rw[j8 (cB a (zas k) hc)];rw[hc]at h;exact h
def Il{AP:Nat->Option aA}{c:Nat->List PV->Option (List PV)}{k:Nat}(a:∀g x r,c g x=some r->(az AP).p g x=some r):∀n,(xh AP c k n).le (az AP)
 |0=>⟨a,fun g x s t r h=>by simp[xh]at h⟩
 |n+1=>by
  have i:=Il (k:=k) a n;refine⟨fun g x r h=>?_,fun g x s t r h=>?_⟩
  .simp only[xh]at h;split at h
   .rename_i j e;rw[<-h];exact a g x j e
   .split at h
    .rename_i af d;cases hp:af.p8 with
     |some f=>rw[hp]at h;rw[zn d hp];exact f.mono i.p h
     |none=>
      rw[hp]at h;simp only[zab]at h;obtain⟨⟨h1,h2⟩,h⟩:=h;rw[qB]at h;rw[TZ d hp h1 h2];cases b:ct (xh AP c k n) k false af (x.map .pv) [] []with
      |none=>rw[b]at h;simp[L5]at h
      |some q=>rw[C1 i b];rw[b]at h;exact h
    .cases h
  .simp only[xh]at h;split at h
   .rename_i af d;simp only[zab]at h;obtain⟨h2,h⟩:=h;rw[qB]at h;rw[T3 d h2];cases b:ct (xh AP c k n) k true af x s t with
    |none=>rw[b]at h;simp[L5]at h
    |some q=>rw[C1 i b];rw[b]at h;exact h
   .cases h
def T8{AP:Nat->Option aA}{b:Nat->List PV->Option (List PV)}{k n g:Nat}{x rs:List PV}(a:∀g x r,b g x=some r->(az AP).p g x=some r)(h:(xh AP b k n).p g x=some rs):(az AP).p g x=some rs:=(Il a n).p _ _ _ h
end Go.Ab.Fc
namespace Go.Ab
section
variable {P:Program} {ns:Names} {w w':World}
def HW.below{K:bt}(h:HW K w)(e:RowKit.Below w.heap.size w w'):HW K w':=by
 intro b o v d;have h1:=h b o v d
 have a:b<w.heap.size:=by
  simp only[World.cell?]at h1;cases hc:w.heap[b]? with
  |none=>rw[hc]at h1;simp at h1
  |some c=>exact(zaW.1 hc).1
 have h2:=e.block b a;simp only[World.cell?,h2]at h1⊢;exact h1
def kh:List PV->Option (List (List UInt8))
 |[]=>some []
 | .str s::r=>(kh r).map (s::·)
 |_=>none
theorem G_(l:List (List UInt8)):kh (l.map .str)=some l:=by
 induction l with
 |nil=>rfl
 |cons a r b=>simp[kh,b]
def v3:∀{els:List PV}{xs:List (List UInt8)},kh els=some xs->els=xs.map .str
 |[],xs,h=>by simp[kh]at h;subst h;rfl
 | .str s::r,xs,h=>by
  simp only[kh,zac]at h;obtain⟨a,h1,rfl⟩:=h;rw[v3 h1];rfl
 | .bool _::r,_,h=>by simp[kh]at h
 | .int _ _::r,_,h=>by simp[kh]at h
 | .aq _::r,_,h=>by simp[kh]at h
 | .agg _::r,_,h=>by simp[kh]at h
def z9:List PV->Option (List PV)
 |[.aq els,.str sep]=>match kh els with
  |some xs=>if xs.length<=1000000000/\(Lib.join xs sep).length<=140737488355328 then some [.str (Lib.join xs sep)]else none
  |none=>none
 |_=>none
def aaJ:List PV->Option (List PV)
 |[.int .i64 n]=>if 0<=n/\n<100 then some [.str (Lib.decDigits n.toNat)]else none
 |_=>none
def ug:List PV->Option (List PV)
 |[.int .i64 n]=>if -9223372036854775808<=n/\n<=9223372036854775807 then some [.str (Lib.itoa n)]else none
 |_=>none
def z_:Array Value:=(Lib.pow10Tab.map fun z=>Value.int .u64 z).toArray
def Ha {f:FuncId} {g:Nat} (hpin:ns.mP g=some z_) (hg:P.globalNamed "internal/strconv.uint64pow10"=some g)
   (h:∀n:Int,-9223372036854775808≤n→n≤9223372036854775807→∀w:World,Lib.TabIs P w "internal/strconv.uint64pow10" .u64 Lib.pow10Tab →
     Calls P f #[.int .i64 n] w fun e w'=>e=.returned (.string ⟨(Lib.itoa n).toArray⟩)/\∃k os,w'=Go.Sort.grow (w.drewN k) os):
   ∀dN rs,ug dN=some rs->xy P ns f dN rs:=by
 intro dN rs hp K w vs hw hk hr;unfold ug at hp;split at hp
 .rename_i n;simp only[zab,zag]at hp;obtain⟨⟨h0,h1⟩,rfl⟩:=hp;simp only[kG]at hr;obtain⟨v,r,rfl,hv,rfl⟩:=hr;have hv:v=.int .i64 n:=by simpa[Rel,R]using hv
  subst hv
  have htab:Lib.TabIs P w "internal/strconv.uint64pow10" .u64 Lib.pow10Tab:=by
   obtain⟨t,z,hh⟩:=hw g _ hpin;unfold Lib.TabIs World.var?
   rw[hg,zbg,hh];rfl
  refine (h n h0 h1 w htab).mono ?_
  rintro e w' ⟨rfl,k,os,rfl⟩
  have hb:RowKit.Below w.heap.size w (Go.Sort.grow (w.drewN k) os):=⟨rfl,rfl,rfl,by simp[Go.Sort.grow],fun b hb=>by
   simp only[Go.Sort.grow,World.heap_drewN];rw[zcB hb]⟩
  exact⟨_,K,rfl,by simp[iJ,Rel,R],K.le_refl,fun _ _ _ _ h=>h,hk.below hb,hb⟩
 .simp at hp
def Im{K:bt}:∀{xs:List (List UInt8)}{b o sz:Nat},Row K b o sz (xs.map .str)->xs≠[]->∀(j:Nat)(x:List UInt8),xs[j]?=some x->K b (o+j)=some (.string ⟨x.toArray⟩)
 |[],_,_,_,_,h,_,_,_=>absurd rfl h
 |y::r,b,o,sz,hr,_,j,x,hj=>by
  simp only[zal,Row,R]at hr;obtain⟨⟨vs,h1,h2,rfl⟩,h4⟩:=hr;simp only[zae,zao]at h1;subst h1;cases j with
  |zero=>
   simp at hj;subst hj;exact h2 0 _ rfl
  |succ j=>
   have a:r[j]?=some x:=(by simpa using hj);have:=Im h4 (by intro e;subst e;simp at a) j x a
   rwa [show o+(0+1)+j=o+(j+1) by omega]at this
def L7{f:FuncId}
   (h0:∀(a:Option Addr)(c:Nat)(sep:ByteArray)(w:World),Calls P f #[.slice a 0 c,.string sep] w fun e w'=>e=.returned (.string ⟨#[]⟩)/\w'=w)
   (h:∀(bk o c:Nat)(xs:List ByteArray)(sep:ByteArray)(w:World),(∀(j:Nat) x,xs[j]?=some x->w.cell? ⟨bk,o+j,none⟩=some (.string x))->bk<w.heap.size->xs.length<=140737488355328->xs.length<=c->
     (Lib.join (xs.map (·.data.toList)) sep.data.toList).length<=140737488355328->
     Calls P f #[.slice (some ⟨bk,o,none⟩) xs.length c,.string sep] w fun e w'=>e=.returned (.string ⟨(Lib.join (xs.map (·.data.toList)) sep.data.toList).toArray⟩)/\RowKit.Below w.heap.size w w'):
   ∀dN rs,z9 dN=some rs->xy P ns f dN rs:=by
 intro dN rs hp K w vs _ p hr;unfold z9 at hp;split at hp
 .rename_i els sep;split at hp
  .rename_i xs q;simp only[zab,zag]at hp;obtain⟨⟨hn,hl⟩,rfl⟩:=hp;have:=v3 q;subst this;simp only[kG]at hr;obtain⟨v,r,rfl,hv,u,z,rfl,hu,rfl⟩:=hr;have hu:u=.string ⟨sep.toArray⟩:=by simpa[Rel,R]using hu
   subst hu;obtain⟨base,len,cap,rfl,s,g,m⟩:=cq.1 hv;by_cases d:xs=[]
   .subst d;simp at g;subst g;refine(h0 base cap _ w).mono ?_
    rintro e w' ⟨rfl,rfl⟩
    exact⟨_,K,rfl,by simp[iJ,Rel,R,Lib.join_nil],K.le_refl,fun _ _ _ _ h=>h,p,zcF _ _⟩
   .obtain⟨b,o,sz,rfl,k⟩:=m.resolve_left (by simpa using d);have hx:=Im k d;have l:(xs.map fun x=>(⟨x.toArray⟩:ByteArray)).length=len:=by simpa using g
    have i:(xs.map fun x=>(⟨x.toArray⟩:ByteArray)).map (fun x=>x.data.toList)=xs:=by
     rw[zbv];have:((fun x:ByteArray=>x.data.toList) ∘ fun x:List UInt8=>(⟨x.toArray⟩:ByteArray))=id:=by funext x;rfl
     rw[this,List.map_id]
    have t:b<w.heap.size:=by
     cases xs with
     |nil=>exact absurd rfl d
     |cons x r=>
      have h1:=p _ _ _ (hx 0 x rfl);simp only[World.cell?]at h1;cases hc:w.heap[b]? with
      |none=>rw[hc]at h1;simp at h1
      |some c=>exact(zaW.1 hc).1
    have hc:=h b o cap (xs.map fun x=>(⟨x.toArray⟩:ByteArray)) ⟨sep.toArray⟩ w (by
     intro j x hj;simp only[zaK,zac]at hj;obtain⟨y,hy,rfl⟩:=hj;exact p _ _ _ (hx j y hy)) t (by simp;omega) (by rw[l];exact s) (by rw[i];exact hl)
    rw[l,i]at hc;refine hc.mono ?_
    rintro e w' ⟨rfl,n⟩
    exact⟨_,K,rfl,by simp[iJ,Rel,R],K.le_refl,fun _ _ _ _ h=>h,p.below n,n⟩
  .simp at hp
 .simp at hp
end
end Go.Ab
namespace Go.Ab
section
variable {P:Program} {w:World}
def O0(g:Nat):Nat->Option (Array Value):=fun b=>if b=g then some z_ else none
def L8(g:Nat):O0 g g=some z_:=zan rfl
def Hb {g:Nat} (hg:P.globalNamed "internal/strconv.uint64pow10"=some g) (h:Lib.TabIs P w "internal/strconv.uint64pow10" .u64 Lib.pow10Tab):rD (O0 g) w:=by
 intro b c e;unfold O0 at e;simp only[zab,zag]at e;obtain⟨rfl,rfl⟩:=e;unfold Lib.TabIs World.var? at h;rw[hg,zbg]at h;split at h
 .rename_i cs t z hh;cases h;exact⟨t,z,hh⟩
 .cases h
def x9{x:String×DataW Unit}{r:List (String×DataW Unit)}(h:laidMet P (x::r) w):laidMet P r w:=by
 obtain⟨ps,hv,c,a⟩:=h;obtain⟨n,d⟩:=x;obtain⟨g,t,cs,fuel,p,q,_,_,_,_,e,rfl⟩:=hv;exact⟨q,e,List.Nodup.sublist (List.sublist_append_right _ _) c,fun b off hm=>a b off (zcp _ hm)⟩
def O1 {g t e:Nat} {x y:String×DataW Unit} {d:DataW Unit} (hg:P.globalNamed "internal/strconv.uint64pow10"=some g) (hty:(P.globals[g]?).map (·.type)=some t) (ht:P.underlying t=some (.array 20 e))
   (he:P.underlying e=some (.int .u64)) (hce:P.cellsOf e=1) (hct:P.cellsOf t=20) (hd:d=Lib.tabData .u64 Lib.pow10Tab) (h:laidMet P [x,y,("internal/strconv.uint64pow10",d)] w):rD (O0 g) w:=by
 subst hd;exact Hb hg (Lib.tabIs_of_head hg hty ht he hce hct (x9 (x9 h)))
end
end Go.Ab
namespace Go.Ab
open Ev
def mX(o:Nat->List PV->Option (List PV))(g:Nat):List PV->Option (List UInt8)
 |[]=>some []
 |d::r=>match o g [d]with
  |some [.str s]=>(mX o g r).map (s++·)
  |_=>none
def il(n:Nat):PV->Bool
 | .agg cs=>cs.length == n && cs.all dT
 |_=>false
def x_(gd gb:Nat)(o:Nat->List PV->Option (List PV)):List PV->Option (List PV)
 |[.agg [.aq ds,.aq bs]]=>
  if ds.all (il 4)=true/\bs.all (il 20)=true/\ds.length<4611686018427387904/\bs.length<4611686018427387904 then
   match mX o gd ds,mX o gb bs with
   |some a,some b=>if(a++b).length<=140737488355328 then some [.str (a++b)]else none
   |_,_=>none
  else none
 |_=>none
def v5{o:Nat->List PV->Option (List PV)}{g:Nat}:∀{l:List PV}{s:List UInt8},mX o g l=some s->
   ∃c:List (Nat×List PV×List PV),(∀x∈c,o x.1 x.2.1=some x.2.2)/\∀o',(∀x∈c,o' x.1 x.2.1=some x.2.2)->mX o' g l=some s
 |[],s,h=>⟨[],by simp,fun _ _=>h⟩
 |d::r,s,h=>by
  simp only[mX]at h;split at h
  .rename_i t ht;simp only[zac]at h;obtain⟨u,hu,rfl⟩:=h;obtain⟨c,h1,h2⟩:=v5 hu;refine⟨(g,[d],[.str t])::c,?_,fun o' a=>?_⟩
   .intro x hx;simp only[zau]at hx;rcases hx with rfl|hx
    .exact ht
    .exact h1 x hx
   .have e1:=a _ (List.mem_cons_self);simp only[mX,e1,h2 o' (fun x hx=>a x (zcc _ hx)),zaT]
  .cases h
def O2(gd gb:Nat):Prim:=⟨x_ gd gb,by
 intro o x r h;unfold x_ at h;split at h
 .rename_i ds bs;rw[zab]at h;obtain⟨hc,h⟩:=h;split at h
  .rename_i a b e d;obtain⟨c1,f1,f2⟩:=v5 e;obtain⟨c2,k1,k2⟩:=v5 d;refine⟨c1++c2,?_,fun o' c=>?_⟩
   .intro x hx;rcases zaz.1 hx with hx|hx
    .exact f1 x hx
    .exact k1 x hx
   .unfold x_;simp only;rw[zan hc,f2 o' (fun x hx=>c x (List.mem_append_left _ hx)),k2 o' (fun x hx=>c x (zcp _ hx))];exact h
  .cases h
 .cases h⟩
theorem ya{sh:Sh}:∀{cs:List PV},cs.all dT=true->cz sh (cs.map .pv)=some cs
 |[],_=>rfl
 |c::cs,h=>by
  simp only[zaQ,zah]at h;simp only[zal,cz];have hl:aY (.pv c)=true:=by cases c<;>first|rfl|simp[dT]at h
  rw[zan hl,ya h.2];rfl
def L9{cs:List PV}(h:cs.all dT=true):(cs.map AV.pv).all aY=true:=by
 rw[zaq]at*;intro x hx;rw[zat]at hx;obtain⟨c,hc,rfl⟩:=hx;have:=h c hc;cases c<;>first|rfl|simp[dT]at this
def xj{a vs:List AV}(h:vs.length=a.length):aS a 0 vs=vs:=by
 simp[aS,h]
section
variable {T E:TypeId} {B b:Nat} {w w':World}
def qC{p:Value}{bs:List Value}(h:Lib.BuilderAt T E B b p bs w)(hw:∀k,k<w.heap.size->w'.heap[k]?=w.heap[k]?):Lib.BuilderAt T E B b p bs w':=by
 have a:=h.lt;obtain⟨h1,v,h2,h3,h4⟩:=h;refine⟨h1,v,by rw[hw b a];exact h2,⟨h3.1,?_⟩,h4⟩;rcases h3.2 with h5|⟨g,cap,c,e1,e2,e3,e4⟩
 .exact .inl h5
 .have d:g<w.heap.size:=(zaW.1 e3).1;exact .inr ⟨g,cap,c,e1,e2,by rw[hw g d];exact e3,e4⟩
def Aa{bs:List Value}(h:Lib.IsBuilder T E B b bs w)(hw:∀k,k<w.heap.size->w'.heap[k]?=w.heap[k]?):Lib.IsBuilder T E B b bs w':=
 h.imp (fun h=>qC h hw) (fun h=>qC h hw)
end
structure Wd(T E:TypeId)(B b:Nat)(acc:List UInt8)(w1 w:World):Prop where
 below:RowKit.Below B w1 w
 le:B<=w.heap.size
 isB:Lib.IsBuilder T E B b (Lib.byteCells acc) w
def MW(K:bt):Gh:={K,role:=fun _=>.fe,pm:=fun _=>none,sm:=fun _=>none,tk:=fun _=>none}
section
variable {P:Program} {ns:Names}
theorem YA{K:bt}{w:World}(a:rD ns.mP w)(hK:HW K w):Inv (num ns) (MW K) w [] [] [] where
 known:=hK
 bm:=fun _ _ _ _=>.inl rfl
 fresh:=fun _ _=>rfl
 di:=fun d c h=>by simp[look]at h
 iu:=fun d b h=>by simp[MW]at h
 dH:=fun s c h=>by simp at h
 fu:=fun s b h=>by simp[MW]at h
 dV:=fun τ n h=>by simp at h
 gF:=fun τ t h=>by simp[MW]at h
 mP:=fun b c e=>⟨rfl,a b c e⟩
def R8{K:bt}{w w':World}{G':Gh}(h:bY (MW K) w G' w'):∀k,k<w.heap.size->w'.heap[k]?=w.heap[k]?:=fun k a=>(h.fe k a rfl).2
def L_{K:bt}{w w':World}{G':Gh}(h:bY (MW K) w G' w'){B:Nat}(b:B<=w.heap.size):RowKit.Below B w w':=
 ⟨h.os,h.tape,h.output,h.size,fun k a=>(h.fe k (zb5 a b) rfl).2⟩
def Wd.wQ{T E:TypeId}{B b:Nat}{acc:List UInt8}{w1 w w':World}{K:bt}{G':Gh}(h:Wd T E B b acc w1 w)(a:bY (MW K) w G' w'):Wd T E B b acc w1 w':=
 ⟨h.below.trans (L_ a h.le),za9 h.le a.size,Aa h.isB (R8 a)⟩
def iL{n:Nat}{ops:Array Oper}{Q:Exit->Act->World->Prop}{rest:List Oper}{o:Oper}{a:Act}{w w':World}{v:Value}(hd:∀c,o.op≠.defer c)(b:o.guard=none)
   (hr:(execOp a.eval o).run P w=.ok (.value v) w') (h:wpListIn Fence.wide n P ops Q rest (a.put o.dst v) w'):wpListIn Fence.wide n P ops Q (o::rest) a w:=by
 unfold wpListIn;have hw:Region.wanted o (yielded ops a.tmps)=true:=by simp[Region.wanted,b]
 rw[zan hw];refine t8 (ro:=none) hd ?_;unfold Oper.wp;rw[hr];exact h
def O3{o:Oper}{E:Operand->Value}{T:TypeId}(h:o.op=.alloc T):execOp E o=(do let v <-Instr.alloc T true (.tuple #[]);pure (Next.value v):Sem Next):=by
 obtain⟨dst,op,type,pos,after,guard⟩:=o;simp only at h;subst h;rfl
def Wb{o:Oper}{E:Operand->Value}{T:TypeId}{x:Operand}(h:o.op=.box T x):execOp E o=(do let v <-Instr.box T (E x);pure (Next.value v):Sem Next):=by
 obtain⟨dst,op,type,pos,after,guard⟩:=o;simp only at h;subst h;rfl
def C2{o:Oper}{E:Operand->Value}{T:TypeId}{x:Operand}{i:Nat}(h:o.op=.fieldAddr T x i):execOp E o=(do let v <-Instr.fieldAt T (E x) i;pure (Next.value v):Sem Next):=by
 obtain⟨dst,op,type,pos,after,guard⟩:=o;simp only at h;subst h;rfl
def Io{o:Oper}{E:Operand->Value}{T:TypeId}{x:Operand}(h:o.op=.load T x):execOp E o=(do let v <-Instr.loadAt T (E x);pure (Next.value v):Sem Next):=by
 obtain⟨dst,op,type,pos,after,guard⟩:=o;simp only at h;subst h;rfl
def jJ{n0:Nat}{ro:Option Nat}{n:Nat}(g:fy P ns){orc:eY}(d:iD P ns orc){A:lG}{N:Nat}{ops:Array Oper}{Q:Exit->Act->World->Prop}{l:List Oper}{as:List dM}{st c:St}{G:Gh}{a:Act}{w:World}
   (hc:cg (cA P ns A N ops) l=some as) (hs:iv (num ns) n0 N G st a w) (e:bC orc as st=some c)
   (f:∀G' b w',iv (num ns) n0 N G' c b w'->bY G w G' w'->b.defers=a.defers->(∀t,(∀h∈as,h.dst≠some t)->b.tmps[t]?=a.tmps[t]?)->Q .normal b w'):wpListIn (wR ro) n P ops Q l a w:=by
 have:=j_ (ro:=ro) (n:=n) (rest:=[]) (Q:=Q) g d hc hs e (fun G' b w' h1 h2 h3 h4=>by unfold wpListIn;exact f G' b w' h1 h2 h3 h4)
 rwa [zax]at this
def yc{n:Nat}{ops:Array Oper}{Q:Exit->Act->World->Prop}{rest:List Oper}{o:Oper}{f:FuncId}{args:Array Operand}{types:Array TypeId}{a:Act}{w:World}(hop:o.op=.call {callee:=.value (.func f),args,argTypes:=types})(hg:o.guard=none)
   (hb:∃fn b,P.funcs[f]?=some fn∧fn.body=some b∧fn.name ≠ "runtime.NumGoroutine")
   (h:Calls P f (args.map a.eval) w fun e w'=>∃v,e=.returned v/\wpListIn Fence.wide n P ops Q rest (a.put o.dst v) w'):wpListIn Fence.wide n P ops Q (o::rest) a w:=by
 unfold wpListIn;have hw:Region.wanted o (yielded ops a.tmps)=true:=by simp[Region.wanted,hg]
 rw[zan hw];refine t8 (ro:=none) (by intro c e;rw[hop]at e;cases e) ?_;obtain⟨fn,b,h1,h2,h3⟩:=hb
 have hr:(execOp a.eval o).run P w=.ok (.enter f (args.map a.eval)) w:=by
  obtain⟨dst,op,type,pos,after,guard⟩:=o;simp only at hop;subst hop;simp[execOp,resolve,Act.eval,Deferred.ofValue,invoke,callFunc,h1,h2,h3]
 unfold Oper.wp;rw[hr];refine Calls.mono h ?_
 rintro e w' ⟨v,rfl,h⟩
 exact h
structure uh(P:Program)(ns:Names)(f gd gb:Nat) where
 fn:Func
 A:lG
 T:TypeId
 E:TypeId
 Tp:TypeId
 fw:Nat
 fs:Nat
 t1:Array TypeId
 t2:Array TypeId
 t3:Array TypeId
 tf:TypeId
 f0:Nat
 f1:Nat
 fd0:Field
 fd1:Field
 s0:Nat
 s1:Nat
 td:TypeId
 tb:TypeId
 bx:Oper
 rs:Oper
 al:Oper
 fa:Oper
 ld:Oper
 r2:List Oper
 o3:Array Oper
 o4:Array Oper
 l5:List Oper
 w5:Oper
 o6:Array Oper
 R9:Oper
 R_:Oper
 r7:List Oper
 o8:Array Oper
 o9:Array Oper
 l10:List Oper
 Wc:Oper
 YB:Array Oper
 st:Oper
 fi:Oper
 i0:Nat
 i1:Nat
 i2:Nat
 i3:Nat
 i4:Nat
 i5:Nat
 i6:Nat
 i7:Nat
 i8:Nat
 i9:Nat
 Ip:Nat
 i11:Nat
 i12:Nat
 b0:Nat
 b1:Nat
 b2:Nat
 b3:Nat
 hf:P.funcs[f]?=some fn
 qz:fn.body=some (.seq (.region i0 #[bx,rs] false) (.seq (.region i1 #[al] false) (.seq (.seq (.region i2 (fa::ld::r2).toArray false) (.block b0 (.loop (.seq (.region i3 o3 false) (.seq (.cond (.tmp 12) .skip (.exit b0)) (.seq (.block b1 (.seq (.region i4 o4 false) (.region i5 (l5++[w5]).toArray false))) (.region i6 o6 false)))))))
   (.seq (.seq (.region i7 (R9::R_::r7).toArray false) (.block b2 (.loop (.seq (.region i8 o8 false) (.seq (.cond (.tmp 23) .skip (.exit b2)) (.seq (.block b3 (.seq (.region i9 o9 false) (.region Ip (l10++[Wc]).toArray false))) (.region i11 YB false))))))) (.seq (.region i12 #[st,fi] false) .ret)))))
 jk:fn.results=#[.tmp 2]
 hN:fn.ntmps=31
 YC:bx.op=.box Tp (.tmp 0)/\bx.dst=some 1/\bx.guard=none
 VY:rs.op=.assign (.const (.string ⟨#[]⟩))/\rs.dst=some 2/\rs.guard=none
 v7:al.op=.alloc T/\al.dst=some 3/\al.guard=none
 hz:(P.info? T).bind (·.zero)=some (.agg #[.pointer none,.slice none 0 0])
 XE:fa.op=.fieldAddr tf (.tmp 1) f0/\fa.dst=some 8/\fa.guard=none
 hfd:gJ P tf f0=some fd0/\fd0.offset=0/\cT P fd0.type=some s0/\s0≠0
 XF:ld.op=.load td (.tmp 8)/\ld.dst=some 9/\ld.guard=none
 htd:cT P td=some 1/\iC P td=some false
 c2:cg (cA P ns A 31 (fa::ld::r2).toArray) r2=some [⟨some 10,none,[.t 9],.v .len⟩,⟨some 11,none,[.c (.pv (.int .i64 0))],.v .mv⟩]
 L':R9.op=.fieldAddr tf (.tmp 1) f1/\R9.dst=some 19/\R9.guard=none
 YD:gJ P tf f1=some fd1/\fd1.offset=1/\cT P fd1.type=some s1/\s1≠0
 Ma:R_.op=.load tb (.tmp 19)/\R_.dst=some 20/\R_.guard=none
 XA:cT P tb=some 1/\iC P tb=some false
 c7:cg (cA P ns A 31 (R9::R_::r7).toArray) r7=some [⟨some 21,none,[.t 20],.v .len⟩,⟨some 22,none,[.c (.pv (.int .i64 0))],.v .mv⟩]
 c3:cg (cA P ns A 31 o3) o3.toList=some [⟨some 12,none,[.t 11,.t 10],.v (.bin .lss)⟩]
 c4:cg (cA P ns A 31 o4) o4.toList=some [⟨some 13,none,[.t 9,.t 11],.v (.eK 4)⟩,⟨some 14,none,[.t 13],.v (.gj 4 true)⟩,⟨some 5,none,[],.alloc 5 [.int .i64 0,.str [],.aq [],.aq []]⟩,⟨none,none,[.t 5,.t 14],.bH 5 0 4⟩]
 c5:cg (cA P ns A 31 (l5++[w5]).toArray) l5=some [⟨some 15,none,[.t 5],.cr 5 0 4 true⟩,⟨some 16,none,[.t 15],.aE gd⟩]
 c6:cg (cA P ns A 31 o6) o6.toList=some [⟨some 18,none,[.t 11,.c (.pv (.int .i64 1))],.v (.bin .add)⟩,⟨some 11,none,[.t 18],.v .mv⟩]
 XG:w5.op=.call {callee:=.value (.func fw),args:=#[.tmp 3,.tmp 16],argTypes:=t1}/\w5.dst=some 17/\w5.guard=none
 c8:cg (cA P ns A 31 o8) o8.toList=some [⟨some 23,none,[.t 22,.t 21],.v (.bin .lss)⟩]
 c9:cg (cA P ns A 31 o9) o9.toList=some [⟨some 24,none,[.t 20,.t 22],.v (.eK 20)⟩,⟨some 25,none,[.t 24],.v (.gj 20 true)⟩,⟨some 7,none,[],.alloc 7 [.int .i64 0,.bool false,.str [],.bool false,.int .i64 0,.str [],.int .i64 0,.int .i64 0,.aq [],.int .i64 0,.int .i64 0,.str [],.int .i64 0,.aq [],.aq [],.int .i64 0,.str [],.int .i64 0,.int .i64 0,.aq []]⟩,⟨none,none,[.t 7,.t 25],.bH 7 0 20⟩]
 c10:cg (cA P ns A 31 (l10++[Wc]).toArray) l10=some [⟨some 26,none,[.t 7],.cr 7 0 20 true⟩,⟨some 27,none,[.t 26],.aE gb⟩]
 c11:cg (cA P ns A 31 YB) YB.toList=some [⟨some 29,none,[.t 22,.c (.pv (.int .i64 1))],.v (.bin .add)⟩,⟨some 22,none,[.t 29],.v .mv⟩]
 YE:Wc.op=.call {callee:=.value (.func fw),args:=#[.tmp 3,.tmp 27],argTypes:=t2}/\Wc.dst=some 28/\Wc.guard=none
 t7:st.op=.call {callee:=.value (.func fs),args:=#[.tmp 3],argTypes:=t3}/\st.dst=some 30/\st.guard=none
 Xz:fi.op=.assign (.tmp 30)/\fi.dst=some 2/\fi.guard=none
 hfw:∃fn b,P.funcs[fw]?=some fn∧fn.body=some b∧fn.name ≠ "runtime.NumGoroutine"
 YF:∃fn b,P.funcs[fs]?=some fn∧fn.body=some b∧fn.name ≠ "runtime.NumGoroutine"
 Mb:∃f,ns.of f=some gd
 hgb:∃f,ns.of f=some gb
 write:∀(B b:Nat)(bs:List Value)(s:ByteArray)(w:World),Lib.IsBuilder T E B b bs w->bs.length+s.size<=140737488355328->B<=w.heap.size->
   Calls P fw #[.pointer (some ⟨b,0,none⟩),.string s] w fun e w'=>e=.returned (.tuple #[.int .i64 s.size,.nilIface])/\(Lib.BuilderAt T E B b (.pointer (some ⟨b,0,none⟩)) (bs++Lib.strCells s) w'/\RowKit.Below B w w')
 read:∀(B b:Nat)(l:List UInt8)(w:World),Lib.IsBuilder T E B b (Lib.byteCells l) w->B<=w.heap.size->
   Calls P fs #[.pointer (some ⟨b,0,none⟩)] w fun e w'=>e=.returned (.string ⟨l.toArray⟩)/\RowKit.Below B w w'
def Mc{o:Nat->List PV->Option (List PV)}{g:Nat}{l:List PV}{i:Nat}{el:PV}{s:List UInt8}(hi:l[i]?=some el)(h:mX o g (l.drop i)=some s):
   ∃t u,o g [el]=some [.str t]/\mX o g (l.drop (i+1))=some u/\s=t++u:=by
 have a:=(zaa.1 hi).1
 have e:l.drop i=el::l.drop (i+1):=by
  rw[zdg a];congr 1;exact(zaa.1 hi).2
 rw[e]at h;simp only[mX]at h;split at h
 .rename_i t ht;simp only[zac]at h;obtain⟨u,hu,rfl⟩:=h;exact⟨t,u,ht,hu,rfl⟩
 .cases h
def yd{K:bt}{a:Act}{w:World}{env:List (Nat×AV)}(b:rD ns.mP w)(hK:HW K w)(hs:a.tmps.size=31)(hd:a.defers=[])(c:∀t x,look env t=some x->∃v,a.tmps[t]?=some v/\aD (num ns) (MW K) x v):
   iv (num ns) 0 31 (MW K) {env,mem:=[],sh:=[],aa:=[]} a w:=
 ⟨⟨hs,c⟩,YA b hK,zby _,[],by simpa using hd,by simp,by simp⟩
def oA{P:Program}{o:Oper}{op:Op}(h:o.op=op)(hn:∀c,op≠.defer c):∀c,o.op≠.defer c:=fun c=>by rw[h];exact hn c
structure T9(m:Nat)(K:bt)(ds:List PV)(b b1 i:Nat)(a:Act):Prop where
 size:a.tmps.size=31
 defers:a.defers=[]
 p1:a.tmps[1]?=some (.pointer (some ⟨b1,0,none⟩))
 p3:a.tmps[3]?=some (.pointer (some ⟨b,0,none⟩))
 l:∃v,a.tmps[m+9]?=some v/\Rel K (.aq ds) v
 n:a.tmps[m+10]?=some (.int .i64 ds.length)
 i:a.tmps[m+11]?=some (.int .i64 i)
def T_{orc:eY}{m:Nat}{i n:Int}:bC orc [⟨some (m+12),none,[.t (m+11),.t (m+10)],.v (.bin .lss)⟩] {env:=[(m+11,.pv (.int .i64 i)),(m+10,.pv (.int .i64 n))],mem:=[],sh:=[],aa:=[]}=
   some {env:=[(m+11,.pv (.int .i64 i)),(m+10,.pv (.int .i64 n)),(m+12,.pv (.bool (decide (i<n))))],mem:=[],sh:=[],aa:=[]}:=by
 simp
def YG{orc:eY}{m z ad:Nat}(had:4<ad/\ad<9){a:List PV}(b:a.length=z){ds:List PV}{i:Nat}{cs:List PV}(hi:ds[i]?=some (.agg cs))(hl:cs.length=z)(hc:cs.all dT=true):
   bC orc [⟨some (m+13),none,[.t (m+9),.t (m+11)],.v (.eK z)⟩,⟨some (m+14),none,[.t (m+13)],.v (.gj z true)⟩,⟨some ad,none,[],.alloc ad a⟩,⟨none,none,[.t ad,.t (m+14)],.bH ad 0 z⟩] {env:=[(m+9,.pv (.aq ds)),(m+11,.pv (.int .i64 i))],mem:=[],sh:=[],aa:=[]}=
   some {env:=[(m+9,.pv (.aq ds)),(m+11,.pv (.int .i64 i)),(m+13,.h_ cs),(m+14,.pv (.agg cs)),(ad,.au ad 0)],mem:=[(ad,cs.map .pv)],sh:=[],aa:=[]}:=by
 have c:¬((i:Int)<0):=by omega
 have f:m+9≠ad:=by omega
 have n2:m+11≠ad:=by omega
 have e:m+13≠ad:=by omega
 have d:m+14≠ad:=by omega
 have k:=f.symm;have j:=n2.symm;have h:=e.symm;have g:=d.symm;have h1:(List.map AV.pv cs).all aY=true:=L9 hc;have h2:cs.take z=cs:=by rw[<-hl];exact zbo
 have h4:z<=cs.length:=by omega
 have h3:∀a:List AV,a.length=z->aS a 0 (cs.map .pv)=cs.map .pv:=fun a hz=>xj (by simp[hl,hz]);simp[-getElem?_pos,-List.all_map,-List.all_eq_true,-aU,hi,c,hl,h2,h3,h1,h4,b,f,n2,e,d,k,j,h,g]
def YH{orc:eY}{m z ad:Nat}{cs:List PV}{g:Nat}{s:List UInt8}{env:List (Nat×AV)}(c:look env ad=some (.au ad 0))(hl:cs.length=z)(hc:cs.all dT=true)(b:orc.p g [.agg cs]=some [.str s]):
   ∃a,bC orc [⟨some (m+15),none,[.t ad],.cr ad 0 z true⟩,⟨some (m+16),none,[.t (m+15)],.aE g⟩] {env,mem:=[(ad,cs.map .pv)],sh:=[],aa:=[]}=some {env:=a,mem:=[(ad,cs.map .pv)],sh:=[],aa:=[]}/\look a (m+16)=some (.pv (.str s)):=by
 have h1:cz [] (cs.map .pv)=some cs:=ya hc;have h2:(cs.map AV.pv).take z=cs.map .pv:=by rw[<-hl];simpa using zbo (l:=cs.map AV.pv)
 have h4:z<=cs.length:=by omega
 refine⟨dF (dF env (m+15) (.agg (cs.map .pv))) (m+16) (.pv (.str s)),?_,by rw[bN]⟩;have h5:look (dF env (m+15) (.agg (cs.map .pv))) (m+15)=some (.agg (cs.map .pv)):=bN _ _ _;simp[-getElem?_pos,c,h1,h2,h4,h5,b]
def YI{orc:eY}{m:Nat}{i:Nat}(h:i<4611686018427387904):bC orc [⟨some (m+18),none,[.t (m+11),.c (.pv (.int .i64 1))],.v (.bin .add)⟩,⟨some (m+11),none,[.t (m+18)],.v .mv⟩] {env:=[(m+11,.pv (.int .i64 i))],mem:=[],sh:=[],aa:=[]}=
   some {env:=[(m+11,.pv (.int .i64 ((i:Int)+1))),(m+18,.pv (.int .i64 ((i:Int)+1)))],mem:=[],sh:=[],aa:=[]}:=by
 simp (disch:=omega) [ae]
def Iq{orc:eY}(hB:fy P ns)(o:iD P ns orc){f gd gb:Nat}(D:uh P ns f gd gb){m z ad g i3 i4 i5 i6 p0 p1:Nat}(had:4<ad/\ad<9){zs:List PV}(ay:zs.length=z){o3 o4 o6:Array Oper}{l5:List Oper}{w5:Oper}{tt:Array TypeId}
   (c3:cg (cA P ns D.A 31 o3) o3.toList=some [⟨some (m+12),none,[.t (m+11),.t (m+10)],.v (.bin .lss)⟩])
   (c4:cg (cA P ns D.A 31 o4) o4.toList=some [⟨some (m+13),none,[.t (m+9),.t (m+11)],.v (.eK z)⟩,⟨some (m+14),none,[.t (m+13)],.v (.gj z true)⟩,⟨some ad,none,[],.alloc ad zs⟩,⟨none,none,[.t ad,.t (m+14)],.bH ad 0 z⟩])
   (c5:cg (cA P ns D.A 31 (l5++[w5]).toArray) l5=some [⟨some (m+15),none,[.t ad],.cr ad 0 z true⟩,⟨some (m+16),none,[.t (m+15)],.aE g⟩])
   (c6:cg (cA P ns D.A 31 o6) o6.toList=some [⟨some (m+18),none,[.t (m+11),.c (.pv (.int .i64 1))],.v (.bin .add)⟩,⟨some (m+11),none,[.t (m+18)],.v .mv⟩])
   (XG:w5.op=.call {callee:=.value (.func D.fw),args:=#[.tmp 3,.tmp (m+16)],argTypes:=tt}/\w5.dst=some (m+17)/\w5.guard=none) {K:bt} {w0 w1:World} {ds:List PV} {b1 b B:Nat} (ac:rD ns.mP w0) (hK:HW K w0) (ao:RowKit.Below w0.heap.size w0 w1) (an:w0.heap.size<=B)
   (bi:ds.all (il z)=true) (cc:ds.length<4611686018427387904) {Q:Exit->Act->World->Prop} {all:List UInt8} (ce:all.length<=140737488355328):
   ∀(j i:Nat)(a:Act)(w:World)(acc rest:List UInt8),ds.length-i=j->i<=ds.length->T9 m K ds b b1 i a->Wd D.T D.E B b acc w1 w->mX orc.p g (ds.drop i)=some rest->(∃q,all=acc++rest++q)->
     (∀a' w',T9 m K ds b b1 ds.length a'->Wd D.T D.E B b (acc++rest) w1 w'->Q .normal a' w')->
     Code.roundsIn Fence.wide 0 P (.seq (.region i3 o3 false) (.seq (.cond (.tmp (m+12)) .skip (.exit p0)) (.seq (.block p1 (.seq (.region i4 o4 false) (.region i5 (l5++[w5]).toArray false))) (.region i6 o6 false)))) (Exit.inBlock p0 Q) (j+1) a w:=by
 have n1:m+9≠ad:=by omega
 have n2:m+11≠ad:=by omega
 have n3:m+13≠ad:=by omega
 have n4:m+14≠ad:=by omega
 have l8:∀{acc:List UInt8}{w:World},Wd D.T D.E B b acc w1 w->HW K w:=fun J=>hK.below (ao.trans (J.below.mono an));have C:∀{acc:List UInt8}{w:World},Wd D.T D.E B b acc w1 w->rD ns.mP w:=fun J=>ac.below (ao.trans (J.below.mono an))
 have dm:∀{G:Gh}{i:Int},aD (num ns) G (.pv (.int .i64 i)) (.int .i64 i):=by intros;simp[aD,Rel,R]
 intro j;induction j with
 |zero=>
  intro i a w acc rest hj hi k J hr hq hQ;rw[roundsIn_succ];refine zbF (za8 ?_)
  have hs:=yd (ns:=ns) (env:=[(m+11,.pv (.int .i64 i)),(m+10,.pv (.int .i64 ds.length))]) (C J) (l8 J) k.size k.defers (by
   intro t x hx;simp only[look]at hx;split at hx
   .rename_i e;subst e;cases hx;exact⟨_,k.i,dm⟩
   .split at hx
    .rename_i e;subst e;cases hx;exact⟨_,k.n,dm⟩
    .cases hx)
  refine jJ (ro:=none) hB o c3 hs T_ fun G1 O W1 F W nv d=>?_
  change (Code.seq (.cond (.tmp (m+12)) .skip (.exit p0)) _).wpIn Fence.wide 0 P _ O W1
  obtain⟨v8,h8,r8⟩:=F.env.env (m+12) (.pv (.bool (decide ((i:Int)<ds.length)))) (by simp[look]);simp[aD,Rel,R]at r8;have b9:i=ds.length:=by omega
  subst b9;have hc:O.eval (.tmp (m+12))=.bool false:=by simp[Act.eval,h8,r8]
  refine zbF (wpIn_cond_false hc (wpIn_exit ?_));simp only[Exit.then,Exit.inBlock,zbc];have S:rest=[]:=by rw[zaO]at hr;simp[mX]at hr;exact hr
  subst S;refine hQ O W1 ⟨F.env.size,nv.trans k.defers,?_,?_,?_,?_,?_⟩ (by rw[zax];exact J.wQ W)
  .rw[d 1 (by simp<;>omega)];exact k.p1
  .rw[d 3 (by simp<;>omega)];exact k.p3
  .rw[d (m+9) (by simp<;>omega)];exact k.l
  .rw[d (m+10) (by simp<;>omega)];exact k.n
  .rw[d (m+11) (by simp<;>omega)];exact k.i
 |succ j ih=>
  intro i a w acc rest hj hi k J hr hq hQ;have b7:i<ds.length:=by omega
  obtain⟨el,V⟩:∃el,ds[i]?=some el:=⟨ds[i],zbe b7⟩;have U:=zaq.1 bi el (zcN V);cases el with
  |agg cs=>
   simp only[il,zah,zcH]at U;obtain⟨am,ak⟩:=U;obtain⟨s,u,ab,hu,rfl⟩:=Mc V hr;rw[roundsIn_succ];refine zbF (za8 ?_)
   have hs:=yd (ns:=ns) (env:=[(m+11,.pv (.int .i64 i)),(m+10,.pv (.int .i64 ds.length))]) (C J) (l8 J) k.size k.defers (by
    intro t x hx;simp only[look]at hx;split at hx
    .rename_i e;subst e;cases hx;exact⟨_,k.i,dm⟩
    .split at hx
     .rename_i e;subst e;cases hx;exact⟨_,k.n,dm⟩
     .cases hx)
   refine jJ (ro:=none) hB o c3 hs T_ fun G1 O W1 F W nv d=>?_
   change (Code.seq (.cond (.tmp (m+12)) .skip (.exit p0)) _).wpIn Fence.wide 0 P _ O W1
   obtain⟨v8,h8,r8⟩:=F.env.env (m+12) (.pv (.bool (decide ((i:Int)<ds.length)))) (by simp[look]);simp[aD,Rel,R]at r8;have hc:O.eval (.tmp (m+12))=.bool true:=by simp[Act.eval,h8,r8];omega
   have h:T9 m K ds b b1 i O:=by
    refine⟨F.env.size,nv.trans k.defers,?_,?_,?_,?_,?_⟩
    .rw[d 1 (by simp<;>omega)];exact k.p1
    .rw[d 3 (by simp<;>omega)];exact k.p3
    .rw[d (m+9) (by simp<;>omega)];exact k.l
    .rw[d (m+10) (by simp<;>omega)];exact k.n
    .rw[d (m+11) (by simp<;>omega)];exact k.i
   have Z:=J.wQ W;refine zbF (wpIn_cond_true hc (wpIn_skip ?_))
   change (Code.seq (.block p1 _) _).wpIn Fence.wide 0 P _ O W1
   refine zbF (wpIn_block (zbF (za8 ?_)));obtain⟨vl,b4,ax⟩:=h.l
   have b6:=yd (ns:=ns) (env:=[(m+9,.pv (.aq ds)),(m+11,.pv (.int .i64 i))]) (C Z) (l8 Z) h.size h.defers (by
    intro t x hx;simp only[look]at hx;split at hx
    .rename_i e;subst e;cases hx;exact⟨_,b4,by simp only[aD];exact ax⟩
    .split at hx
     .rename_i e;subst e;cases hx;exact⟨_,h.i,dm⟩
     .cases hx)
   refine jJ (ro:=none) hB o c4 b6 (YG had ay V am ak) fun G2 a2 W2 a9 be xE I=>?_
   change (Code.region i5 (l5++[w5]).toArray false).wpIn Fence.wide 0 P _ a2 W2
   refine za8 ?_;obtain⟨ci,ai,b8⟩:=YH (orc:=orc) (env:=[(m+9,.pv (.aq ds)),(m+11,.pv (.int .i64 i)),(m+13,.h_ cs),(m+14,.pv (.agg cs)),(ad,.au ad 0)]) (m:=m) (ad:=ad) (by simp[look,n1,n2,n3,n4]) am ak ab;refine j_ (ro:=none) (rest:=[w5]) hB o c5 a9 ai fun G3 a3 W3 a8 bc C3 H=>?_;have aj:=be.trans bc
   have M:=Z.wQ aj;obtain⟨vs,aO,a0⟩:=a8.env.env (m+16) _ b8;simp[aD,Rel,R]at a0;subst a0
   have y:T9 m K ds b b1 i a3:=by
    refine⟨a8.env.size,(C3.trans xE).trans h.defers,?_,?_,?_,?_,?_⟩
    .rw[H 1 (by simp<;>omega),I 1 (by simp<;>omega)];exact h.p1
    .rw[H 3 (by simp<;>omega),I 3 (by simp<;>omega)];exact h.p3
    .rw[H (m+9) (by simp<;>omega),I (m+9) (by simp<;>omega)];exact h.l
    .rw[H (m+10) (by simp<;>omega),I (m+10) (by simp<;>omega)];exact h.n
    .rw[H (m+11) (by simp<;>omega),I (m+11) (by simp<;>omega)];exact h.i
   refine yc XG.1 XG.2.2 D.hfw ?_;have X:(#[.tmp 3,.tmp (m+16)]:Array Operand).map a3.eval=#[.pointer (some ⟨b,0,none⟩),.string ⟨s.toArray⟩]:=by simp[Act.eval,y.p3,aO]
   rw[X];obtain⟨q,hq⟩:=hq
   have a4:(Lib.byteCells acc).length+(⟨s.toArray⟩:ByteArray).size<=140737488355328:=by
    have:=zbm List.length hq;simp at this;simp only[Lib.byteCells_length];show acc.length+s.toArray.size<=_;simp;omega
   refine (D.write B b (Lib.byteCells acc) ⟨s.toArray⟩ W3 M.isB a4 M.le).mono ?_
   rintro e w4 ⟨rfl,cb,N⟩
   refine⟨_,rfl,?_⟩;have Y:Wd D.T D.E B b (acc++s) w1 w4:=⟨M.below.trans N,za9 M.le N.size,.inr (by rw[Lib.byteCells_append];exact cb)⟩
   have r:T9 m K ds b b1 i (a3.put w5.dst (.tuple #[.int .i64 (⟨s.toArray⟩:ByteArray).size,.nilIface])):=by
    rw[XG.2.1];refine⟨by simp[Act.put,y.size],y.defers,?_,?_,?_,?_,?_⟩;all_goals simp only[Act.put];rw[za1 (by omega)]
    .exact y.p1
    .exact y.p3
    .exact y.l
    .exact y.n
    .exact y.i
   change (Code.region i6 o6 false).wpIn Fence.wide 0 P _ _ w4
   refine za8 ?_
   have b5:=yd (ns:=ns) (env:=[(m+11,.pv (.int .i64 i))]) (C Y) (l8 Y) r.size r.defers (by
    intro t x hx;simp only[look]at hx;split at hx
    .rename_i e;subst e;cases hx;exact⟨_,r.i,dm⟩
    .cases hx)
   refine jJ (ro:=none) hB o c6 b5 (YI (by omega)) fun G6 a6 W6 a7 bb bv L=>?_;obtain⟨v6,h6,r6⟩:=a7.env.env (m+11) (.pv (.int .i64 ((i:Int)+1))) (by simp[look]);simp[aD,Rel,R]at r6
   have ba:T9 m K ds b b1 (i+1) a6:=by
    refine⟨a7.env.size,bv.trans r.defers,?_,?_,?_,?_,?_⟩
    .rw[L 1 (by simp<;>omega)];exact r.p1
    .rw[L 3 (by simp<;>omega)];exact r.p3
    .rw[L (m+9) (by simp<;>omega)];exact r.l
    .rw[L (m+10) (by simp<;>omega)];exact r.n
    .rw[h6,r6];simp
   refine ih (i+1) a6 W6 (acc++s) u (by omega) (by omega) ba (Y.wQ bb) hu ⟨q,by rw[hq];simp⟩ ?_;intro a' w' h1 h2;exact hQ a' w' h1 (by rw[<-zaP];exact h2)
  |_=>simp[il]at U
def O4{orc:eY}{a tn b:Nat}{ds:List PV}(h:tn≠a)(h1:b≠tn)(h2:b≠a):bC orc [⟨some tn,none,[.t a],.v .len⟩,⟨some b,none,[.c (.pv (.int .i64 0))],.v .mv⟩] {env:=[(a,.pv (.aq ds))],mem:=[],sh:=[],aa:=[]}=
   some {env:=[(a,.pv (.aq ds)),(tn,.pv (.int .i64 ds.length)),(b,.pv (.int .i64 0))],mem:=[],sh:=[],aa:=[]}:=by
 have h':a≠tn:=zb4 h;have e:tn≠b:=zb4 h1;have d:a≠b:=zb4 h2;simp[h,h1,h2,h',e,d]
def step1{orc:eY}(hB:fy P ns)(d:iD P ns orc){f gd gb:Nat}(D:uh P ns f gd gb){K:bt}{a w1:World}{ds bs:List PV}{vd vb:Value}{J tb:List UInt8}(k:rD ns.mP a)(hK:HW K a)
   (dg:w1.heap.size=a.heap.size+1) (b7:w1.heap[a.heap.size]?=some (.cells #[vd,vb] D.Tp (0,0))) (s:RowKit.Below a.heap.size a w1)
   (nv:ds.all (il 4)=true) (xE:bs.all (il 20)=true) (C3:ds.length<4611686018427387904) (co:bs.length<4611686018427387904) (F:(J++tb).length<=140737488355328)
   (bb:R K false (.aq ds) [vd]) (bc:R K false (.aq bs) [vb]) (ha:mX orc.p gd ds=some J) (hb:mX orc.p gb bs=some tb) {a1:Act}
   (s1:a1.tmps.size=31/\a1.defers=[]/\a1.tmps[1]?=some (.pointer (some ⟨a.heap.size,0,none⟩))):
   (Code.seq (.region D.i1 #[D.al] false) (.seq (.seq (.region D.i2 (D.fa::D.ld::D.r2).toArray false) (.block D.b0 (.loop (.seq (.region D.i3 D.o3 false) (.seq (.cond (.tmp 12) .skip (.exit D.b0)) (.seq (.block D.b1 (.seq (.region D.i4 D.o4 false) (.region D.i5 (D.l5++[D.w5]).toArray false))) (.region D.i6 D.o6 false)))))))
     (.seq (.seq (.region D.i7 (D.R9::D.R_::D.r7).toArray false) (.block D.b2 (.loop (.seq (.region D.i8 D.o8 false) (.seq (.cond (.tmp 23) .skip (.exit D.b2)) (.seq (.block D.b3 (.seq (.region D.i9 D.o9 false) (.region D.Ip (D.l10++[D.Wc]).toArray false))) (.region D.i11 D.YB false))))))) (.seq (.region D.i12 #[D.st,D.fi] false) .ret)))).wpIn Fence.wide 0 P
     (bodyPost P D.fn fun e w'=>∃v K',e=.returned v/\iJ K' [.str (J++tb)] v/\K.le K'/\(∀b o u,b<a.heap.size->K' b o=some u->K b o=some u)/\HW K' w'/\RowKit.Below a.heap.size a w') a1 w1:=by
 have hF:∀f,Fence.wide.fn f:=fun _=>trivial;have dm:∀{G:Gh}{i:Int},aD (num ns) G (.pv (.int .i64 i)) (.int .i64 i):=by intros;simp[aD,Rel,R]
 obtain⟨an,ba,b9⟩:=s1;refine zbF (za8 ?_);refine iL (w':=w1.alloc (.cells #[.pointer none,.slice none 0 0] D.T)) (v:=.pointer (some ⟨w1.heap.size,0,none⟩)) (oA (P:=P) D.v7.1 (by simp)) D.v7.2.2 ?_ ?_
 .have h1:=D.v7.1;have h2:=D.hz;cases hi:P.info? D.T with
  |none=>simp[hi]at h2
  |some eb=>
   simp[hi]at h2;have hz:(zeroValue D.T).run P w1=.ok (.agg #[.pointer none,.slice none 0 0]) w1:=by simp[zeroValue,typeInfo,hi,h2]
   have h3:=O3 (E:=a1.eval) D.v7.1;rw[h3];simp only[Instr.alloc,zay,hz,zam,iH,zaG];rfl
 rw[D.v7.2.1]
 change (Code.seq (.seq (.region D.i2 _ false) _) _).wpIn Fence.wide 0 P _ _ _
 have q:Wd D.T D.E w1.heap.size w1.heap.size [] w1 (w1.alloc (.cells #[.pointer none,.slice none 0 0] D.T)):=
   ⟨(zcF _ _).alloc (zas _) _,((zcF w1.heap.size w1).alloc (zas _) _).size,Lib.fresh_isBuilder D.T D.E w1⟩
 generalize w1.alloc (.cells #[.pointer none,.slice none 0 0] D.T)=w2 at q⊢
 have s2:∀g:Act,g=a1.put (some 3) (.pointer (some ⟨w1.heap.size,0,none⟩))->g.tmps.size=31/\g.defers=[]/\g.tmps[1]?=some (.pointer (some ⟨a.heap.size,0,none⟩))/\g.tmps[3]?=some (.pointer (some ⟨w1.heap.size,0,none⟩)):=by
  rintro g rfl
  refine⟨by simp[Act.put,an],ba,?_,by simp[Act.put,an]⟩;simp only[Act.put];rw[za1 (by decide)];exact b9
 obtain⟨A,am,Q,ak⟩:=s2 _ rfl;generalize a1.put (some 3) (.pointer (some ⟨w1.heap.size,0,none⟩))=g at A am Q ak⊢;have r:a.heap.size<=w1.heap.size:=by omega
 have l8:∀{acc:List UInt8}{w:World},Wd D.T D.E w1.heap.size w1.heap.size acc w1 w->HW K w:=fun hW=>hK.below (s.trans (hW.below.mono r));have B:∀{acc:List UInt8}{w:World},Wd D.T D.E w1.heap.size w1.heap.size acc w1 w->rD ns.mP w:=fun hW=>k.below (s.trans (hW.below.mono r))
 have y:∀{acc:List UInt8}{w:World},Wd D.T D.E w1.heap.size w1.heap.size acc w1 w->w.heap[a.heap.size]?=some (.cells #[vd,vb] D.Tp (0,0)):=fun hW=>(hW.below.block _ (by omega)).trans b7
 have C:aC (num ns) (MW K) [.pv (.aq ds),.pv (.aq bs)] [vd,vb]:=by
  simp only[aC,aD];exact⟨vd,[vb],rfl,bb,vb,[],rfl,bc,rfl⟩
 refine zbF (zbF (za8 ?_));have cb:(D.fa::D.ld::D.r2).toArray.toList=D.fa::D.ld::D.r2:=by simp
 rw[cb];refine iL (w':=w2) (v:=.pointer (some ⟨a.heap.size,0,none⟩)) (oA (P:=P) D.XE.1 (by simp)) D.XE.2.2 ?_ ?_
 .have h1:=D.XE.1;obtain⟨k1,k2,k3,k4⟩:=D.hfd;have h2:=iW (P:=P) (w:=w2) k1 k3 k4 a.heap.size 0;rw[k2]at h2;have h3:=C2 (E:=g.eval) D.XE.1;have h4:g.eval (.tmp 1)=.pointer (some ⟨a.heap.size,0,none⟩):=(by simp[Act.eval,Q]);rw[h3,h4];simp only[zay,h2,zam,zaG]
 rw[D.XE.2.1];obtain⟨u9,g9,r9⟩:=gf (ns:=ns) (w:=w2) (off:=0) (x:=.pv (.aq ds)) D.htd.1 D.htd.2 rfl C (gL (y q));refine iL (w':=w2) (v:=u9) (oA (P:=P) D.XF.1 (by simp)) D.XF.2.2 ?_ ?_
 .have h1:=D.XF.1;have h3:=Io (E:=(g.put (some 8) (.pointer (some ⟨a.heap.size,0,none⟩))).eval) D.XF.1;have h4:(g.put (some 8) (.pointer (some ⟨a.heap.size,0,none⟩))).eval (.tmp 8)=.pointer (some ⟨a.heap.size,0,none⟩):=(by simp[Act.eval,Act.put,A]);rw[h3,h4];simp[Instr.loadAt,Instr.sureAddr,g9]
 rw[D.XF.2.1]
 have s3:∀I:Act,I=(g.put (some 8) (.pointer (some ⟨a.heap.size,0,none⟩))).put (some 9) u9->I.tmps.size=31/\I.defers=[]/\I.tmps[1]?=some (.pointer (some ⟨a.heap.size,0,none⟩))/\I.tmps[3]?=some (.pointer (some ⟨w1.heap.size,0,none⟩))/\I.tmps[9]?=some u9:=by
  rintro I rfl
  refine⟨by simp[Act.put,A],am,?_,?_,by simp[Act.put,A]⟩;all_goals simp only[Act.put];rw[za1 (by decide),za1 (by decide)]
  .exact Q
  .exact ak
 obtain⟨aj,O,ai,ac,N⟩:=s3 _ rfl;generalize (g.put (some 8) (.pointer (some ⟨a.heap.size,0,none⟩))).put (some 9) u9=I at aj O ai ac N⊢
 have bi:=yd (ns:=ns) (env:=[(9,.pv (.aq ds))]) (B q) (l8 q) aj O (by
  intro t x hx;simp only[look]at hx;split at hx
  .rename_i e;subst e;cases hx;exact⟨_,N,r9⟩
  .cases hx)
 refine jJ (ro:=none) hB d D.c2 bi (O4 (by decide) (by decide) (by decide)) fun G4 a4 W4 U cj b6 W=>?_;obtain⟨ea,d2,b4⟩:=U.env.env 10 _ rfl;obtain⟨e7,d1,aO⟩:=U.env.env 11 _ rfl;simp[aD,Rel,R]at b4 aO
 have ce:T9 0 K ds w1.heap.size a.heap.size 0 a4:=by
  refine⟨U.env.size,b6.trans O,?_,?_,?_,?_,?_⟩
  .rw[W 1 (by simp)];exact ai
  .rw[W 3 (by simp)];exact ac
  .rw[W 9 (by simp)];exact⟨u9,N,by simpa only[aD,MW]using r9⟩
  .rw[d2,b4]
  .rw[d1,aO];simp
 change (Code.block D.b0 _).wpIn Fence.wide 0 P _ a4 W4
 refine wpIn_block (zc9 (ds.length+1) ?_);refine Iq hB d D (m:=0) (z:=4) (ad:=5) (by decide) (by rfl) D.c3 D.c4 D.c5 D.c6 D.XG k hK s r nv C3 F ds.length 0 a4 W4 [] J (by omega) (by omega) ce (q.wQ cj) ha ⟨tb,by simp⟩ fun a5 W5 c n=>?_;rw[zaE]at n
 change (Code.seq (.seq (.region D.i7 _ false) _) _).wpIn Fence.wide 0 P _ a5 W5
 refine zbF (zbF (za8 ?_));have bv:(D.R9::D.R_::D.r7).toArray.toList=D.R9::D.R_::D.r7:=by simp
 rw[bv];refine iL (w':=W5) (v:=.pointer (some ⟨a.heap.size,1,none⟩)) (oA (P:=P) D.L'.1 (by simp)) D.L'.2.2 ?_ ?_
 .have h1:=D.L'.1;obtain⟨k1,k2,k3,k4⟩:=D.YD;have h2:=iW (P:=P) (w:=W5) k1 k3 k4 a.heap.size 0;rw[k2]at h2;have h3:=C2 (E:=a5.eval) D.L'.1;have h4:a5.eval (.tmp 1)=.pointer (some ⟨a.heap.size,0,none⟩):=(by simp[Act.eval,c.p1]);rw[h3,h4];simp only[zay,h2,zam,zaG]
 rw[D.L'.2.1];obtain⟨j,g20,ay⟩:=gf (ns:=ns) (w:=W5) (off:=1) (x:=.pv (.aq bs)) D.XA.1 D.XA.2 rfl C (gL (y n));refine iL (w':=W5) (v:=j) (oA (P:=P) D.Ma.1 (by simp)) D.Ma.2.2 ?_ ?_
 .have h1:=D.Ma.1;have h3:=Io (E:=(a5.put (some 19) (.pointer (some ⟨a.heap.size,1,none⟩))).eval) D.Ma.1;have h4:(a5.put (some 19) (.pointer (some ⟨a.heap.size,1,none⟩))).eval (.tmp 19)=.pointer (some ⟨a.heap.size,1,none⟩):=(by simp[Act.eval,Act.put,c.size]);rw[h3,h4];simp[Instr.loadAt,Instr.sureAddr,g20]
 rw[D.Ma.2.1]
 have s6:∀H:Act,H=(a5.put (some 19) (.pointer (some ⟨a.heap.size,1,none⟩))).put (some 20) j->H.tmps.size=31/\H.defers=[]/\H.tmps[1]?=some (.pointer (some ⟨a.heap.size,0,none⟩))/\H.tmps[3]?=some (.pointer (some ⟨w1.heap.size,0,none⟩))/\H.tmps[20]?=some j:=by
  rintro H rfl
  refine⟨by simp[Act.put,c.size],c.defers,?_,?_,by simp[Act.put,c.size]⟩;all_goals simp only[Act.put];rw[za1 (by decide),za1 (by decide)]
  .exact c.p1
  .exact c.p3
 obtain⟨ab,M,a9,a0,L⟩:=s6 _ rfl;generalize (a5.put (some 19) (.pointer (some ⟨a.heap.size,1,none⟩))).put (some 20) j=H at ab M a9 a0 L⊢
 have be:=yd (ns:=ns) (env:=[(20,.pv (.aq bs))]) (B n) (l8 n) ab M (by
  intro t x hx;simp only[look]at hx;split at hx
  .rename_i e;subst e;cases hx;exact⟨_,L,ay⟩
  .cases hx)
 refine jJ (ro:=none) hB d D.c7 be (O4 (by decide) (by decide) (by decide)) fun G7 a7 W7 S ci b5 V=>?_;obtain⟨dA,d0,ax⟩:=S.env.env 21 _ rfl;obtain⟨du,cu,ao⟩:=S.env.env 22 _ rfl;simp[aD,Rel,R]at ax ao
 have cc:T9 11 K bs w1.heap.size a.heap.size 0 a7:=by
  refine⟨S.env.size,b5.trans M,?_,?_,?_,?_,?_⟩
  .rw[V 1 (by simp)];exact a9
  .rw[V 3 (by simp)];exact a0
  .rw[V 20 (by simp)];exact⟨j,L,by simpa only[aD,MW]using ay⟩
  .rw[d0,ax]
  .rw[cu,ao];simp
 change (Code.block D.b2 _).wpIn Fence.wide 0 P _ a7 W7
 refine wpIn_block (zc9 (bs.length+1) ?_);refine Iq hB d D (m:=11) (z:=20) (ad:=7) (by decide) (by rfl) D.c8 D.c9 D.c10 D.c11 D.YE k hK s r xE co F bs.length 0 a7 W7 J tb (by omega) (by omega) cc (n.wQ ci) hb ⟨[],by simp⟩ fun a8 W8 X Z=>?_
 change (Code.seq (.region D.i12 _ false) .ret).wpIn Fence.wide 0 P _ a8 W8
 refine zbF (za8 ?_);refine yc D.t7.1 D.t7.2.2 D.YF ?_;have Y:(#[.tmp 3]:Array Operand).map a8.eval=#[.pointer (some ⟨w1.heap.size,0,none⟩)]:=by simp[Act.eval,X.p3]
 rw[Y];refine(D.read w1.heap.size w1.heap.size (J++tb) W8 Z.isB Z.le).mono ?_
 rintro e w9 ⟨rfl,b8⟩
 refine⟨_,rfl,?_⟩;refine gY hF D.Xz.1 D.Xz.2.2 ?_;rw[D.t7.2.1,D.Xz.2.1]
 change (Code.ret).wpIn Fence.wide 0 P _ _ _
 refine wpIn_ret ?_;refine⟨X.defers,.string ⟨(J++tb).toArray⟩,?_,?_⟩
 .simp[results,D.jk,Act.put,Act.eval,X.size]
 .have l:RowKit.Below a.heap.size a w9:=s.trans ((Z.below.trans b8).mono r);exact⟨_,K,rfl,by simp[iJ,Rel,R],K.le_refl,fun _ _ _ _ h=>h,hK.below l,l⟩
def Md{orc:eY}(y:fy P ns)(k:iD P ns orc){f gd gb:Nat}(D:uh P ns f gd gb){dN rs:List PV}(h:x_ gd gb orc.p dN=some rs):xy P ns f dN rs:=by
 unfold x_ at h;split at h
 .rename_i ds bs;rw[zab]at h;obtain⟨⟨nv,xE,C3,t⟩,h⟩:=h;split at h
  .rename_i B tb x w;simp only[zab,zag]at h;obtain⟨l,rfl⟩:=h;intro K a vs j hK hr;simp only[kG]at hr;obtain⟨z,r0,rfl,s,rfl⟩:=hr;obtain⟨A,rfl,g⟩:=s;simp only[dO]at g;obtain⟨b,r1,rfl,q,c,r2,rfl,r,rfl⟩:=g;refine zc6 (n:=0).1 ?_;refine callsIn_of_wp D.hf D.qz trivial ?_ rfl;rw[D.hN];have hF:∀f,Fence.wide.fn f:=fun _=>trivial
   have dm:∀{G:Gh}{i:Int},aD (num ns) G (.pv (.int .i64 i)) (.int .i64 i):=by intros;simp[aD,Rel,R]
   refine zbF (za8 ?_);refine iL (w':=a.alloc (.cells #[b,c] D.Tp)) (v:=.pointer (some ⟨a.heap.size,0,none⟩)) (oA (P:=P) D.YC.1 (by simp)) D.YC.2.2 ?_ ?_
   .have u:Act.eval {tmps:=(#[Value.agg [b,c].toArray]:Array Value)++Array.replicate (31-(#[Value.agg [b,c].toArray]:Array Value).size) undef,defers:=[]} (.tmp 0)=.agg #[b,c]:=(by simp[Act.eval]);rw[Wb D.YC.1,u];simp only[Instr.box,zay,iH,zam,zaG];rfl
   refine gY hF D.VY.1 D.VY.2.2 ?_;rw[D.YC.2.1,D.VY.2.1];have d:(a.alloc (.cells #[b,c] D.Tp)).heap.size=a.heap.size+1:=Array.size_push _;have e:(a.alloc (.cells #[b,c] D.Tp)).heap[a.heap.size]?=some (.cells #[b,c] D.Tp (0,0)):=heap_alloc_new;have m:RowKit.Below a.heap.size a (a.alloc (.cells #[b,c] D.Tp)):=(zcF _ _).alloc (zas _) _;generalize a.alloc (.cells #[b,c] D.Tp)=w1 at d e m⊢
   change (Code.seq (.region D.i1 #[D.al] false) _).wpIn Fence.wide 0 P _ _ _
   have s1:∀(o:Act),o=((Act.put {tmps:=(#[Value.agg [b,c].toArray]:Array Value)++Array.replicate (31-(#[Value.agg [b,c].toArray]:Array Value).size) undef,defers:=[]} (some 1) (.pointer (some ⟨a.heap.size,0,none⟩))).put (some 2) (.string ⟨#[]⟩))->
       o.tmps.size=31/\o.defers=[]/\o.tmps[1]?=some (.pointer (some ⟨a.heap.size,0,none⟩)):=by
     rintro o rfl
     refine⟨by simp[Act.put],rfl,?_⟩;simp[Act.put]
   refine step1 y k D j hK d e m nv xE C3 t l q r x w (s1 _ ?_);simp[Act.eval]
  .cases h
 .cases h
end
end Go.Ab
