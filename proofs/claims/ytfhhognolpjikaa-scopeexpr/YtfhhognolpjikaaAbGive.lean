import Derived.Test.YtfhhognolpjikaaAbNorm2
/-
  Handing over to a callee and taking back.
-/
set_option linter.unusedVariables false
set_option linter.unusedSimpArgs false
set_option maxRecDepth 100000
set_option maxHeartbeats 8000000
namespace Go.Ab
section
variable {P:Program} {ns:Names} {G:Gh} {w:World}
theorem q9 {x:AV} (h:fe x=true):fc x=true:=by
 cases x with
 | own _ _=>rfl
 | _=>simpa [fc,fe] using iC (by simpa [fe] using h)
theorem iF:∀{xs:List AV},d5 xs=true→eJ xs=true
 | [],_=>rfl
 | x::xs,h=>by
   simp only [d5,Bool.and_eq_true] at h
   simp only [eJ,q9 h.1,iF h.2,Bool.and_self]
theorem q_ {x:AV} (h:bD x=true):iS x=true:=by
 cases x with
 | own _ _=>rfl
 | aT _ _=>rfl
 | agg cs=>simp only [iS];exact iF (by simpa [bD] using h)
 | _=>simpa [iS,bD] using iC (by simpa [bD] using h)
theorem rb {aE ts:au} {x:AV} (h:fe x=true):fe (c_ aE ts x).1=true:=by
 unfold c_
 split
 · split<;>rfl
 · exact h
theorem l3:∀{xs:List AV} {aE ts:au},d5 xs=true→d5 (cb aE ts xs).1=true
 | [],_,_,_=>rfl
 | x::xs,aE,ts,h=>by
   simp only [d5,Bool.and_eq_true] at h
   simp only [cb,d5,rb h.1,Bool.true_and]
   exact l3 h.2
theorem re {aE ts:au} {x:AV} (h:bD x=true):bD (bt aE ts x).1=true:=by
 unfold bt
 split
 · split<;>rfl
 · rfl
 · split
   · exact h
   · simp only [bD] at h ⊢
     exact l3 h
 · exact h
theorem fM:∀{xs:List AV} {aE ts:au},xs.all bD=true→(bh aE ts xs).1.all bD=true
 | [],_,_,_=>rfl
 | x::xs,aE,ts,h=>by
   simp only [List.all_cons,Bool.and_eq_true] at h
   simp only [bh,List.all_cons,re h.1,Bool.true_and]
   exact fM h.2
theorem rf {x:AV} (h:aP x=true):bD x=true:=by
 cases x with
 | own _ _=>rfl
 | fn g cap=>simpa [aP,bD] using h
 | pv _=>rfl
 | bR _=>rfl
 | ba _ _=>rfl
 | bd _ _ _ _=>rfl
 | cM=>rfl
 | ck _=>rfl
 | da _=>rfl
 | _=>simp [aP] at h
theorem gj {xs:List AV} (h:xs.all aP=true):xs.all bD=true:=by
 rw [List.all_eq_true] at *
 exact fun x hx=>rf (h x hx)
theorem kF:∀{xs:List AV} {vs:List Value} {aE ts:au} {m:Nat→Option Nat} {tks:List Tk},NS G aE ts m tks→xs.all bD=true→al (num ns) G xs vs →
   ∃m' tks',xU ns G m tks (bh aE ts xs).2.1 (bh aE ts xs).2.2 m' tks'∧al (num ns) (G.lf m' tks') (bh aE ts xs).1 vs
 | [],vs,aE,ts,m,tks,hN,_,h=>⟨m,tks,⟨hN,[],by simp [bh]⟩,by simpa only [bh,al] using h⟩
 | x::xs,vs,aE,ts,m,tks,hN,hp,h=>by
   simp only [List.all_cons,Bool.and_eq_true] at hp
   simp only [al] at h
   obtain ⟨v,r,e,e1,e2⟩:=h
   subst e
   obtain ⟨m1,t1,g1,g2⟩:=ja hN (q_ hp.1) e1
   obtain ⟨m2,t2,k1,k2⟩:=kF g1.qZ hp.2 e2
   refine ⟨m2,t2,⟨k1.qZ,?_⟩,?_⟩
   · obtain ⟨a,ha⟩:=g1.ext
     obtain ⟨b,hb⟩:=k1.ext
     exact ⟨a++b,by rw [hb,ha,List.append_assoc]⟩
   · simp only [bh,al]
     exact ⟨v,r,rfl,g2.mono k1.le,k2⟩
theorem xW {aE ts:au} {x:AV}:(c_ aE ts x).2.1.length=aE.length:=by
 unfold c_
 split
 · split<;>simp
 · rfl
theorem m5:∀{xs:List AV} {aE ts:au},(cb aE ts xs).2.1.length=aE.length
 | [],_,_=>rfl
 | x::xs,aE,ts=>by simp only [cb];rw [m5,xW]
theorem xX {aE ts:au} {x:AV}:(bt aE ts x).2.1.length=aE.length:=by
 unfold bt
 split
 · split<;>simp
 · rfl
 · split
   · rfl
   · exact m5
 · rfl
theorem lg:∀{xs:List AV} {aE ts:au},(bh aE ts xs).2.1.length=aE.length
 | [],_,_=>rfl
 | x::xs,aE,ts=>by simp only [bh];rw [lg,xX]
theorem lh:∀{sh:Sh} {aE ts:au},(bE aE ts sh).2.1.length=aE.length
 | [],_,_=>rfl
 | none::sh,aE,ts=>by simp only [bE];exact lh
 | some cs::sh,aE,ts=>by simp only [bE];rw [lh,lg]
def Gh.to (G:Gh) (m:Nat→Option Nat) (tks:List Tk):Gh:=
 { K:=G.K,role:=fun b=>match G.role b with | .shr s=>.shr s | .tok τ=>(match m τ with | some k=>.tok k | none=>.dp) | _=>.dp,pm:=fun _=>none,sm:=G.sm,tk:=fun k=>tks[k]? }
theorem FC {m:Nat→Option Nat} {tks:List Tk} {b s:Nat} (h:G.role b=.shr s):(G.to m tks).role b=.shr s:=by simp [Gh.to,h]
theorem pC {m:Nat→Option Nat} {tks:List Tk} {b τ k:Nat} (h:G.role b=.tok τ) (hm:m τ=some k):(G.to m tks).role b=.tok k:=by simp [Gh.to,h,hm]
theorem kG {m:Nat→Option Nat} {tks:List Tk} {b τ:Nat} (h:G.role b=.tok τ) (hm:m τ=none):(G.to m tks).role b=.dp:=by simp [Gh.to,h,hm]
theorem j7 {m:Nat→Option Nat} {tks:List Tk} {b:Nat} (h:G.role b=.dp):(G.to m tks).role b=.dp:=by simp [Gh.to,h]
theorem pD {m:Nat→Option Nat} {tks:List Tk} {b d:Nat} (h:G.role b=.km d):(G.to m tks).role b=.dp:=by simp [Gh.to,h]
theorem tK {ρ:bI} {G':Gh} (hK:G.K.le G'.K) (hs:∀s b,G.sm s=some b→G'.sm s=some b) (ht:∀τ t,G.tk τ=some t→G'.tk τ=some t) {xs:List AV} {vs:List Value} (hp:d5 xs=true) (h:al ρ G xs vs):al ρ G' xs vs:=
 j6 hK hs ht (iF hp) h
theorem xY {ρ:bI} {G':Gh} (hK:G.K.le G'.K) (hs:∀s b,G.sm s=some b→G'.sm s=some b) (ht:∀τ t,G.tk τ=some t→G'.tk τ=some t) {x:AV} {v:Value} (hp:bD x=true) (h:aq ρ G x v):aq ρ G' x v:=by
 cases x with
 | own l τ=>
   simp only [aq] at h ⊢
   obtain ⟨t,e1,e2,e3,e4⟩:=h
   exact ⟨t,ht _ _ e1,e2,e3.mono hK,fun hl=>⟨(e4 hl).1,Dg (e4 hl).2 fun ⟨b,o,e,r⟩=>⟨b,o,e,Row.mono hK _ _ _ _ r⟩⟩⟩
 | agg cs=>
   simp only [aq] at h ⊢
   obtain ⟨vs,e,r⟩:=h
   exact ⟨vs,e,tK hK hs ht (by simpa [bD] using hp) r⟩
 | _=>exact jt hK hs (by simpa [bD] using hp) h
theorem gD {ρ:bI} {G':Gh} (hK:G.K.le G'.K) (hs:∀s b,G.sm s=some b→G'.sm s=some b) (ht:∀τ t,G.tk τ=some t→G'.tk τ=some t):∀{xs:List AV} {vs:List Value},xs.all bD=true→al ρ G xs vs→al ρ G' xs vs
 | [],_,_,h=>by simpa only [al] using h
 | x::xs,_,hp,h=>by
   simp only [List.all_cons,Bool.and_eq_true] at hp
   simp only [al] at h ⊢
   obtain ⟨v,r,e,e1,e2⟩:=h
   exact ⟨v,r,e,xY hK hs ht hp.1 e1,gD hK hs ht hp.2 e2⟩
theorem Inv.AX {mem:List (Nat×List AV)} {sh:Sh} {aa:au} (hi:Inv (num ns) G w mem sh aa) {xs:List AV} {vs:List Value} (hp:xs.all bD=true) (hr:al (num ns) G xs vs) :
   ∃m tks,NS G (cr aa xs sh).2.2.1 (cr aa xs sh).2.2.2 m tks∧Inv (num ns) (G.to m tks) w [] (cr aa xs sh).2.1 (cr aa xs sh).2.2.2∧al (num ns) (G.to m tks) (cr aa xs sh).1 vs:=by
 obtain ⟨m0,tks0,hR,hrel⟩:=kF (NS.start hi) hp hr
 obtain ⟨m,tks,q1,q2,q3⟩:=gW (Go.Ab.iE G w) hR.qZ hi.iE
 have hN:=q1.qZ
 refine ⟨m,tks,hN,?_,gD (G:=G.lf m tks) (G':=G.to m tks) (bf.le_refl _) (fun _ _ h=>h) (fun _ _ h=>h) (fM hp) (al.mono q1.le hrel)⟩
 constructor
 · exact hi.known
 · intro b o v hk
   rcases hi.aY b o v hk with h | ⟨τ,h⟩
   · exact .inl (j7 h)
   · cases hm:m τ with
     | none=>exact .inl (kG h hm)
     | some k=>exact .inr ⟨k,pC h hm⟩
 · intro b hb;exact j7 (hi.fresh b hb)
 · intro d cells h;simp [look] at h
 · intro d b h;simp [Gh.to] at h
 · refine hi.EW (G':=G.to m tks) (fun _=>rfl) (fun b s hr=>FC hr) fun s cells' hs=>?_
   obtain ⟨cells,h1,h2,h3,h4⟩:=q3 s cells' hs
   obtain ⟨o,h2,h2'⟩:=h2
   exact ⟨cells,h1,⟨o,h2,h2'.to (fun _ _ _ h=>h) (fun _ e=>e) (fun _ r=>gD (G:=G.lf m tks) (G':=G.to m tks) (bf.le_refl _) (fun _ _ h=>h) (fun _ _ h=>h) (gj h3) r)⟩,h3,h4⟩
 · intro s b hs
   have:=hi.ek s b hs
   have e:(cr aa xs sh).2.1.length=sh.length:=q2
   omega
 · intro k n hn
   have hts:(cr aa xs sh).2.2.2=tks.map (·.len):=hN.ts
   rw [hts,List.getElem?_map,Option.map_eq_some_iff] at hn
   obtain ⟨t,ht,rfl⟩:=hn
   refine ⟨t,ht,rfl,?_⟩
   rcases hN.cap k t ht with ⟨τ,hτ⟩ | hc
   · obtain ⟨t',h1,h2⟩:=hN.map τ k hτ
     rw [ht] at h2;cases h2
     obtain ⟨t'',e1,e2,e3⟩:=hi.ct τ _ (hi.d_ τ t h1)
     rw [h1] at e1;cases e1
     refine ⟨e3.cap,e3.zero,fun hlt=>?_⟩
     obtain ⟨b,o,c,ty,f1,f2,f3,f4,f5⟩:=e3.spare hlt
     exact ⟨b,o,c,ty,f1,pC f2 hτ,f3,f4,f5⟩
   · exact ⟨by omega,fun h=>by omega,fun h=>h.elim (fun h=>by omega) (fun h=>by rw [hc.2] at h;cases h)⟩
 · intro k t ht
   have hts:(cr aa xs sh).2.2.2=tks.map (·.len):=hN.ts
   rw [hts,List.getElem?_map]
   have ht':tks[k]?=some t:=ht
   rw [ht'];rfl
theorem xZ {aa:au} {xs:List AV} {sh:Sh}:(cr aa xs sh).2.2.1.length=aa.length:=by
 unfold cr
 simp only [lh,lg]
theorem bJ.to {G1:Gh} {w1:World} (h:bJ G w G1 w1) (m:Nat→Option Nat) (tks:List Tk):bJ G w (G1.to m tks) w1 where
 size:=h.size
 os:=h.os
 tape:=h.tape
 output:=h.output
 K:=h.K
 sm:=h.sm
 dp:=fun b hb hr=>⟨j7 (h.dp b hb hr).1,(h.dp b hb hr).2⟩
 ga:=fun b τ hb hr=>by
   rcases h.ga b τ hb hr with h1 | ⟨τ',h1⟩
   · exact .inl (j7 h1)
   · cases hm:m τ' with
     | none=>exact .inl (kG h1 hm)
     | some k=>exact .inr ⟨k,pC h1 hm⟩
 e_:=h.e_
def Db (N:Nat):iX→iX
 | .tok k=>.tok (k+N)
 | .shr s=>.shr s
 | _=>.dp
def Gh.back (G:Gh) (m:Nat→Option Nat) (G1:Gh) (n N:Nat):Gh:=
 { K:=G1.K,
   role:=fun b=>if b<n then (match G.role b with | .shr _=>Db N (G1.role b) | .tok τ=>(match m τ with | some _=>Db N (G1.role b) | none=>.tok τ) | r=>r) else Db N (G1.role b),
   pm:=G.pm,sm:=G1.sm,
   tk:=fun τ=>if τ<N then (match G.tk τ with | some t=>(match m τ with | some _=>some { t with base:=none,len:=t.len+1,cap:=t.len+1,own:=false } | none=>some t) | none=>none) else G1.tk (τ-N) }
theorem m7 {G1 G':Gh} {N:Nat} (hK:G1.K.le G'.K) (hs:∀s b,G1.sm s=some b→G'.sm s=some b) (ht:∀τ t,G1.tk τ=some t→G'.tk (τ+N)=some t) {x:AV} {v:Value} (hp:fe x=true) (h:aq (num ns) G1 x v):aq (num ns) G' (d6 N x) v:=by
 cases x with
 | own l τ=>
   simp only [d6,aq] at h ⊢
   obtain ⟨t,e1,e2,e3,e4⟩:=h
   exact ⟨t,ht _ _ e1,e2,e3.mono hK,fun hl=>⟨(e4 hl).1,Dg (e4 hl).2 fun ⟨b,o,e,r⟩=>⟨b,o,e,Row.mono hK _ _ _ _ r⟩⟩⟩
 | _=>
   simp only [d6]
   exact jt (G:=G1) (G':=G') hK hs (by simpa [fe] using hp) h
theorem l4 {G1 G':Gh} {N:Nat} (hK:G1.K.le G'.K) (hs:∀s b,G1.sm s=some b→G'.sm s=some b) (ht:∀τ t,G1.tk τ=some t→G'.tk (τ+N)=some t):∀{xs:List AV} {vs:List Value},d5 xs=true→al (num ns) G1 xs vs→al (num ns) G' (xs.map (d6 N)) vs
 | [],_,_,h=>by simpa only [List.map_nil,al] using h
 | x::xs,_,hp,h=>by
   simp only [d5,Bool.and_eq_true] at hp
   simp only [List.map_cons,al] at h ⊢
   obtain ⟨v,r,e,e1,e2⟩:=h
   exact ⟨v,r,e,m7 hK hs ht hp.1 e1,l4 hK hs ht hp.2 e2⟩
theorem oG {G1 G':Gh} {N:Nat} (hK:G1.K.le G'.K) (hs:∀s b,G1.sm s=some b→G'.sm s=some b) (ht:∀τ t,G1.tk τ=some t→G'.tk (τ+N)=some t) {x:AV} {v:Value} (hp:bD x=true) (h:aq (num ns) G1 x v):aq (num ns) G' (bS N x) v:=by
 cases x with
 | own l τ=>exact m7 (x:=.own l τ) hK hs ht rfl h
 | agg cs=>
   simp only [bS]
   split
   · rename_i hf
     exact eO (G:=G1) (G':=G') hK hs (by simpa [bg] using hf) h
   · simp only [aq] at h ⊢
     obtain ⟨vs,e,r⟩:=h
     exact ⟨vs,e,l4 hK hs ht (by simpa [bD] using hp) r⟩
 | _=>
   simp only [bS]
   exact jt (G:=G1) (G':=G') hK hs (by simpa [bD] using hp) h
theorem j8 {G1 G':Gh} {N:Nat} (hK:G1.K.le G'.K) (hs:∀s b,G1.sm s=some b→G'.sm s=some b) (ht:∀τ t,G1.tk τ=some t→G'.tk (τ+N)=some t):∀{xs:List AV} {vs:List Value},xs.all bD=true→al (num ns) G1 xs vs→al (num ns) G' (xs.map (bS N)) vs
 | [],_,_,h=>by simpa only [List.map_nil,al] using h
 | x::xs,_,hp,h=>by
   simp only [List.all_cons,Bool.and_eq_true] at hp
   simp only [List.map_cons,al] at h ⊢
   obtain ⟨v,r,e,e1,e2⟩:=h
   exact ⟨v,r,e,oG hK hs ht hp.1 e1,j8 hK hs ht hp.2 e2⟩
theorem xd {m:Nat→Option Nat} {G1:Gh} {n N:Nat}:∀τ t,G1.tk τ=some t→(G.back m G1 n N).tk (τ+N)=some t:=by
 intro τ t h
 simp only [Gh.back]
 rw [if_neg (by omega),Nat.add_sub_cancel]
 exact h
theorem x4 {m:Nat→Option Nat} {G1:Gh} {n N:Nat} {xs:List AV} {vs:List Value} (hp:xs.all bD=true) (h:al (num ns) G1 xs vs):al (num ns) (G.back m G1 n N) (xs.map (bS N)) vs:=
 j8 (G1:=G1) (G':=G.back m G1 n N) (N:=N) (bf.le_refl G1.K) (fun _ _ h=>h) xd hp h
theorem rh {N n:Nat} {x:AV} (h:az n x=true):az n (d6 N x)=true:=by
 cases x with
 | own _ _=>rfl
 | _=>exact h
theorem kH {N n:Nat}:∀{xs:List AV},az.bZ n xs=true→az.bZ n (xs.map (d6 N))=true
 | [],_=>rfl
 | x::xs,h=>by
   simp only [az.bZ,Bool.and_eq_true] at h
   simp only [List.map_cons,az.bZ,rh h.1,kH h.2,Bool.and_self]
theorem ri {N n:Nat} {x:AV} (h:az n x=true):az n (bS N x)=true:=by
 cases x with
 | own _ _=>rfl
 | agg cs=>
   simp only [bS]
   split
   · exact h
   · simp only [az] at h ⊢
     exact kH h
 | _=>exact h
theorem rj {N:Nat} {x:AV} (h:aP x=true):aP (bS N x)=true:=by
 cases x with
 | own _ _=>rfl
 | agg _=>simp [aP] at h
 | _=>exact h
theorem Inv.back {G1:Gh} {w1:World} {mem:List (Nat×List AV)} {sh sh':Sh} {aa aE ts ts':au} {m:Nat→Option Nat} {tks:List Tk} (hi:Inv (num ns) G w mem sh aa) (hN:NS G aE ts m tks) (hol:aE.length=aa.length)
   (h1:Inv (num ns) G1 w1 [] sh' ts') (he:bJ (G.to m tks) w G1 w1) :
   Inv (num ns) (G.back m G1 w.heap.size aa.length) w1 mem (eu aa.length sh') (aE++ts')∧G.le (G.back m G1 w.heap.size aa.length)∧bJ G w (G.back m G1 w.heap.size aa.length) w1:=by
 have htl:∀τ t,G.tk τ=some t→τ<aa.length:=fun τ t h=>(List.getElem?_eq_some_iff.1 (hi.d_ τ t h)).1
 have tkNone:∀τ t,G.tk τ=some t→m τ=none→(G.back m G1 w.heap.size aa.length).tk τ=some t:=by
   intro τ t h hm
   simp only [Gh.back,if_pos (htl τ t h),h,hm]
 have tkSome:∀τ t k,G.tk τ=some t→m τ=some k→(G.back m G1 w.heap.size aa.length).tk τ=some { t with base:=none,len:=t.len+1,cap:=t.len+1,own:=false }:=by
   intro τ t k h hm
   simp only [Gh.back,if_pos (htl τ t h),h,hm]
 have hle:G.le (G.back m G1 w.heap.size aa.length):=⟨he.K,fun _ _ h=>h,he.sm,fun τ t h=>by
   cases hm:m τ with
   | none=>exact ⟨t,tkNone τ t h hm,⟨Nat.le_refl _,Tk.eX _⟩,fun _=>rfl⟩
   | some k=>exact ⟨_,tkSome τ t k h hm,⟨by simp,fun _=>⟨rfl,by simp⟩,.inl ⟨rfl,by simp⟩⟩,fun e=>by simp at e⟩⟩
 have rImm:∀b,b<w.heap.size→G.role b=.dp→(G.back m G1 w.heap.size aa.length).role b=.dp:=by intro b hb hr;simp only [Gh.back,if_pos hb,hr]
 have rPriv:∀b d,b<w.heap.size→G.role b=.km d→(G.back m G1 w.heap.size aa.length).role b=.km d:=by intro b d hb hr;simp only [Gh.back,if_pos hb,hr]
 have rFree:∀b τ,b<w.heap.size→G.role b=.tok τ→m τ=none→(G.back m G1 w.heap.size aa.length).role b=.tok τ:=by intro b τ hb hr hm;simp only [Gh.back,if_pos hb,hr,hm]
 have rTok:∀b τ k,b<w.heap.size→G.role b=.tok τ→m τ=some k→(G.back m G1 w.heap.size aa.length).role b=Db aa.length (G1.role b):=by intro b τ k hb hr hm;simp only [Gh.back,if_pos hb,hr,hm]
 have rShr:∀b s,b<w.heap.size→G.role b=.shr s→(G.back m G1 w.heap.size aa.length).role b=Db aa.length (G1.role b):=by intro b s hb hr;simp only [Gh.back,if_pos hb,hr]
 have rNew:∀b,¬b<w.heap.size→(G.back m G1 w.heap.size aa.length).role b=Db aa.length (G1.role b):=by intro b hb;simp only [Gh.back,if_neg hb]
 have rOut:∀b,G1.role b≠.dp→(G.back m G1 w.heap.size aa.length).role b=Db aa.length (G1.role b):=by
   intro b hn
   by_cases hb:b<w.heap.size
   · cases hr:G.role b with
     | shr s=>exact rShr b s hb hr
     | dp=>exact absurd (he.dp b hb (j7 hr)).1 hn
     | km d=>exact absurd (he.dp b hb (pD hr)).1 hn
     | tok τ=>
       cases hm:m τ with
       | none=>exact absurd (he.dp b hb (kG hr hm)).1 hn
       | some k=>exact rTok b τ k hb hr hm
   · exact rNew b hb
 have shKnown:∀b o v,G1.K b o=some v→Db aa.length (G1.role b)=.dp∨∃τ,Db aa.length (G1.role b)=.tok τ:=by
   intro b o v hk
   rcases h1.aY b o v hk with h | ⟨τ,h⟩
   · left;rw [h];rfl
   · right;exact ⟨τ+aa.length,by rw [h];rfl⟩
 refine ⟨⟨h1.known,?_,?_,?_,hi.fp,?_,?_,?_,?_⟩,hle,?_⟩
 · intro b o v hk
   have hk1:G1.K b o=some v:=hk
   by_cases hb:b<w.heap.size
   · cases hr:G.role b with
     | shr s=>rw [rShr b s hb hr];exact shKnown b o v hk1
     | dp=>exact .inl (rImm b hb hr)
     | tok τ=>
       cases hm:m τ with
       | none=>exact .inr ⟨τ,rFree b τ hb hr hm⟩
       | some k=>rw [rTok b τ k hb hr hm];exact shKnown b o v hk1
     | km d=>
       exfalso
       have hk0:G.K b o=some v:=he.e_ b o v hb (pD hr) hk1
       rcases hi.aY b o v hk0 with h | ⟨τ,h⟩<;>rw [hr] at h<;>simp at h
   · rw [rNew b hb];exact shKnown b o v hk1
 · intro b hb
   have:=he.size
   rw [rNew b (by omega),h1.fresh b hb];rfl
 · intro d cs hd
   obtain ⟨b,e1,e2,e3⟩:=hi.cm d cs hd
   obtain ⟨hr,c,t,hh,hrel⟩:=e2
   have hb:=bV hh
   exact ⟨b,e1,⟨rPriv b d hb hr,c,t,((he.dp b hb (pD hr)).2).trans hh,al.mono hle hrel⟩,e3⟩
 · intro s cs0 hs0
   simp only [eu,List.getElem?_map,Option.map_eq_some_iff] at hs0
   obtain ⟨o,hs,ho⟩:=hs0
   cases o with
   | none=>simp at ho
   | some cs=>
     simp at ho
     subst ho
     obtain ⟨b,e1,e2,e3,e4⟩:=h1.cY s cs hs
     obtain ⟨hr,o,hh,hrel⟩:=e2
     refine ⟨b,e1,⟨?_,o,hh,hrel.to (fun _ _ _ h=>h) (fun kvs e=>by subst e;rfl) (fun _ r=>x4 (gj e3) r)⟩,?_,?_⟩
     · rw [rOut b.1 (by rw [hr];simp),hr];rfl
     · rw [List.all_eq_true]
       intro x hx
       obtain ⟨y,hy,rfl⟩:=List.mem_map.1 hx
       exact rj (List.all_eq_true.1 e3 y hy)
     · rw [List.all_eq_true]
       intro x hx
       obtain ⟨y,hy,rfl⟩:=List.mem_map.1 hx
       exact ri (List.all_eq_true.1 e4 y hy)
 · intro s b h
   have:=h1.ek s b h
   simp only [eu,List.length_map]
   exact this
 · intro τ n hn
   by_cases hτ:τ<aa.length
   · rw [List.getElem?_append_left (by omega)] at hn
     obtain ⟨t,e1,e2,e3⟩:=hi.ct τ _ (List.getElem?_eq_getElem hτ)
     cases hm:m τ with
     | none=>
       have:=hN.free τ t e1 hm
       rw [hn] at this
       simp at this
       refine ⟨t,tkNone τ t e1 hm,this.symm,e3.cap,e3.zero,fun hlt=>?_⟩
       obtain ⟨b,o,c,ty,f1,f2,f3,f4,f5⟩:=e3.spare hlt
       have hb:=bV f3
       exact ⟨b,o,c,ty,f1,rFree b τ hb f2 hm,((he.dp b hb (kG f2 hm)).2).trans f3,f4,fun j v hk=>f5 j v (he.e_ b j v hb (kG f2 hm) hk)⟩
     | some k=>
       have:=hN.used τ t k e1 hm
       rw [hn] at this
       simp at this
       exact ⟨_,tkSome τ t k e1 hm,this.symm,⟨Nat.le_refl _,fun h=>by simp at h,fun h=>by simp at h⟩⟩
   · rw [List.getElem?_append_right (by omega),hol] at hn
     obtain ⟨t,e1,e2,e3⟩:=h1.ct _ n hn
     refine ⟨t,by simp only [Gh.back,if_neg hτ];exact e1,e2,e3.cap,e3.zero,fun hlt=>?_⟩
     obtain ⟨b,o,c,ty,f1,f2,f3,f4,f5⟩:=e3.spare hlt
     refine ⟨b,o,c,ty,f1,?_,f3,f4,f5⟩
     rw [rOut b (by rw [f2];simp),f2]
     simp only [Db]
     rw [Nat.sub_add_cancel (by omega)]
 · intro τ t ht
   simp only [Gh.back] at ht
   split at ht
   · rename_i hτ
     rw [List.getElem?_append_left (by omega)]
     split at ht
     · rename_i t0 h0
       split at ht
       · rename_i k hm
         simp at ht;subst ht
         exact hN.used τ t0 k h0 hm
       · rename_i hm
         simp at ht;subst ht
         exact hN.free τ t0 h0 hm
     · simp at ht
   · rename_i hτ
     rw [List.getElem?_append_right (by omega),hol]
     exact h1.d_ _ t ht
 · exact { size:=he.size,os:=he.os,tape:=he.tape,output:=he.output,K:=he.K,sm:=he.sm,
           dp:=fun b hb hr=>⟨rImm b hb hr,(he.dp b hb (j7 hr)).2⟩
           ga:=fun b τ hb hr=>by
             cases hm:m τ with
             | none=>exact .inr ⟨τ,rFree b τ hb hr hm⟩
             | some k=>
               rw [rTok b τ k hb hr hm]
               rcases he.ga b k hb (pC hr hm) with h | ⟨τ',h⟩
               · left;rw [h];rfl
               · right;exact ⟨τ'+aa.length,by rw [h];rfl⟩
           e_:=fun b o v hb hr hk=>he.e_ b o v hb (j7 hr) hk }
theorem kI {G1 G':Gh} {N:Nat} (hK:G1.K.le G'.K) (hs:∀s b,G1.sm s=some b→G'.sm s=some b) (ht:∀τ t,G1.tk τ=some t→G'.tk (τ+N)=some t) {rs:List AV} {v:Value} (hp:rs.all bD=true) (h:cv (num ns) G1 rs v):cv (num ns) G' (rs.map (bS N)) v:=by
 unfold cv at h
 split at h
 · rename_i r
   simp only [List.all_cons,List.all_nil,Bool.and_true] at hp
   simp only [List.map_cons,List.map_nil,cv]
   exact oG hK hs ht hp h
 · rename_i hn
   obtain ⟨vs,e,h⟩:=h
   unfold cv
   split
   · rename_i r he
     cases rs with
     | nil=>simp at he
     | cons a rs=>
       cases rs with
       | nil=>exact absurd rfl (hn a)
       | cons _ _=>simp at he
   · exact ⟨vs,e,j8 hK hs ht hp h⟩
theorem rk {m:Nat→Option Nat} {G1:Gh} {n N:Nat} {rs:List AV} {v:Value} (hp:rs.all bD=true) (h:cv (num ns) G1 rs v):cv (num ns) (G.back m G1 n N) (rs.map (bS N)) v:=
 kI (G1:=G1) (G':=G.back m G1 n N) (N:=N) (bf.le_refl G1.K) (fun _ _ h=>h) xd hp h
def HX (N:Nat):iX→iX
 | .tok k=>.tok (k+N)
 | _=>.dp
def Gh.x5 (G:Gh):Gh:={ K:=G.K,role:=fun _=>.dp,pm:=fun _=>none,sm:=fun _=>none,tk:=fun _=>none }
theorem Inv.x5 {mem:List (Nat×List AV)} {sh:Sh} {aa:au} (hi:Inv (num ns) G w mem sh aa):Inv (num ns) G.x5 w [] [] [] where
 known:=hi.known
 aY:=fun _ _ _ _=>.inl rfl
 fresh:=fun _ _=>rfl
 cm:=fun d c h=>by simp [look] at h
 fp:=fun d b h=>by simp [Gh.x5] at h
 cY:=fun s c h=>by simp at h
 ek:=fun s b h=>by simp [Gh.x5] at h
 ct:=fun τ n h=>by simp at h
 d_:=fun τ t h=>by simp [Gh.x5] at h
def Gh.fQ (G:Gh) (G1:Gh) (n N:Nat):Gh:=
 { K:=G1.K,role:=fun b=>if b<n then G.role b else HX N (G1.role b),pm:=G.pm,sm:=G.sm,tk:=fun τ=>if τ<N then G.tk τ else G1.tk (τ-N) }
theorem Inv.fQ {G1:Gh} {w1:World} {mem:List (Nat×List AV)} {sh:Sh} {aa ts':au} (hi:Inv (num ns) G w mem sh aa)
   (h1:Inv (num ns) G1 w1 [] [] ts') (he:bJ G.x5 w G1 w1) :
   Inv (num ns) (G.fQ G1 w.heap.size aa.length) w1 mem sh (aa++ts')∧G.le (G.fQ G1 w.heap.size aa.length)∧bJ G w (G.fQ G1 w.heap.size aa.length) w1:=by
 have htl:∀τ t,G.tk τ=some t→τ<aa.length:=fun τ t h=>(List.getElem?_eq_some_iff.1 (hi.d_ τ t h)).1
 have hK:G.K.le G1.K:=he.K
 have rOld:∀b,b<w.heap.size→(G.fQ G1 w.heap.size aa.length).role b=G.role b:=fun b hb=>by simp only [Gh.fQ,if_pos hb]
 have rNew:∀b,¬b<w.heap.size→(G.fQ G1 w.heap.size aa.length).role b=HX aa.length (G1.role b):=fun b hb=>by simp only [Gh.fQ,if_neg hb]
 have same:∀b,b<w.heap.size→w1.heap[b]?=w.heap[b]?:=fun b hb=>(he.dp b hb rfl).2
 have Kold:∀b o v,b<w.heap.size→G1.K b o=some v→G.K b o=some v:=fun b o v hb hk=>he.e_ b o v hb rfl hk
 have hle:G.le (G.fQ G1 w.heap.size aa.length):=⟨hK,fun _ _ h=>h,fun _ _ h=>h,fun τ t h=>⟨t,by simp only [Gh.fQ,if_pos (htl τ t h)];exact h,⟨Nat.le_refl _,Tk.eX _⟩,fun _=>rfl⟩⟩
 refine ⟨⟨h1.known,?_,?_,?_,hi.fp,?_,hi.ek,?_,?_⟩,hle,?_⟩
 · intro b o v hk
   by_cases hb:b<w.heap.size
   · rw [rOld b hb];exact hi.aY b o v (Kold b o v hb hk)
   · rw [rNew b hb]
     rcases h1.aY b o v hk with h | ⟨τ,h⟩
     · left;rw [h];rfl
     · right;exact ⟨τ+aa.length,by rw [h];rfl⟩
 · intro b hb
   have:=he.size
   rw [rNew b (by omega),h1.fresh b hb];rfl
 · intro d cs hd
   obtain ⟨b,e1,e2,e3⟩:=hi.cm d cs hd
   have hlt:b<w.heap.size:=by obtain ⟨_,_,_,hh,_⟩:=e2;exact bV hh
   exact ⟨b,e1,e2.mono hle (rOld b hlt) (same b hlt),e3⟩
 · intro s cs hs
   obtain ⟨b,e1,e2,e3⟩:=hi.cY s cs hs
   have hlt:b.1<w.heap.size:=e2.lt
   exact ⟨b,e1,e2.mono hle (rOld b.1 hlt) (same b.1 hlt),e3⟩
 · intro τ n hn
   by_cases hτ:τ<aa.length
   · rw [List.getElem?_append_left hτ] at hn
     obtain ⟨t,e1,e2,e3⟩:=hi.ct τ n hn
     refine ⟨t,by simp only [Gh.fQ,if_pos hτ];exact e1,e2,e3.cap,e3.zero,fun hlt=>?_⟩
     obtain ⟨b,o,c,ty,f1,f2,f3,f4,f5⟩:=e3.spare hlt
     have hlt':=bV f3
     exact ⟨b,o,c,ty,f1,(rOld b hlt').trans f2,(same b hlt').trans f3,f4,fun j v hkk=>f5 j v (Kold b j v hlt' hkk)⟩
   · rw [List.getElem?_append_right (by omega)] at hn
     obtain ⟨t,e1,e2,e3⟩:=h1.ct _ n hn
     refine ⟨t,by simp only [Gh.fQ,if_neg hτ];exact e1,e2,e3.cap,e3.zero,fun hlt=>?_⟩
     obtain ⟨b,o,c,ty,f1,f2,f3,f4,f5⟩:=e3.spare hlt
     have hb:¬b<w.heap.size:=fun hb=>by
       have:=(he.dp b hb rfl).1
       rw [f2] at this;cases this
     refine ⟨b,o,c,ty,f1,?_,f3,f4,f5⟩
     rw [rNew b hb,f2]
     simp only [HX]
     rw [Nat.sub_add_cancel (by omega)]
 · intro τ t ht
   simp only [Gh.fQ] at ht
   split at ht
   · rename_i hτ
     rw [List.getElem?_append_left hτ]
     exact hi.d_ τ t ht
   · rename_i hτ
     rw [List.getElem?_append_right (by omega)]
     exact h1.d_ _ t ht
 · exact { size:=he.size,os:=he.os,tape:=he.tape,output:=he.output,K:=hK,sm:=fun _ _ h=>h,
           dp:=fun b hb hr=>⟨(rOld b hb).trans hr,same b hb⟩
           ga:=fun b τ hb hr=>.inr ⟨τ,(rOld b hb).trans hr⟩
           e_:=fun b o v hb _ hk=>Kold b o v hb hk }
theorem x6 {G1:Gh} {w1:World} {ts':au} {n N:Nat} (h1:Inv (num ns) G1 w1 [] [] ts') {rs:List AV} {v:Value} (hp:rs.all bD=true) (h:cv (num ns) G1 rs v):cv (num ns) (G.fQ G1 n N) (rs.map (bS N)) v:=
 kI (G1:=G1) (G':=G.fQ G1 n N) (N:=N) (bf.le_refl G1.K) (fun s b h=>by have:=h1.ek s b h;simp at this) (fun τ t h=>by simp only [Gh.fQ];rw [if_neg (by omega),Nat.add_sub_cancel];exact h) hp h
end
end Go.Ab
