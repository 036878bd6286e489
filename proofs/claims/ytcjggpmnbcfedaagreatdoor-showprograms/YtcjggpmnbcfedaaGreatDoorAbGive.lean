import Derived.Test.YtcjggpmnbcfedaaGreatDoorAbNorm2
/-
  Handing over to a callee and taking back.
-/
set_option linter.unusedVariables false
set_option linter.unusedSimpArgs false
set_option linter.unnecessarySimpa false
set_option maxRecDepth 100000
set_option maxHeartbeats 8000000
namespace Go.Ab
section
variable {P:Program} {ns:Names} {G:Gh} {w:World}
theorem yE {x:AV} (h:iq x=true):gi x=true:=by
 cases x with
 | own _ _=>rfl
 | _=>simpa [gi,iq] using kS (by simpa [iq] using h)
theorem kV:∀{xs:List AV},fJ xs=true→fH xs=true
 | [],_=>rfl
 | x::xs,h=>by
   simp only [fJ,Bool.and_eq_true] at h
   simp only [fH,yE h.1,kV h.2,Bool.and_self]
theorem yF {x:AV} (h:cp x=true):lD x=true:=by
 cases x with
 | own _ _=>rfl
 | aB _ _=>rfl
 | agg cs=>simp only [lD];exact kV (by simpa [cp] using h)
 | _=>simpa [lD,cp] using kS (by simpa [cp] using h)
theorem yG {aQ ts:aH} {x:AV} (h:iq x=true):iq (d4 aQ ts x).1=true:=by
 unfold d4
 split
 · split<;>rfl
 · exact h
theorem qI:∀{xs:List AV} {aQ ts:aH},fJ xs=true→fJ (dc aQ ts xs).1=true
 | [],_,_,_=>rfl
 | x::xs,aQ,ts,h=>by
   simp only [fJ,Bool.and_eq_true] at h
   simp only [dc,fJ,yG h.1,Bool.true_and]
   exact qI h.2
theorem yH {aQ ts:aH} {x:AV} (h:cp x=true):cp (bX aQ ts x).1=true:=by
 unfold bX
 split
 · split<;>rfl
 · rfl
 · split
   · exact h
   · simp only [cp] at h ⊢
     exact qI h
 · exact h
theorem iN:∀{xs:List AV} {aQ ts:aH},xs.all cp=true→(bI aQ ts xs).1.all cp=true
 | [],_,_,_=>rfl
 | x::xs,aQ,ts,h=>by
   simp only [List.all_cons,Bool.and_eq_true] at h
   simp only [bI,List.all_cons,yH h.1,Bool.true_and]
   exact iN h.2
theorem yI {x:AV} (h:bm x=true):cp x=true:=by
 cases x with
 | own _ _=>rfl
 | fn g cap=>simpa [bm,cp] using h
 | pv _=>rfl
 | bJ _=>rfl
 | aZ _ _=>rfl
 | bz _ _ _ _=>rfl
 | dS=>rfl
 | dj _=>rfl
 | dQ _=>rfl
 | _=>simp [bm] at h
theorem jf {xs:List AV} (h:xs.all bm=true):xs.all cp=true:=by
 rw [List.all_eq_true] at *
 exact fun x hx=>yI (h x hx)
theorem oM:∀{xs:List AV} {vs:List Value} {aQ ts:aH} {m:Nat→Option Nat} {tks:List Tk},NS G aQ ts m tks→xs.all cp=true→aw (num ns) G xs vs →
   ∃m' tks',FG ns G m tks (bI aQ ts xs).2.1 (bI aQ ts xs).2.2 m' tks'∧aw (num ns) (G.mF m' tks') (bI aQ ts xs).1 vs
 | [],vs,aQ,ts,m,tks,hN,_,h=>⟨m,tks,⟨hN,[],by simp [bI]⟩,by simpa only [bI,aw] using h⟩
 | x::xs,vs,aQ,ts,m,tks,hN,hp,h=>by
   simp only [List.all_cons,Bool.and_eq_true] at hp
   simp only [aw] at h
   obtain ⟨v,r,e,e1,e2⟩:=h
   subst e
   obtain ⟨m1,t1,g1,g2⟩:=l8 hN (yF hp.1) e1
   obtain ⟨m2,t2,k1,k2⟩:=oM g1.yD hp.2 e2
   refine ⟨m2,t2,⟨k1.yD,?_⟩,?_⟩
   · obtain ⟨a,ha⟩:=g1.ext
     obtain ⟨b,hb⟩:=k1.ext
     exact ⟨a++b,by rw [hb,ha,List.append_assoc]⟩
   · simp only [bI,aw]
     exact ⟨v,r,rfl,g2.mono k1.le,k2⟩
theorem FH {aQ ts:aH} {x:AV}:(d4 aQ ts x).2.1.length=aQ.length:=by
 unfold d4
 split
 · split<;>simp
 · rfl
theorem ss:∀{xs:List AV} {aQ ts:aH},(dc aQ ts xs).2.1.length=aQ.length
 | [],_,_=>rfl
 | x::xs,aQ,ts=>by simp only [dc];rw [ss,FH]
theorem FI {aQ ts:aH} {x:AV}:(bX aQ ts x).2.1.length=aQ.length:=by
 unfold bX
 split
 · split<;>simp
 · rfl
 · split
   · rfl
   · exact ss
 · rfl
theorem pM:∀{xs:List AV} {aQ ts:aH},(bI aQ ts xs).2.1.length=aQ.length
 | [],_,_=>rfl
 | x::xs,aQ,ts=>by simp only [bI];rw [pM,FI]
theorem pN:∀{sh:Sh} {aQ ts:aH},(cf aQ ts sh).2.1.length=aQ.length
 | [],_,_=>rfl
 | none::sh,aQ,ts=>by simp only [cf];exact pN
 | some cs::sh,aQ,ts=>by simp only [cf];rw [pN,pM]
def Gh.to (G:Gh) (m:Nat→Option Nat) (tks:List Tk):Gh:=
 { K:=G.K,role:=fun b=>match G.role b with | .shr s=>.shr s | .tok τ=>(match m τ with | some k=>.tok k | none=>.d_) | _=>.d_,pm:=fun _=>none,sm:=G.sm,tk:=fun k=>tks[k]? }
theorem PJ {m:Nat→Option Nat} {tks:List Tk} {b s:Nat} (h:G.role b=.shr s):(G.to m tks).role b=.shr s:=by simp [Gh.to,h]
theorem wx {m:Nat→Option Nat} {tks:List Tk} {b τ k:Nat} (h:G.role b=.tok τ) (hm:m τ=some k):(G.to m tks).role b=.tok k:=by simp [Gh.to,h,hm]
theorem oN {m:Nat→Option Nat} {tks:List Tk} {b τ:Nat} (h:G.role b=.tok τ) (hm:m τ=none):(G.to m tks).role b=.d_:=by simp [Gh.to,h,hm]
theorem nH {m:Nat→Option Nat} {tks:List Tk} {b:Nat} (h:G.role b=.d_):(G.to m tks).role b=.d_:=by simp [Gh.to,h]
theorem wy {m:Nat→Option Nat} {tks:List Tk} {b d:Nat} (h:G.role b=.lK d):(G.to m tks).role b=.d_:=by simp [Gh.to,h]
theorem Bl {ρ:cr} {G':Gh} (hK:G.K.le G'.K) (hs:∀s b,G.sm s=some b→G'.sm s=some b) (ht:∀τ t,G.tk τ=some t→G'.tk τ=some t) {xs:List AV} {vs:List Value} (hp:fJ xs=true) (h:aw ρ G xs vs):aw ρ G' xs vs:=
 jx hK hs ht (kV hp) h
theorem FJ {ρ:cr} {G':Gh} (hK:G.K.le G'.K) (hs:∀s b,G.sm s=some b→G'.sm s=some b) (ht:∀τ t,G.tk τ=some t→G'.tk τ=some t) {x:AV} {v:Value} (hp:cp x=true) (h:au ρ G x v):au ρ G' x v:=by
 cases x with
 | own l τ=>
   simp only [au] at h ⊢
   obtain ⟨t,e1,e2,e3,e4⟩:=h
   exact ⟨t,ht _ _ e1,e2,e3.mono hK,fun hl=>⟨(e4 hl).1,MI (e4 hl).2 fun ⟨b,o,e,r⟩=>⟨b,o,e,Row.mono hK _ _ _ _ r⟩⟩⟩
 | agg cs=>
   simp only [au] at h ⊢
   obtain ⟨vs,e,r⟩:=h
   exact ⟨vs,e,Bl hK hs ht (by simpa [cp] using hp) r⟩
 | _=>exact mM hK hs (by simpa [cp] using hp) h
theorem jy {ρ:cr} {G':Gh} (hK:G.K.le G'.K) (hs:∀s b,G.sm s=some b→G'.sm s=some b) (ht:∀τ t,G.tk τ=some t→G'.tk τ=some t):∀{xs:List AV} {vs:List Value},xs.all cp=true→aw ρ G xs vs→aw ρ G' xs vs
 | [],_,_,h=>by simpa only [aw] using h
 | x::xs,_,hp,h=>by
   simp only [List.all_cons,Bool.and_eq_true] at hp
   simp only [aw] at h ⊢
   obtain ⟨v,r,e,e1,e2⟩:=h
   exact ⟨v,r,e,FJ hK hs ht hp.1 e1,jy hK hs ht hp.2 e2⟩
theorem Inv.Ji {mem:List (Nat×List AV)} {sh:Sh} {ae:aH} (hi:Inv (num ns) G w mem sh ae) {xs:List AV} {vs:List Value} (hp:xs.all cp=true) (hr:aw (num ns) G xs vs) :
   ∃m tks,NS G (dE ae xs sh).2.2.1 (dE ae xs sh).2.2.2 m tks∧Inv (num ns) (G.to m tks) w [] (dE ae xs sh).2.1 (dE ae xs sh).2.2.2∧aw (num ns) (G.to m tks) (dE ae xs sh).1 vs:=by
 obtain ⟨m0,tks0,hR,hrel⟩:=oM (NS.start hi) hp hr
 obtain ⟨m,tks,q1,q2,q3⟩:=jU (Go.Ab.kU G w) hR.yD hi.kU
 have hN:=q1.yD
 refine ⟨m,tks,hN,?_,jy (G:=G.mF m tks) (G':=G.to m tks) (bB.le_refl _) (fun _ _ h=>h) (fun _ _ h=>h) (iN hp) (aw.mono q1.le hrel)⟩
 constructor
 · exact hi.known
 · intro b o v hk
   rcases hi.bt b o v hk with h | ⟨τ,h⟩
   · exact .inl (nH h)
   · cases hm:m τ with
     | none=>exact .inl (oN h hm)
     | some k=>exact .inr ⟨k,wx h hm⟩
 · intro b hb;exact nH (hi.fresh b hb)
 · intro d cells h;simp [look] at h
 · intro d b h;simp [Gh.to] at h
 · refine hi.OO (G':=G.to m tks) (fun _=>rfl) (fun b s hr=>PJ hr) fun s cells' hs=>?_
   obtain ⟨cells,h1,h2,h3,h4⟩:=q3 s cells' hs
   obtain ⟨o,h2,h2'⟩:=h2
   exact ⟨cells,h1,⟨o,h2,h2'.to (fun _ _ _ h=>h) (fun _ e=>e) (fun _ r=>jy (G:=G.mF m tks) (G':=G.to m tks) (bB.le_refl _) (fun _ _ h=>h) (fun _ _ h=>h) (jf h3) r)⟩,h3,h4⟩
 · intro s b hs
   have:=hi.eR s b hs
   have e:(dE ae xs sh).2.1.length=sh.length:=q2
   omega
 · intro k n hn
   have hts:(dE ae xs sh).2.2.2=tks.map (·.len):=hN.ts
   rw [hts,List.getElem?_map,Option.map_eq_some_iff] at hn
   obtain ⟨t,ht,rfl⟩:=hn
   refine ⟨t,ht,rfl,?_⟩
   rcases hN.cap k t ht with ⟨τ,hτ⟩ | hc
   · obtain ⟨t',h1,h2⟩:=hN.map τ k hτ
     rw [ht] at h2;cases h2
     obtain ⟨t'',e1,e2,e3⟩:=hi.di τ _ (hi.fo τ t h1)
     rw [h1] at e1;cases e1
     refine ⟨e3.cap,e3.zero,fun hlt=>?_⟩
     obtain ⟨b,o,c,ty,f1,f2,f3,f4,f5⟩:=e3.spare hlt
     exact ⟨b,o,c,ty,f1,wx f2 hτ,f3,f4,f5⟩
   · exact ⟨by omega,fun h=>by omega,fun h=>h.elim (fun h=>by omega) (fun h=>by rw [hc.2] at h;cases h)⟩
 · intro k t ht
   have hts:(dE ae xs sh).2.2.2=tks.map (·.len):=hN.ts
   rw [hts,List.getElem?_map]
   have ht':tks[k]?=some t:=ht
   rw [ht'];rfl
theorem FK {ae:aH} {xs:List AV} {sh:Sh}:(dE ae xs sh).2.2.1.length=ae.length:=by
 unfold dE
 simp only [pN,pM]
theorem bZ.to {G1:Gh} {w1:World} (h:bZ G w G1 w1) (m:Nat→Option Nat) (tks:List Tk):bZ G w (G1.to m tks) w1 where
 size:=h.size
 os:=h.os
 tape:=h.tape
 output:=h.output
 K:=h.K
 sm:=h.sm
 d_:=fun b hb hr=>⟨nH (h.d_ b hb hr).1,(h.d_ b hb hr).2⟩
 iT:=fun b τ hb hr=>by
   rcases h.iT b τ hb hr with h1 | ⟨τ',h1⟩
   · exact .inl (nH h1)
   · cases hm:m τ' with
     | none=>exact .inl (oN h1 hm)
     | some k=>exact .inr ⟨k,wx h1 hm⟩
 hH:=h.hH
def nI (N:Nat):lX→lX
 | .tok k=>.tok (k+N)
 | .shr s=>.shr s
 | _=>.d_
def Gh.back (G:Gh) (m:Nat→Option Nat) (G1:Gh) (n N:Nat):Gh:=
 { K:=G1.K,
   role:=fun b=>if b<n then (match G.role b with | .shr _=>nI N (G1.role b) | .tok τ=>(match m τ with | some _=>nI N (G1.role b) | none=>.tok τ) | r=>r) else nI N (G1.role b),
   pm:=G.pm,sm:=G1.sm,
   tk:=fun τ=>if τ<N then (match G.tk τ with | some t=>(match m τ with | some _=>some { t with base:=none,len:=t.len+1,cap:=t.len+1,own:=false } | none=>some t) | none=>none) else G1.tk (τ-N) }
theorem su {G1 G':Gh} {N:Nat} (hK:G1.K.le G'.K) (hs:∀s b,G1.sm s=some b→G'.sm s=some b) (ht:∀τ t,G1.tk τ=some t→G'.tk (τ+N)=some t) {x:AV} {v:Value} (hp:iq x=true) (h:au (num ns) G1 x v):au (num ns) G' (fK N x) v:=by
 cases x with
 | own l τ=>
   simp only [fK,au] at h ⊢
   obtain ⟨t,e1,e2,e3,e4⟩:=h
   exact ⟨t,ht _ _ e1,e2,e3.mono hK,fun hl=>⟨(e4 hl).1,MI (e4 hl).2 fun ⟨b,o,e,r⟩=>⟨b,o,e,Row.mono hK _ _ _ _ r⟩⟩⟩
 | _=>
   simp only [fK]
   exact mM (G:=G1) (G':=G') hK hs (by simpa [iq] using hp) h
theorem qJ {G1 G':Gh} {N:Nat} (hK:G1.K.le G'.K) (hs:∀s b,G1.sm s=some b→G'.sm s=some b) (ht:∀τ t,G1.tk τ=some t→G'.tk (τ+N)=some t):∀{xs:List AV} {vs:List Value},fJ xs=true→aw (num ns) G1 xs vs→aw (num ns) G' (xs.map (fK N)) vs
 | [],_,_,h=>by simpa only [List.map_nil,aw] using h
 | x::xs,_,hp,h=>by
   simp only [fJ,Bool.and_eq_true] at hp
   simp only [List.map_cons,aw] at h ⊢
   obtain ⟨v,r,e,e1,e2⟩:=h
   exact ⟨v,r,e,su hK hs ht hp.1 e1,qJ hK hs ht hp.2 e2⟩
theorem uR {G1 G':Gh} {N:Nat} (hK:G1.K.le G'.K) (hs:∀s b,G1.sm s=some b→G'.sm s=some b) (ht:∀τ t,G1.tk τ=some t→G'.tk (τ+N)=some t) {x:AV} {v:Value} (hp:cp x=true) (h:au (num ns) G1 x v):au (num ns) G' (cM N x) v:=by
 cases x with
 | own l τ=>exact su (x:=.own l τ) hK hs ht rfl h
 | agg cs=>
   simp only [cM]
   split
   · rename_i hf
     exact gQ (G:=G1) (G':=G') hK hs (by simpa [bP] using hf) h
   · simp only [au] at h ⊢
     obtain ⟨vs,e,r⟩:=h
     exact ⟨vs,e,qJ hK hs ht (by simpa [cp] using hp) r⟩
 | _=>
   simp only [cM]
   exact mM (G:=G1) (G':=G') hK hs (by simpa [cp] using hp) h
theorem nJ {G1 G':Gh} {N:Nat} (hK:G1.K.le G'.K) (hs:∀s b,G1.sm s=some b→G'.sm s=some b) (ht:∀τ t,G1.tk τ=some t→G'.tk (τ+N)=some t):∀{xs:List AV} {vs:List Value},xs.all cp=true→aw (num ns) G1 xs vs→aw (num ns) G' (xs.map (cM N)) vs
 | [],_,_,h=>by simpa only [List.map_nil,aw] using h
 | x::xs,_,hp,h=>by
   simp only [List.all_cons,Bool.and_eq_true] at hp
   simp only [List.map_cons,aw] at h ⊢
   obtain ⟨v,r,e,e1,e2⟩:=h
   exact ⟨v,r,e,uR hK hs ht hp.1 e1,nJ hK hs ht hp.2 e2⟩
theorem Ek {m:Nat→Option Nat} {G1:Gh} {n N:Nat}:∀τ t,G1.tk τ=some t→(G.back m G1 n N).tk (τ+N)=some t:=by
 intro τ t h
 simp only [Gh.back]
 rw [if_neg (by omega),Nat.add_sub_cancel]
 exact h
theorem FL {m:Nat→Option Nat} {G1:Gh} {n N:Nat} {xs:List AV} {vs:List Value} (hp:xs.all cp=true) (h:aw (num ns) G1 xs vs):aw (num ns) (G.back m G1 n N) (xs.map (cM N)) vs:=
 nJ (G1:=G1) (G':=G.back m G1 n N) (N:=N) (bB.le_refl G1.K) (fun _ _ h=>h) Ek hp h
theorem yJ {N n:Nat} {x:AV} (h:aM n x=true):aM n (fK N x)=true:=by
 cases x with
 | own _ _=>rfl
 | _=>exact h
theorem oO {N n:Nat}:∀{xs:List AV},aM.cU n xs=true→aM.cU n (xs.map (fK N))=true
 | [],_=>rfl
 | x::xs,h=>by
   simp only [aM.cU,Bool.and_eq_true] at h
   simp only [List.map_cons,aM.cU,yJ h.1,oO h.2,Bool.and_self]
theorem yK {N n:Nat} {x:AV} (h:aM n x=true):aM n (cM N x)=true:=by
 cases x with
 | own _ _=>rfl
 | agg cs=>
   simp only [cM]
   split
   · exact h
   · simp only [aM] at h ⊢
     exact oO h
 | _=>exact h
theorem yL {N:Nat} {x:AV} (h:bm x=true):bm (cM N x)=true:=by
 cases x with
 | own _ _=>rfl
 | agg _=>simp [bm] at h
 | _=>exact h
theorem Inv.back {G1:Gh} {w1:World} {mem:List (Nat×List AV)} {sh sh':Sh} {ae aQ ts ts':aH} {m:Nat→Option Nat} {tks:List Tk} (hi:Inv (num ns) G w mem sh ae) (hN:NS G aQ ts m tks) (hol:aQ.length=ae.length)
   (h1:Inv (num ns) G1 w1 [] sh' ts') (he:bZ (G.to m tks) w G1 w1) :
   Inv (num ns) (G.back m G1 w.heap.size ae.length) w1 mem (ix ae.length sh') (aQ++ts')∧G.le (G.back m G1 w.heap.size ae.length)∧bZ G w (G.back m G1 w.heap.size ae.length) w1:=by
 have htl:∀τ t,G.tk τ=some t→τ<ae.length:=fun τ t h=>(List.getElem?_eq_some_iff.1 (hi.fo τ t h)).1
 have tkNone:∀τ t,G.tk τ=some t→m τ=none→(G.back m G1 w.heap.size ae.length).tk τ=some t:=by
   intro τ t h hm
   simp only [Gh.back,if_pos (htl τ t h),h,hm]
 have tkSome:∀τ t k,G.tk τ=some t→m τ=some k→(G.back m G1 w.heap.size ae.length).tk τ=some { t with base:=none,len:=t.len+1,cap:=t.len+1,own:=false }:=by
   intro τ t k h hm
   simp only [Gh.back,if_pos (htl τ t h),h,hm]
 have hle:G.le (G.back m G1 w.heap.size ae.length):=⟨he.K,fun _ _ h=>h,he.sm,fun τ t h=>by
   cases hm:m τ with
   | none=>exact ⟨t,tkNone τ t h hm,⟨Nat.le_refl _,Tk.gZ _⟩,fun _=>rfl⟩
   | some k=>exact ⟨_,tkSome τ t k h hm,⟨by simp,fun _=>⟨rfl,by simp⟩,.inl ⟨rfl,by simp⟩⟩,fun e=>by simp at e⟩⟩
 have rImm:∀b,b<w.heap.size→G.role b=.d_→(G.back m G1 w.heap.size ae.length).role b=.d_:=by intro b hb hr;simp only [Gh.back,if_pos hb,hr]
 have rPriv:∀b d,b<w.heap.size→G.role b=.lK d→(G.back m G1 w.heap.size ae.length).role b=.lK d:=by intro b d hb hr;simp only [Gh.back,if_pos hb,hr]
 have rFree:∀b τ,b<w.heap.size→G.role b=.tok τ→m τ=none→(G.back m G1 w.heap.size ae.length).role b=.tok τ:=by intro b τ hb hr hm;simp only [Gh.back,if_pos hb,hr,hm]
 have rTok:∀b τ k,b<w.heap.size→G.role b=.tok τ→m τ=some k→(G.back m G1 w.heap.size ae.length).role b=nI ae.length (G1.role b):=by intro b τ k hb hr hm;simp only [Gh.back,if_pos hb,hr,hm]
 have rShr:∀b s,b<w.heap.size→G.role b=.shr s→(G.back m G1 w.heap.size ae.length).role b=nI ae.length (G1.role b):=by intro b s hb hr;simp only [Gh.back,if_pos hb,hr]
 have rNew:∀b,¬b<w.heap.size→(G.back m G1 w.heap.size ae.length).role b=nI ae.length (G1.role b):=by intro b hb;simp only [Gh.back,if_neg hb]
 have rOut:∀b,G1.role b≠.d_→(G.back m G1 w.heap.size ae.length).role b=nI ae.length (G1.role b):=by
   intro b hn
   by_cases hb:b<w.heap.size
   · cases hr:G.role b with
     | shr s=>exact rShr b s hb hr
     | d_=>exact absurd (he.d_ b hb (nH hr)).1 hn
     | lK d=>exact absurd (he.d_ b hb (wy hr)).1 hn
     | tok τ=>
       cases hm:m τ with
       | none=>exact absurd (he.d_ b hb (oN hr hm)).1 hn
       | some k=>exact rTok b τ k hb hr hm
   · exact rNew b hb
 have shKnown:∀b o v,G1.K b o=some v→nI ae.length (G1.role b)=.d_∨∃τ,nI ae.length (G1.role b)=.tok τ:=by
   intro b o v hk
   rcases h1.bt b o v hk with h | ⟨τ,h⟩
   · left;rw [h];rfl
   · right;exact ⟨τ+ae.length,by rw [h];rfl⟩
 refine ⟨⟨h1.known,?_,?_,?_,hi.g_,?_,?_,?_,?_⟩,hle,?_⟩
 · intro b o v hk
   have hk1:G1.K b o=some v:=hk
   by_cases hb:b<w.heap.size
   · cases hr:G.role b with
     | shr s=>rw [rShr b s hb hr];exact shKnown b o v hk1
     | d_=>exact .inl (rImm b hb hr)
     | tok τ=>
       cases hm:m τ with
       | none=>exact .inr ⟨τ,rFree b τ hb hr hm⟩
       | some k=>rw [rTok b τ k hb hr hm];exact shKnown b o v hk1
     | lK d=>
       exfalso
       have hk0:G.K b o=some v:=he.hH b o v hb (wy hr) hk1
       rcases hi.bt b o v hk0 with h | ⟨τ,h⟩<;>rw [hr] at h<;>simp at h
   · rw [rNew b hb];exact shKnown b o v hk1
 · intro b hb
   have:=he.size
   rw [rNew b (by omega),h1.fresh b hb];rfl
 · intro d cs hd
   obtain ⟨b,e1,e2,e3⟩:=hi.cW d cs hd
   obtain ⟨hr,c,t,hh,hrel⟩:=e2
   have hb:=cT hh
   exact ⟨b,e1,⟨rPriv b d hb hr,c,t,((he.d_ b hb (wy hr)).2).trans hh,aw.mono hle hrel⟩,e3⟩
 · intro s cs0 hs0
   simp only [ix,List.getElem?_map,Option.map_eq_some_iff] at hs0
   obtain ⟨o,hs,ho⟩:=hs0
   cases o with
   | none=>simp at ho
   | some cs=>
     simp at ho
     subst ho
     obtain ⟨b,e1,e2,e3,e4⟩:=h1.dp s cs hs
     obtain ⟨hr,o,hh,hrel⟩:=e2
     refine ⟨b,e1,⟨?_,o,hh,hrel.to (fun _ _ _ h=>h) (fun kvs e=>by subst e;rfl) (fun _ r=>FL (jf e3) r)⟩,?_,?_⟩
     · rw [rOut b.1 (by rw [hr];simp),hr];rfl
     · rw [List.all_eq_true]
       intro x hx
       obtain ⟨y,hy,rfl⟩:=List.mem_map.1 hx
       exact yL (List.all_eq_true.1 e3 y hy)
     · rw [List.all_eq_true]
       intro x hx
       obtain ⟨y,hy,rfl⟩:=List.mem_map.1 hx
       exact yK (List.all_eq_true.1 e4 y hy)
 · intro s b h
   have:=h1.eR s b h
   simp only [ix,List.length_map]
   exact this
 · intro τ n hn
   by_cases hτ:τ<ae.length
   · rw [List.getElem?_append_left (by omega)] at hn
     obtain ⟨t,e1,e2,e3⟩:=hi.di τ _ (List.getElem?_eq_getElem hτ)
     cases hm:m τ with
     | none=>
       have:=hN.free τ t e1 hm
       rw [hn] at this
       simp at this
       refine ⟨t,tkNone τ t e1 hm,this.symm,e3.cap,e3.zero,fun hlt=>?_⟩
       obtain ⟨b,o,c,ty,f1,f2,f3,f4,f5⟩:=e3.spare hlt
       have hb:=cT f3
       exact ⟨b,o,c,ty,f1,rFree b τ hb f2 hm,((he.d_ b hb (oN f2 hm)).2).trans f3,f4,fun j v hk=>f5 j v (he.hH b j v hb (oN f2 hm) hk)⟩
     | some k=>
       have:=hN.used τ t k e1 hm
       rw [hn] at this
       simp at this
       exact ⟨_,tkSome τ t k e1 hm,this.symm,⟨Nat.le_refl _,fun h=>by simp at h,fun h=>by simp at h⟩⟩
   · rw [List.getElem?_append_right (by omega),hol] at hn
     obtain ⟨t,e1,e2,e3⟩:=h1.di _ n hn
     refine ⟨t,by simp only [Gh.back,if_neg hτ];exact e1,e2,e3.cap,e3.zero,fun hlt=>?_⟩
     obtain ⟨b,o,c,ty,f1,f2,f3,f4,f5⟩:=e3.spare hlt
     refine ⟨b,o,c,ty,f1,?_,f3,f4,f5⟩
     rw [rOut b (by rw [f2];simp),f2]
     simp only [nI]
     rw [Nat.sub_add_cancel (by omega)]
 · intro τ t ht
   simp only [Gh.back] at ht
   split at ht
   · rename_i hτ
     rw [List.getElem?_append_left (by omega)]
     split at ht
     · rename_i t0 h0
       split at ht
       · rename_i k hm
         simp at ht;subst ht
         exact hN.used τ t0 k h0 hm
       · rename_i hm
         simp at ht;subst ht
         exact hN.free τ t0 h0 hm
     · simp at ht
   · rename_i hτ
     rw [List.getElem?_append_right (by omega),hol]
     exact h1.fo _ t ht
 · exact { size:=he.size,os:=he.os,tape:=he.tape,output:=he.output,K:=he.K,sm:=he.sm,
           d_:=fun b hb hr=>⟨rImm b hb hr,(he.d_ b hb (nH hr)).2⟩
           iT:=fun b τ hb hr=>by
             cases hm:m τ with
             | none=>exact .inr ⟨τ,rFree b τ hb hr hm⟩
             | some k=>
               rw [rTok b τ k hb hr hm]
               rcases he.iT b k hb (wx hr hm) with h | ⟨τ',h⟩
               · left;rw [h];rfl
               · right;exact ⟨τ'+ae.length,by rw [h];rfl⟩
           hH:=fun b o v hb hr hk=>he.hH b o v hb (nH hr) hk }
theorem oP {G1 G':Gh} {N:Nat} (hK:G1.K.le G'.K) (hs:∀s b,G1.sm s=some b→G'.sm s=some b) (ht:∀τ t,G1.tk τ=some t→G'.tk (τ+N)=some t) {rs:List AV} {v:Value} (hp:rs.all cp=true) (h:dJ (num ns) G1 rs v):dJ (num ns) G' (rs.map (cM N)) v:=by
 unfold dJ at h
 split at h
 · rename_i r
   simp only [List.all_cons,List.all_nil,Bool.and_true] at hp
   simp only [List.map_cons,List.map_nil,dJ]
   exact uR hK hs ht hp h
 · rename_i hn
   obtain ⟨vs,e,h⟩:=h
   unfold dJ
   split
   · rename_i r he
     cases rs with
     | nil=>simp at he
     | cons a rs=>
       cases rs with
       | nil=>exact absurd rfl (hn a)
       | cons _ _=>simp at he
   · exact ⟨vs,e,nJ hK hs ht hp h⟩
theorem yM {m:Nat→Option Nat} {G1:Gh} {n N:Nat} {rs:List AV} {v:Value} (hp:rs.all cp=true) (h:dJ (num ns) G1 rs v):dJ (num ns) (G.back m G1 n N) (rs.map (cM N)) v:=
 oP (G1:=G1) (G':=G.back m G1 n N) (N:=N) (bB.le_refl G1.K) (fun _ _ h=>h) Ek hp h
def Tw (N:Nat):lX→lX
 | .tok k=>.tok (k+N)
 | _=>.d_
def Gh.Em (G:Gh):Gh:={ K:=G.K,role:=fun _=>.d_,pm:=fun _=>none,sm:=fun _=>none,tk:=fun _=>none }
theorem Inv.Em {mem:List (Nat×List AV)} {sh:Sh} {ae:aH} (hi:Inv (num ns) G w mem sh ae):Inv (num ns) G.Em w [] [] [] where
 known:=hi.known
 bt:=fun _ _ _ _=>.inl rfl
 fresh:=fun _ _=>rfl
 cW:=fun d c h=>by simp [look] at h
 g_:=fun d b h=>by simp [Gh.Em] at h
 dp:=fun s c h=>by simp at h
 eR:=fun s b h=>by simp [Gh.Em] at h
 di:=fun τ n h=>by simp at h
 fo:=fun τ t h=>by simp [Gh.Em] at h
def Gh.iO (G:Gh) (G1:Gh) (n N:Nat):Gh:=
 { K:=G1.K,role:=fun b=>if b<n then G.role b else Tw N (G1.role b),pm:=G.pm,sm:=G.sm,tk:=fun τ=>if τ<N then G.tk τ else G1.tk (τ-N) }
theorem Inv.iO {G1:Gh} {w1:World} {mem:List (Nat×List AV)} {sh:Sh} {ae ts':aH} (hi:Inv (num ns) G w mem sh ae)
   (h1:Inv (num ns) G1 w1 [] [] ts') (he:bZ G.Em w G1 w1) :
   Inv (num ns) (G.iO G1 w.heap.size ae.length) w1 mem sh (ae++ts')∧G.le (G.iO G1 w.heap.size ae.length)∧bZ G w (G.iO G1 w.heap.size ae.length) w1:=by
 have htl:∀τ t,G.tk τ=some t→τ<ae.length:=fun τ t h=>(List.getElem?_eq_some_iff.1 (hi.fo τ t h)).1
 have hK:G.K.le G1.K:=he.K
 have rOld:∀b,b<w.heap.size→(G.iO G1 w.heap.size ae.length).role b=G.role b:=fun b hb=>by simp only [Gh.iO,if_pos hb]
 have rNew:∀b,¬b<w.heap.size→(G.iO G1 w.heap.size ae.length).role b=Tw ae.length (G1.role b):=fun b hb=>by simp only [Gh.iO,if_neg hb]
 have same:∀b,b<w.heap.size→w1.heap[b]?=w.heap[b]?:=fun b hb=>(he.d_ b hb rfl).2
 have Kold:∀b o v,b<w.heap.size→G1.K b o=some v→G.K b o=some v:=fun b o v hb hk=>he.hH b o v hb rfl hk
 have hle:G.le (G.iO G1 w.heap.size ae.length):=⟨hK,fun _ _ h=>h,fun _ _ h=>h,fun τ t h=>⟨t,by simp only [Gh.iO,if_pos (htl τ t h)];exact h,⟨Nat.le_refl _,Tk.gZ _⟩,fun _=>rfl⟩⟩
 refine ⟨⟨h1.known,?_,?_,?_,hi.g_,?_,hi.eR,?_,?_⟩,hle,?_⟩
 · intro b o v hk
   by_cases hb:b<w.heap.size
   · rw [rOld b hb];exact hi.bt b o v (Kold b o v hb hk)
   · rw [rNew b hb]
     rcases h1.bt b o v hk with h | ⟨τ,h⟩
     · left;rw [h];rfl
     · right;exact ⟨τ+ae.length,by rw [h];rfl⟩
 · intro b hb
   have:=he.size
   rw [rNew b (by omega),h1.fresh b hb];rfl
 · intro d cs hd
   obtain ⟨b,e1,e2,e3⟩:=hi.cW d cs hd
   have hlt:b<w.heap.size:=by obtain ⟨_,_,_,hh,_⟩:=e2;exact cT hh
   exact ⟨b,e1,e2.mono hle (rOld b hlt) (same b hlt),e3⟩
 · intro s cs hs
   obtain ⟨b,e1,e2,e3⟩:=hi.dp s cs hs
   have hlt:b.1<w.heap.size:=e2.lt
   exact ⟨b,e1,e2.mono hle (rOld b.1 hlt) (same b.1 hlt),e3⟩
 · intro τ n hn
   by_cases hτ:τ<ae.length
   · rw [List.getElem?_append_left hτ] at hn
     obtain ⟨t,e1,e2,e3⟩:=hi.di τ n hn
     refine ⟨t,by simp only [Gh.iO,if_pos hτ];exact e1,e2,e3.cap,e3.zero,fun hlt=>?_⟩
     obtain ⟨b,o,c,ty,f1,f2,f3,f4,f5⟩:=e3.spare hlt
     have hlt':=cT f3
     exact ⟨b,o,c,ty,f1,(rOld b hlt').trans f2,(same b hlt').trans f3,f4,fun j v hkk=>f5 j v (Kold b j v hlt' hkk)⟩
   · rw [List.getElem?_append_right (by omega)] at hn
     obtain ⟨t,e1,e2,e3⟩:=h1.di _ n hn
     refine ⟨t,by simp only [Gh.iO,if_neg hτ];exact e1,e2,e3.cap,e3.zero,fun hlt=>?_⟩
     obtain ⟨b,o,c,ty,f1,f2,f3,f4,f5⟩:=e3.spare hlt
     have hb:¬b<w.heap.size:=fun hb=>by
       have:=(he.d_ b hb rfl).1
       rw [f2] at this;cases this
     refine ⟨b,o,c,ty,f1,?_,f3,f4,f5⟩
     rw [rNew b hb,f2]
     simp only [Tw]
     rw [Nat.sub_add_cancel (by omega)]
 · intro τ t ht
   simp only [Gh.iO] at ht
   split at ht
   · rename_i hτ
     rw [List.getElem?_append_left hτ]
     exact hi.fo τ t ht
   · rename_i hτ
     rw [List.getElem?_append_right (by omega)]
     exact h1.fo _ t ht
 · exact { size:=he.size,os:=he.os,tape:=he.tape,output:=he.output,K:=hK,sm:=fun _ _ h=>h,
           d_:=fun b hb hr=>⟨(rOld b hb).trans hr,same b hb⟩
           iT:=fun b τ hb hr=>.inr ⟨τ,(rOld b hb).trans hr⟩
           hH:=fun b o v hb _ hk=>Kold b o v hb hk }
theorem FM {G1:Gh} {w1:World} {ts':aH} {n N:Nat} (h1:Inv (num ns) G1 w1 [] [] ts') {rs:List AV} {v:Value} (hp:rs.all cp=true) (h:dJ (num ns) G1 rs v):dJ (num ns) (G.iO G1 n N) (rs.map (cM N)) v:=
 oP (G1:=G1) (G':=G.iO G1 n N) (N:=N) (bB.le_refl G1.K) (fun s b h=>by have:=h1.eR s b h;simp at this) (fun τ t h=>by simp only [Gh.iO];rw [if_neg (by omega),Nat.add_sub_cancel];exact h) hp h
end
end Go.Ab
