import Derived.Test.YtfhhognolpjikaaGreatAbNorm2
/-
  Handing over to a callee and taking back.
-/
set_option linter.unusedVariables false
set_option linter.unusedSimpArgs false
set_option maxRecDepth 100000
set_option maxHeartbeats 8000000
namespace Go.Ab
section
variable {P:Program} {ns:Names} {G:Gh} {w:World}
theorem vP {x:AV} (h:gF x=true):gE x=true:=by
 cases x with
 | own _ _=>rfl
 | _=>simpa [gE,gF] using jJ (by simpa [gF] using h)
theorem jM:∀{xs:List AV},eM xs=true→fF xs=true
 | [],_=>rfl
 | x::xs,h=>by
   simp only [eM,Bool.and_eq_true] at h
   simp only [fF,vP h.1,jM h.2,Bool.and_self]
theorem vQ {x:AV} (h:bX x=true):j_ x=true:=by
 cases x with
 | own _ _=>rfl
 | az _ _=>rfl
 | agg cs=>simp only [j_];exact jM (by simpa [bX] using h)
 | _=>simpa [j_,bX] using jJ (by simpa [bX] using h)
theorem vR {aQ ts:aL} {x:AV} (h:gF x=true):gF (dz aQ ts x).1=true:=by
 unfold dz
 split
 · split<;>rfl
 · exact h
theorem o5:∀{xs:List AV} {aQ ts:aL},eM xs=true→eM (cL aQ ts xs).1=true
 | [],_,_,_=>rfl
 | x::xs,aQ,ts,h=>by
   simp only [eM,Bool.and_eq_true] at h
   simp only [cL,eM,vR h.1,Bool.true_and]
   exact o5 h.2
theorem vS {aQ ts:aL} {x:AV} (h:bX x=true):bX (bP aQ ts x).1=true:=by
 unfold bP
 split
 · split<;>rfl
 · rfl
 · split
   · exact h
   · simp only [bX] at h ⊢
     exact o5 h
 · exact h
theorem gX:∀{xs:List AV} {aQ ts:aL},xs.all bX=true→(bz aQ ts xs).1.all bX=true
 | [],_,_,_=>rfl
 | x::xs,aQ,ts,h=>by
   simp only [List.all_cons,Bool.and_eq_true] at h
   simp only [bz,List.all_cons,vS h.1,Bool.true_and]
   exact gX h.2
theorem vT {x:AV} (h:bf x=true):bX x=true:=by
 cases x with
 | own _ _=>rfl
 | fn g cap=>simpa [bf,bX] using h
 | pv _=>rfl
 | bB _=>rfl
 | aX _ _=>rfl
 | bq _ _ _ _=>rfl
 | dk=>rfl
 | cp _=>rfl
 | dj _=>rfl
 | _=>simp [bf] at h
theorem iq {xs:List AV} (h:xs.all bf=true):xs.all bX=true:=by
 rw [List.all_eq_true] at *
 exact fun x hx=>vT (h x hx)
theorem mQ:∀{xs:List AV} {vs:List Value} {aQ ts:aL} {m:Nat→Option Nat} {tks:List Tk},NS G aQ ts m tks→xs.all bX=true→aA (num ns) G xs vs →
   ∃m' tks',CW ns G m tks (bz aQ ts xs).2.1 (bz aQ ts xs).2.2 m' tks'∧aA (num ns) (G.nM m' tks') (bz aQ ts xs).1 vs
 | [],vs,aQ,ts,m,tks,hN,_,h=>⟨m,tks,⟨hN,[],by simp [bz]⟩,by simpa only [bz,aA] using h⟩
 | x::xs,vs,aQ,ts,m,tks,hN,hp,h=>by
   simp only [List.all_cons,Bool.and_eq_true] at hp
   simp only [aA] at h
   obtain ⟨v,r,e,e1,e2⟩:=h
   subst e
   obtain ⟨m1,t1,g1,g2⟩:=kA hN (vQ hp.1) e1
   obtain ⟨m2,t2,k1,k2⟩:=mQ g1.vO hp.2 e2
   refine ⟨m2,t2,⟨k1.vO,?_⟩,?_⟩
   · obtain ⟨a,ha⟩:=g1.ext
     obtain ⟨b,hb⟩:=k1.ext
     exact ⟨a++b,by rw [hb,ha,List.append_assoc]⟩
   · simp only [bz,aA]
     exact ⟨v,r,rfl,g2.mono k1.le,k2⟩
theorem CX {aQ ts:aL} {x:AV}:(dz aQ ts x).2.1.length=aQ.length:=by
 unfold dz
 split
 · split<;>simp
 · rfl
theorem qq:∀{xs:List AV} {aQ ts:aL},(cL aQ ts xs).2.1.length=aQ.length
 | [],_,_=>rfl
 | x::xs,aQ,ts=>by simp only [cL];rw [qq,CX]
theorem CY {aQ ts:aL} {x:AV}:(bP aQ ts x).2.1.length=aQ.length:=by
 unfold bP
 split
 · split<;>simp
 · rfl
 · split
   · rfl
   · exact qq
 · rfl
theorem nN:∀{xs:List AV} {aQ ts:aL},(bz aQ ts xs).2.1.length=aQ.length
 | [],_,_=>rfl
 | x::xs,aQ,ts=>by simp only [bz];rw [nN,CY]
theorem nO:∀{sh:Sh} {aQ ts:aL},(bC aQ ts sh).2.1.length=aQ.length
 | [],_,_=>rfl
 | none::sh,aQ,ts=>by simp only [bC];exact nO
 | some cs::sh,aQ,ts=>by simp only [bC];rw [nO,nN]
def Gh.to (G:Gh) (m:Nat→Option Nat) (tks:List Tk):Gh:=
 { K:=G.K,role:=fun b=>match G.role b with | .shr s=>.shr s | .tok τ=>(match m τ with | some k=>.tok k | none=>.dO) | _=>.dO,pm:=fun _=>none,sm:=G.sm,tk:=fun k=>tks[k]? }
theorem MW {m:Nat→Option Nat} {tks:List Tk} {b s:Nat} (h:G.role b=.shr s):(G.to m tks).role b=.shr s:=by simp [Gh.to,h]
theorem tU {m:Nat→Option Nat} {tks:List Tk} {b τ k:Nat} (h:G.role b=.tok τ) (hm:m τ=some k):(G.to m tks).role b=.tok k:=by simp [Gh.to,h,hm]
theorem mR {m:Nat→Option Nat} {tks:List Tk} {b τ:Nat} (h:G.role b=.tok τ) (hm:m τ=none):(G.to m tks).role b=.dO:=by simp [Gh.to,h,hm]
theorem l5 {m:Nat→Option Nat} {tks:List Tk} {b:Nat} (h:G.role b=.dO):(G.to m tks).role b=.dO:=by simp [Gh.to,h]
theorem tV {m:Nat→Option Nat} {tks:List Tk} {b d:Nat} (h:G.role b=.mF d):(G.to m tks).role b=.dO:=by simp [Gh.to,h]
theorem yL {ρ:ca} {G':Gh} (hK:G.K.le G'.K) (hs:∀s b,G.sm s=some b→G'.sm s=some b) (ht:∀τ t,G.tk τ=some t→G'.tk τ=some t) {xs:List AV} {vs:List Value} (hp:eM xs=true) (h:aA ρ G xs vs):aA ρ G' xs vs:=
 l4 hK hs ht (jM hp) h
theorem CZ {ρ:ca} {G':Gh} (hK:G.K.le G'.K) (hs:∀s b,G.sm s=some b→G'.sm s=some b) (ht:∀τ t,G.tk τ=some t→G'.tk τ=some t) {x:AV} {v:Value} (hp:bX x=true) (h:aC ρ G x v):aC ρ G' x v:=by
 cases x with
 | own l τ=>
   simp only [aC] at h ⊢
   obtain ⟨t,e1,e2,e3,e4⟩:=h
   exact ⟨t,ht _ _ e1,e2,e3.mono hK,fun hl=>⟨(e4 hl).1,J4 (e4 hl).2 fun ⟨b,o,e,r⟩=>⟨b,o,e,Row.mono hK _ _ _ _ r⟩⟩⟩
 | agg cs=>
   simp only [aC] at h ⊢
   obtain ⟨vs,e,r⟩:=h
   exact ⟨vs,e,yL hK hs ht (by simpa [bX] using hp) r⟩
 | _=>exact lb hK hs (by simpa [bX] using hp) h
theorem iK {ρ:ca} {G':Gh} (hK:G.K.le G'.K) (hs:∀s b,G.sm s=some b→G'.sm s=some b) (ht:∀τ t,G.tk τ=some t→G'.tk τ=some t):∀{xs:List AV} {vs:List Value},xs.all bX=true→aA ρ G xs vs→aA ρ G' xs vs
 | [],_,_,h=>by simpa only [aA] using h
 | x::xs,_,hp,h=>by
   simp only [List.all_cons,Bool.and_eq_true] at hp
   simp only [aA] at h ⊢
   obtain ⟨v,r,e,e1,e2⟩:=h
   exact ⟨v,r,e,CZ hK hs ht hp.1 e1,iK hK hs ht hp.2 e2⟩
theorem Inv.Gq {mem:List (Nat×List AV)} {sh:Sh} {ah:aL} (hi:Inv (num ns) G w mem sh ah) {xs:List AV} {vs:List Value} (hp:xs.all bX=true) (hr:aA (num ns) G xs vs) :
   ∃m tks,NS G (cZ ah xs sh).2.2.1 (cZ ah xs sh).2.2.2 m tks∧Inv (num ns) (G.to m tks) w [] (cZ ah xs sh).2.1 (cZ ah xs sh).2.2.2∧aA (num ns) (G.to m tks) (cZ ah xs sh).1 vs:=by
 obtain ⟨m0,tks0,hR,hrel⟩:=mQ (NS.start hi) hp hr
 obtain ⟨m,tks,q1,q2,q3⟩:=i7 (Go.Ab.jL G w) hR.vO hi.jL
 have hN:=q1.vO
 refine ⟨m,tks,hN,?_,iK (G:=G.nM m tks) (G':=G.to m tks) (bF.le_refl _) (fun _ _ h=>h) (fun _ _ h=>h) (gX hp) (aA.mono q1.le hrel)⟩
 constructor
 · exact hi.known
 · intro b o v hk
   rcases hi.bo b o v hk with h | ⟨τ,h⟩
   · exact .inl (l5 h)
   · cases hm:m τ with
     | none=>exact .inl (mR h hm)
     | some k=>exact .inr ⟨k,tU h hm⟩
 · intro b hb;exact l5 (hi.fresh b hb)
 · intro d cells h;simp [look] at h
 · intro d b h;simp [Gh.to] at h
 · refine hi.L1 (G':=G.to m tks) (fun _=>rfl) (fun b s hr=>MW hr) fun s cells' hs=>?_
   obtain ⟨cells,h1,h2,h3,h4⟩:=q3 s cells' hs
   obtain ⟨o,h2,h2'⟩:=h2
   exact ⟨cells,h1,⟨o,h2,h2'.to (fun _ _ _ h=>h) (fun _ e=>e) (fun _ r=>iK (G:=G.nM m tks) (G':=G.to m tks) (bF.le_refl _) (fun _ _ h=>h) (fun _ _ h=>h) (iq h3) r)⟩,h3,h4⟩
 · intro s b hs
   have:=hi.eY s b hs
   have e:(cZ ah xs sh).2.1.length=sh.length:=q2
   omega
 · intro k n hn
   have hts:(cZ ah xs sh).2.2.2=tks.map (·.len):=hN.ts
   rw [hts,List.getElem?_map,Option.map_eq_some_iff] at hn
   obtain ⟨t,ht,rfl⟩:=hn
   refine ⟨t,ht,rfl,?_⟩
   rcases hN.cap k t ht with ⟨τ,hτ⟩ | hc
   · obtain ⟨t',h1,h2⟩:=hN.map τ k hτ
     rw [ht] at h2;cases h2
     obtain ⟨t'',e1,e2,e3⟩:=hi.dg τ _ (hi.eZ τ t h1)
     rw [h1] at e1;cases e1
     refine ⟨e3.cap,e3.zero,fun hlt=>?_⟩
     obtain ⟨b,o,c,ty,f1,f2,f3,f4,f5⟩:=e3.spare hlt
     exact ⟨b,o,c,ty,f1,tU f2 hτ,f3,f4,f5⟩
   · exact ⟨by omega,fun h=>by omega,fun h=>by omega⟩
 · intro k t ht
   have hts:(cZ ah xs sh).2.2.2=tks.map (·.len):=hN.ts
   rw [hts,List.getElem?_map]
   have ht':tks[k]?=some t:=ht
   rw [ht'];rfl
theorem C0 {ah:aL} {xs:List AV} {sh:Sh}:(cZ ah xs sh).2.2.1.length=ah.length:=by
 unfold cZ
 simp only [nO,nN]
theorem cm.to {G1:Gh} {w1:World} (h:cm G w G1 w1) (m:Nat→Option Nat) (tks:List Tk):cm G w (G1.to m tks) w1 where
 size:=h.size
 os:=h.os
 tape:=h.tape
 output:=h.output
 K:=h.K
 sm:=h.sm
 dO:=fun b hb hr=>⟨l5 (h.dO b hb hr).1,(h.dO b hb hr).2⟩
 ik:=fun b τ hb hr=>by
   rcases h.ik b τ hb hr with h1 | ⟨τ',h1⟩
   · exact .inl (l5 h1)
   · cases hm:m τ' with
     | none=>exact .inl (mR h1 hm)
     | some k=>exact .inr ⟨k,tU h1 hm⟩
 gr:=h.gr
def l6 (N:Nat):kp→kp
 | .tok k=>.tok (k+N)
 | .shr s=>.shr s
 | _=>.dO
def Gh.back (G:Gh) (m:Nat→Option Nat) (G1:Gh) (n N:Nat):Gh:=
 { K:=G1.K,
   role:=fun b=>if b<n then (match G.role b with | .shr _=>l6 N (G1.role b) | .tok τ=>(match m τ with | some _=>l6 N (G1.role b) | none=>.tok τ) | r=>r) else l6 N (G1.role b),
   pm:=G.pm,sm:=G1.sm,
   tk:=fun τ=>if τ<N then (match G.tk τ with | some t=>(match m τ with | some _=>some { t with len:=t.len+1,cap:=t.len+1 } | none=>some t) | none=>none) else G1.tk (τ-N) }
theorem qt {G1 G':Gh} {N:Nat} (hK:G1.K.le G'.K) (hs:∀s b,G1.sm s=some b→G'.sm s=some b) (ht:∀τ t,G1.tk τ=some t→G'.tk (τ+N)=some t) {x:AV} {v:Value} (hp:gF x=true) (h:aC (num ns) G1 x v):aC (num ns) G' (eN N x) v:=by
 cases x with
 | own l τ=>
   simp only [eN,aC] at h ⊢
   obtain ⟨t,e1,e2,e3,e4⟩:=h
   exact ⟨t,ht _ _ e1,e2,e3.mono hK,fun hl=>⟨(e4 hl).1,J4 (e4 hl).2 fun ⟨b,o,e,r⟩=>⟨b,o,e,Row.mono hK _ _ _ _ r⟩⟩⟩
 | _=>
   simp only [eN]
   exact lb (G:=G1) (G':=G') hK hs (by simpa [gF] using hp) h
theorem o6 {G1 G':Gh} {N:Nat} (hK:G1.K.le G'.K) (hs:∀s b,G1.sm s=some b→G'.sm s=some b) (ht:∀τ t,G1.tk τ=some t→G'.tk (τ+N)=some t):∀{xs:List AV} {vs:List Value},eM xs=true→aA (num ns) G1 xs vs→aA (num ns) G' (xs.map (eN N)) vs
 | [],_,_,h=>by simpa only [List.map_nil,aA] using h
 | x::xs,_,hp,h=>by
   simp only [eM,Bool.and_eq_true] at hp
   simp only [List.map_cons,aA] at h ⊢
   obtain ⟨v,r,e,e1,e2⟩:=h
   exact ⟨v,r,e,qt hK hs ht hp.1 e1,o6 hK hs ht hp.2 e2⟩
theorem sH {G1 G':Gh} {N:Nat} (hK:G1.K.le G'.K) (hs:∀s b,G1.sm s=some b→G'.sm s=some b) (ht:∀τ t,G1.tk τ=some t→G'.tk (τ+N)=some t) {x:AV} {v:Value} (hp:bX x=true) (h:aC (num ns) G1 x v):aC (num ns) G' (cz N x) v:=by
 cases x with
 | own l τ=>exact qt (x:=.own l τ) hK hs ht rfl h
 | agg cs=>
   simp only [cz]
   split
   · rename_i hf
     exact fJ (G:=G1) (G':=G') hK hs (by simpa [bE] using hf) h
   · simp only [aC] at h ⊢
     obtain ⟨vs,e,r⟩:=h
     exact ⟨vs,e,o6 hK hs ht (by simpa [bX] using hp) r⟩
 | _=>
   simp only [cz]
   exact lb (G:=G1) (G':=G') hK hs (by simpa [bX] using hp) h
theorem l7 {G1 G':Gh} {N:Nat} (hK:G1.K.le G'.K) (hs:∀s b,G1.sm s=some b→G'.sm s=some b) (ht:∀τ t,G1.tk τ=some t→G'.tk (τ+N)=some t):∀{xs:List AV} {vs:List Value},xs.all bX=true→aA (num ns) G1 xs vs→aA (num ns) G' (xs.map (cz N)) vs
 | [],_,_,h=>by simpa only [List.map_nil,aA] using h
 | x::xs,_,hp,h=>by
   simp only [List.all_cons,Bool.and_eq_true] at hp
   simp only [List.map_cons,aA] at h ⊢
   obtain ⟨v,r,e,e1,e2⟩:=h
   exact ⟨v,r,e,sH hK hs ht hp.1 e1,l7 hK hs ht hp.2 e2⟩
theorem BW {m:Nat→Option Nat} {G1:Gh} {n N:Nat}:∀τ t,G1.tk τ=some t→(G.back m G1 n N).tk (τ+N)=some t:=by
 intro τ t h
 simp only [Gh.back]
 rw [if_neg (by omega),Nat.add_sub_cancel]
 exact h
theorem C1 {m:Nat→Option Nat} {G1:Gh} {n N:Nat} {xs:List AV} {vs:List Value} (hp:xs.all bX=true) (h:aA (num ns) G1 xs vs):aA (num ns) (G.back m G1 n N) (xs.map (cz N)) vs:=
 l7 (G1:=G1) (G':=G.back m G1 n N) (N:=N) (bF.le_refl G1.K) (fun _ _ h=>h) BW hp h
theorem vU {N n:Nat} {x:AV} (h:aR n x=true):aR n (eN N x)=true:=by
 cases x with
 | own _ _=>rfl
 | _=>exact h
theorem mS {N n:Nat}:∀{xs:List AV},aR.cH n xs=true→aR.cH n (xs.map (eN N))=true
 | [],_=>rfl
 | x::xs,h=>by
   simp only [aR.cH,Bool.and_eq_true] at h
   simp only [List.map_cons,aR.cH,vU h.1,mS h.2,Bool.and_self]
theorem vV {N n:Nat} {x:AV} (h:aR n x=true):aR n (cz N x)=true:=by
 cases x with
 | own _ _=>rfl
 | agg cs=>
   simp only [cz]
   split
   · exact h
   · simp only [aR] at h ⊢
     exact mS h
 | _=>exact h
theorem vW {N:Nat} {x:AV} (h:bf x=true):bf (cz N x)=true:=by
 cases x with
 | own _ _=>rfl
 | agg _=>simp [bf] at h
 | _=>exact h
theorem Inv.back {G1:Gh} {w1:World} {mem:List (Nat×List AV)} {sh sh':Sh} {ah aQ ts ts':aL} {m:Nat→Option Nat} {tks:List Tk} (hi:Inv (num ns) G w mem sh ah) (hN:NS G aQ ts m tks) (hol:aQ.length=ah.length)
   (h1:Inv (num ns) G1 w1 [] sh' ts') (he:cm (G.to m tks) w G1 w1) :
   Inv (num ns) (G.back m G1 w.heap.size ah.length) w1 mem (eB ah.length sh') (aQ++ts')∧G.le (G.back m G1 w.heap.size ah.length)∧cm G w (G.back m G1 w.heap.size ah.length) w1:=by
 have htl:∀τ t,G.tk τ=some t→τ<ah.length:=fun τ t h=>(List.getElem?_eq_some_iff.1 (hi.eZ τ t h)).1
 have tkNone:∀τ t,G.tk τ=some t→m τ=none→(G.back m G1 w.heap.size ah.length).tk τ=some t:=by
   intro τ t h hm
   simp only [Gh.back,if_pos (htl τ t h),h,hm]
 have tkSome:∀τ t k,G.tk τ=some t→m τ=some k→(G.back m G1 w.heap.size ah.length).tk τ=some { t with len:=t.len+1,cap:=t.len+1 }:=by
   intro τ t k h hm
   simp only [Gh.back,if_pos (htl τ t h),h,hm]
 have hle:G.le (G.back m G1 w.heap.size ah.length):=⟨he.K,fun _ _ h=>h,he.sm,fun τ t h=>by
   cases hm:m τ with
   | none=>exact ⟨t,tkNone τ t h hm,Nat.le_refl _,fun _=>rfl⟩
   | some k=>exact ⟨_,tkSome τ t k h hm,by simp,fun e=>by simp at e⟩⟩
 have rImm:∀b,b<w.heap.size→G.role b=.dO→(G.back m G1 w.heap.size ah.length).role b=.dO:=by intro b hb hr;simp only [Gh.back,if_pos hb,hr]
 have rPriv:∀b d,b<w.heap.size→G.role b=.mF d→(G.back m G1 w.heap.size ah.length).role b=.mF d:=by intro b d hb hr;simp only [Gh.back,if_pos hb,hr]
 have rFree:∀b τ,b<w.heap.size→G.role b=.tok τ→m τ=none→(G.back m G1 w.heap.size ah.length).role b=.tok τ:=by intro b τ hb hr hm;simp only [Gh.back,if_pos hb,hr,hm]
 have rTok:∀b τ k,b<w.heap.size→G.role b=.tok τ→m τ=some k→(G.back m G1 w.heap.size ah.length).role b=l6 ah.length (G1.role b):=by intro b τ k hb hr hm;simp only [Gh.back,if_pos hb,hr,hm]
 have rShr:∀b s,b<w.heap.size→G.role b=.shr s→(G.back m G1 w.heap.size ah.length).role b=l6 ah.length (G1.role b):=by intro b s hb hr;simp only [Gh.back,if_pos hb,hr]
 have rNew:∀b,¬b<w.heap.size→(G.back m G1 w.heap.size ah.length).role b=l6 ah.length (G1.role b):=by intro b hb;simp only [Gh.back,if_neg hb]
 have rOut:∀b,G1.role b≠.dO→(G.back m G1 w.heap.size ah.length).role b=l6 ah.length (G1.role b):=by
   intro b hn
   by_cases hb:b<w.heap.size
   · cases hr:G.role b with
     | shr s=>exact rShr b s hb hr
     | dO=>exact absurd (he.dO b hb (l5 hr)).1 hn
     | mF d=>exact absurd (he.dO b hb (tV hr)).1 hn
     | tok τ=>
       cases hm:m τ with
       | none=>exact absurd (he.dO b hb (mR hr hm)).1 hn
       | some k=>exact rTok b τ k hb hr hm
   · exact rNew b hb
 have shKnown:∀b o v,G1.K b o=some v→l6 ah.length (G1.role b)=.dO∨∃τ,l6 ah.length (G1.role b)=.tok τ:=by
   intro b o v hk
   rcases h1.bo b o v hk with h | ⟨τ,h⟩
   · left;rw [h];rfl
   · right;exact ⟨τ+ah.length,by rw [h];rfl⟩
 refine ⟨⟨h1.known,?_,?_,?_,hi.gL,?_,?_,?_,?_⟩,hle,?_⟩
 · intro b o v hk
   have hk1:G1.K b o=some v:=hk
   by_cases hb:b<w.heap.size
   · cases hr:G.role b with
     | shr s=>rw [rShr b s hb hr];exact shKnown b o v hk1
     | dO=>exact .inl (rImm b hb hr)
     | tok τ=>
       cases hm:m τ with
       | none=>exact .inr ⟨τ,rFree b τ hb hr hm⟩
       | some k=>rw [rTok b τ k hb hr hm];exact shKnown b o v hk1
     | mF d=>
       exfalso
       have hk0:G.K b o=some v:=he.gr b o v hb (tV hr) hk1
       rcases hi.bo b o v hk0 with h | ⟨τ,h⟩<;>rw [hr] at h<;>simp at h
   · rw [rNew b hb];exact shKnown b o v hk1
 · intro b hb
   have:=he.size
   rw [rNew b (by omega),h1.fresh b hb];rfl
 · intro d cs hd
   obtain ⟨b,e1,e2,e3⟩:=hi.cS d cs hd
   obtain ⟨hr,c,t,hh,hrel⟩:=e2
   have hb:=cE hh
   exact ⟨b,e1,⟨rPriv b d hb hr,c,t,((he.dO b hb (tV hr)).2).trans hh,aA.mono hle hrel⟩,e3⟩
 · intro s cs0 hs0
   simp only [eB,List.getElem?_map,Option.map_eq_some_iff] at hs0
   obtain ⟨o,hs,ho⟩:=hs0
   cases o with
   | none=>simp at ho
   | some cs=>
     simp at ho
     subst ho
     obtain ⟨b,e1,e2,e3,e4⟩:=h1.dE s cs hs
     obtain ⟨hr,o,hh,hrel⟩:=e2
     refine ⟨b,e1,⟨?_,o,hh,hrel.to (fun _ _ _ h=>h) (fun kvs e=>by subst e;rfl) (fun _ r=>C1 (iq e3) r)⟩,?_,?_⟩
     · rw [rOut b.1 (by rw [hr];simp),hr];rfl
     · rw [List.all_eq_true]
       intro x hx
       obtain ⟨y,hy,rfl⟩:=List.mem_map.1 hx
       exact vW (List.all_eq_true.1 e3 y hy)
     · rw [List.all_eq_true]
       intro x hx
       obtain ⟨y,hy,rfl⟩:=List.mem_map.1 hx
       exact vV (List.all_eq_true.1 e4 y hy)
 · intro s b h
   have:=h1.eY s b h
   simp only [eB,List.length_map]
   exact this
 · intro τ n hn
   by_cases hτ:τ<ah.length
   · rw [List.getElem?_append_left (by omega)] at hn
     obtain ⟨t,e1,e2,e3⟩:=hi.dg τ _ (List.getElem?_eq_getElem hτ)
     cases hm:m τ with
     | none=>
       have:=hN.free τ t e1 hm
       rw [hn] at this
       simp at this
       refine ⟨t,tkNone τ t e1 hm,this.symm,e3.cap,e3.zero,fun hlt=>?_⟩
       obtain ⟨b,o,c,ty,f1,f2,f3,f4,f5⟩:=e3.spare hlt
       have hb:=cE f3
       exact ⟨b,o,c,ty,f1,rFree b τ hb f2 hm,((he.dO b hb (mR f2 hm)).2).trans f3,f4,fun j v hk=>f5 j v (he.gr b j v hb (mR f2 hm) hk)⟩
     | some k=>
       have:=hN.used τ t k e1 hm
       rw [hn] at this
       simp at this
       exact ⟨_,tkSome τ t k e1 hm,this.symm,⟨Nat.le_refl _,fun h=>by simp at h,fun h=>by simp at h⟩⟩
   · rw [List.getElem?_append_right (by omega),hol] at hn
     obtain ⟨t,e1,e2,e3⟩:=h1.dg _ n hn
     refine ⟨t,by simp only [Gh.back,if_neg hτ];exact e1,e2,e3.cap,e3.zero,fun hlt=>?_⟩
     obtain ⟨b,o,c,ty,f1,f2,f3,f4,f5⟩:=e3.spare hlt
     refine ⟨b,o,c,ty,f1,?_,f3,f4,f5⟩
     rw [rOut b (by rw [f2];simp),f2]
     simp only [l6]
     rw [Nat.sub_add_cancel (by omega)]
 · intro τ t ht
   simp only [Gh.back] at ht
   split at ht
   · rename_i hτ
     rw [List.getElem?_append_left (by omega)]
     split at ht
     · rename_i t0 h0
       split at ht
       · rename_i k hm
         simp at ht;subst ht
         exact hN.used τ t0 k h0 hm
       · rename_i hm
         simp at ht;subst ht
         exact hN.free τ t0 h0 hm
     · simp at ht
   · rename_i hτ
     rw [List.getElem?_append_right (by omega),hol]
     exact h1.eZ _ t ht
 · exact { size:=he.size,os:=he.os,tape:=he.tape,output:=he.output,K:=he.K,sm:=he.sm,
           dO:=fun b hb hr=>⟨rImm b hb hr,(he.dO b hb (l5 hr)).2⟩
           ik:=fun b τ hb hr=>by
             cases hm:m τ with
             | none=>exact .inr ⟨τ,rFree b τ hb hr hm⟩
             | some k=>
               rw [rTok b τ k hb hr hm]
               rcases he.ik b k hb (tU hr hm) with h | ⟨τ',h⟩
               · left;rw [h];rfl
               · right;exact ⟨τ'+ah.length,by rw [h];rfl⟩
           gr:=fun b o v hb hr hk=>he.gr b o v hb (l5 hr) hk }
theorem mT {G1 G':Gh} {N:Nat} (hK:G1.K.le G'.K) (hs:∀s b,G1.sm s=some b→G'.sm s=some b) (ht:∀τ t,G1.tk τ=some t→G'.tk (τ+N)=some t) {rs:List AV} {v:Value} (hp:rs.all bX=true) (h:dc (num ns) G1 rs v):dc (num ns) G' (rs.map (cz N)) v:=by
 unfold dc at h
 split at h
 · rename_i r
   simp only [List.all_cons,List.all_nil,Bool.and_true] at hp
   simp only [List.map_cons,List.map_nil,dc]
   exact sH hK hs ht hp h
 · rename_i hn
   obtain ⟨vs,e,h⟩:=h
   unfold dc
   split
   · rename_i r he
     cases rs with
     | nil=>simp at he
     | cons a rs=>
       cases rs with
       | nil=>exact absurd rfl (hn a)
       | cons _ _=>simp at he
   · exact ⟨vs,e,l7 hK hs ht hp h⟩
theorem vX {m:Nat→Option Nat} {G1:Gh} {n N:Nat} {rs:List AV} {v:Value} (hp:rs.all bX=true) (h:dc (num ns) G1 rs v):dc (num ns) (G.back m G1 n N) (rs.map (cz N)) v:=
 mT (G1:=G1) (G':=G.back m G1 n N) (N:=N) (bF.le_refl G1.K) (fun _ _ h=>h) BW hp h
def QB (N:Nat):kp→kp
 | .tok k=>.tok (k+N)
 | _=>.dO
def Gh.BX (G:Gh):Gh:={ K:=G.K,role:=fun _=>.dO,pm:=fun _=>none,sm:=fun _=>none,tk:=fun _=>none }
theorem Inv.BX {mem:List (Nat×List AV)} {sh:Sh} {ah:aL} (hi:Inv (num ns) G w mem sh ah):Inv (num ns) G.BX w [] [] [] where
 known:=hi.known
 bo:=fun _ _ _ _=>.inl rfl
 fresh:=fun _ _=>rfl
 cS:=fun d c h=>by simp [look] at h
 gL:=fun d b h=>by simp [Gh.BX] at h
 dE:=fun s c h=>by simp at h
 eY:=fun s b h=>by simp [Gh.BX] at h
 dg:=fun τ n h=>by simp at h
 eZ:=fun τ t h=>by simp [Gh.BX] at h
def Gh.gY (G:Gh) (G1:Gh) (n N:Nat):Gh:=
 { K:=G1.K,role:=fun b=>if b<n then G.role b else QB N (G1.role b),pm:=G.pm,sm:=G.sm,tk:=fun τ=>if τ<N then G.tk τ else G1.tk (τ-N) }
theorem Inv.gY {G1:Gh} {w1:World} {mem:List (Nat×List AV)} {sh:Sh} {ah ts':aL} (hi:Inv (num ns) G w mem sh ah)
   (h1:Inv (num ns) G1 w1 [] [] ts') (he:cm G.BX w G1 w1) :
   Inv (num ns) (G.gY G1 w.heap.size ah.length) w1 mem sh (ah++ts')∧G.le (G.gY G1 w.heap.size ah.length)∧cm G w (G.gY G1 w.heap.size ah.length) w1:=by
 have htl:∀τ t,G.tk τ=some t→τ<ah.length:=fun τ t h=>(List.getElem?_eq_some_iff.1 (hi.eZ τ t h)).1
 have hK:G.K.le G1.K:=he.K
 have rOld:∀b,b<w.heap.size→(G.gY G1 w.heap.size ah.length).role b=G.role b:=fun b hb=>by simp only [Gh.gY,if_pos hb]
 have rNew:∀b,¬b<w.heap.size→(G.gY G1 w.heap.size ah.length).role b=QB ah.length (G1.role b):=fun b hb=>by simp only [Gh.gY,if_neg hb]
 have same:∀b,b<w.heap.size→w1.heap[b]?=w.heap[b]?:=fun b hb=>(he.dO b hb rfl).2
 have Kold:∀b o v,b<w.heap.size→G1.K b o=some v→G.K b o=some v:=fun b o v hb hk=>he.gr b o v hb rfl hk
 have hle:G.le (G.gY G1 w.heap.size ah.length):=⟨hK,fun _ _ h=>h,fun _ _ h=>h,fun τ t h=>⟨t,by simp only [Gh.gY,if_pos (htl τ t h)];exact h,Nat.le_refl _,fun _=>rfl⟩⟩
 refine ⟨⟨h1.known,?_,?_,?_,hi.gL,?_,hi.eY,?_,?_⟩,hle,?_⟩
 · intro b o v hk
   by_cases hb:b<w.heap.size
   · rw [rOld b hb];exact hi.bo b o v (Kold b o v hb hk)
   · rw [rNew b hb]
     rcases h1.bo b o v hk with h | ⟨τ,h⟩
     · left;rw [h];rfl
     · right;exact ⟨τ+ah.length,by rw [h];rfl⟩
 · intro b hb
   have:=he.size
   rw [rNew b (by omega),h1.fresh b hb];rfl
 · intro d cs hd
   obtain ⟨b,e1,e2,e3⟩:=hi.cS d cs hd
   have hlt:b<w.heap.size:=by obtain ⟨_,_,_,hh,_⟩:=e2;exact cE hh
   exact ⟨b,e1,e2.mono hle (rOld b hlt) (same b hlt),e3⟩
 · intro s cs hs
   obtain ⟨b,e1,e2,e3⟩:=hi.dE s cs hs
   have hlt:b.1<w.heap.size:=e2.lt
   exact ⟨b,e1,e2.mono hle (rOld b.1 hlt) (same b.1 hlt),e3⟩
 · intro τ n hn
   by_cases hτ:τ<ah.length
   · rw [List.getElem?_append_left hτ] at hn
     obtain ⟨t,e1,e2,e3⟩:=hi.dg τ n hn
     refine ⟨t,by simp only [Gh.gY,if_pos hτ];exact e1,e2,e3.cap,e3.zero,fun hlt=>?_⟩
     obtain ⟨b,o,c,ty,f1,f2,f3,f4,f5⟩:=e3.spare hlt
     have hlt':=cE f3
     exact ⟨b,o,c,ty,f1,(rOld b hlt').trans f2,(same b hlt').trans f3,f4,fun j v hkk=>f5 j v (Kold b j v hlt' hkk)⟩
   · rw [List.getElem?_append_right (by omega)] at hn
     obtain ⟨t,e1,e2,e3⟩:=h1.dg _ n hn
     refine ⟨t,by simp only [Gh.gY,if_neg hτ];exact e1,e2,e3.cap,e3.zero,fun hlt=>?_⟩
     obtain ⟨b,o,c,ty,f1,f2,f3,f4,f5⟩:=e3.spare hlt
     have hb:¬b<w.heap.size:=fun hb=>by
       have:=(he.dO b hb rfl).1
       rw [f2] at this;cases this
     refine ⟨b,o,c,ty,f1,?_,f3,f4,f5⟩
     rw [rNew b hb,f2]
     simp only [QB]
     rw [Nat.sub_add_cancel (by omega)]
 · intro τ t ht
   simp only [Gh.gY] at ht
   split at ht
   · rename_i hτ
     rw [List.getElem?_append_left hτ]
     exact hi.eZ τ t ht
   · rename_i hτ
     rw [List.getElem?_append_right (by omega)]
     exact h1.eZ _ t ht
 · exact { size:=he.size,os:=he.os,tape:=he.tape,output:=he.output,K:=hK,sm:=fun _ _ h=>h,
           dO:=fun b hb hr=>⟨(rOld b hb).trans hr,same b hb⟩
           ik:=fun b τ hb hr=>.inr ⟨τ,(rOld b hb).trans hr⟩
           gr:=fun b o v hb _ hk=>Kold b o v hb hk }
theorem C2 {G1:Gh} {w1:World} {ts':aL} {n N:Nat} (h1:Inv (num ns) G1 w1 [] [] ts') {rs:List AV} {v:Value} (hp:rs.all bX=true) (h:dc (num ns) G1 rs v):dc (num ns) (G.gY G1 n N) (rs.map (cz N)) v:=
 mT (G1:=G1) (G':=G.gY G1 n N) (N:=N) (bF.le_refl G1.K) (fun s b h=>by have:=h1.eY s b h;simp at this) (fun τ t h=>by simp only [Gh.gY];rw [if_neg (by omega),Nat.add_sub_cancel];exact h) hp h
end
end Go.Ab
