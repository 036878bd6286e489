import Derived.Test.YtfhhognolpjikaaGreatAbNorm2
/-
  Handing over to a callee and taking back.
-/
set_option linter.unusedVariables false
set_option linter.unusedSimpArgs false
set_option maxRecDepth 100000
set_option maxHeartbeats 8000000
namespace Go.Ab
section
variable {P:Program} {ns:Names} {G:Gh} {w:World}
theorem vY {x:AV} (h:gI x=true):gH x=true:=by
 cases x with
 | own _ _=>rfl
 | _=>simpa [gH,gI] using jO (by simpa [gI] using h)
theorem jR:∀{xs:List AV},eO xs=true→fJ xs=true
 | [],_=>rfl
 | x::xs,h=>by
   simp only [eO,Bool.and_eq_true] at h
   simp only [fJ,vY h.1,jR h.2,Bool.and_self]
theorem vZ {x:AV} (h:ca x=true):kf x=true:=by
 cases x with
 | own _ _=>rfl
 | az _ _=>rfl
 | agg cs=>simp only [kf];exact jR (by simpa [ca] using h)
 | _=>simpa [kf,ca] using jO (by simpa [ca] using h)
theorem v5 {aW ts:aM} {x:AV} (h:gI x=true):gI (dJ aW ts x).1=true:=by
 unfold dJ
 split
 · split<;>rfl
 · exact h
theorem pc:∀{xs:List AV} {aW ts:aM},eO xs=true→eO (cT aW ts xs).1=true
 | [],_,_,_=>rfl
 | x::xs,aW,ts,h=>by
   simp only [eO,Bool.and_eq_true] at h
   simp only [cT,eO,v5 h.1,Bool.true_and]
   exact pc h.2
theorem v7 {aW ts:aM} {x:AV} (h:ca x=true):ca (bS aW ts x).1=true:=by
 unfold bS
 split
 · split<;>rfl
 · rfl
 · split
   · exact h
   · simp only [ca] at h ⊢
     exact pc h
 · exact h
theorem g_:∀{xs:List AV} {aW ts:aM},xs.all ca=true→(bL aW ts xs).1.all ca=true
 | [],_,_,_=>rfl
 | x::xs,aW,ts,h=>by
   simp only [List.all_cons,Bool.and_eq_true] at h
   simp only [bL,List.all_cons,v7 h.1,Bool.true_and]
   exact g_ h.2
theorem v9 {x:AV} (h:bm x=true):ca x=true:=by
 cases x with
 | own _ _=>rfl
 | fn g cap=>simpa [bm,ca] using h
 | pv _=>rfl
 | bD _=>rfl
 | a_ _ _=>rfl
 | bu _ _ _ _=>rfl
 | dw=>rfl
 | cv _=>rfl
 | du _=>rfl
 | _=>simp [bm] at h
theorem iw {xs:List AV} (h:xs.all bm=true):xs.all ca=true:=by
 rw [List.all_eq_true] at *
 exact fun x hx=>v9 (h x hx)
theorem m5:∀{xs:List AV} {vs:List Value} {aW ts:aM} {m:Nat→Option Nat} {tks:List Tk},NS G aW ts m tks→xs.all ca=true→aB (num ns) G xs vs →
   ∃m' tks',CV ns G m tks (bL aW ts xs).2.1 (bL aW ts xs).2.2 m' tks'∧aB (num ns) (G.nZ m' tks') (bL aW ts xs).1 vs
 | [],vs,aW,ts,m,tks,hN,_,h=>⟨m,tks,⟨hN,[],by simp [bL]⟩,by simpa only [bL,aB] using h⟩
 | x::xs,vs,aW,ts,m,tks,hN,hp,h=>by
   simp only [List.all_cons,Bool.and_eq_true] at hp
   simp only [aB] at h
   obtain ⟨v,r,e,e1,e2⟩:=h
   subst e
   obtain ⟨m1,t1,g1,g2⟩:=kE hN (vZ hp.1) e1
   obtain ⟨m2,t2,k1,k2⟩:=m5 g1.vX hp.2 e2
   refine ⟨m2,t2,⟨k1.vX,?_⟩,?_⟩
   · obtain ⟨a,ha⟩:=g1.ext
     obtain ⟨b,hb⟩:=k1.ext
     exact ⟨a++b,by rw [hb,ha,List.append_assoc]⟩
   · simp only [bL,aB]
     exact ⟨v,r,rfl,g2.mono k1.le,k2⟩
theorem CW {aW ts:aM} {x:AV}:(dJ aW ts x).2.1.length=aW.length:=by
 unfold dJ
 split
 · split<;>simp
 · rfl
theorem qB:∀{xs:List AV} {aW ts:aM},(cT aW ts xs).2.1.length=aW.length
 | [],_,_=>rfl
 | x::xs,aW,ts=>by simp only [cT];rw [qB,CW]
theorem CX {aW ts:aM} {x:AV}:(bS aW ts x).2.1.length=aW.length:=by
 unfold bS
 split
 · split<;>simp
 · rfl
 · split
   · rfl
   · exact qB
 · rfl
theorem n_:∀{xs:List AV} {aW ts:aM},(bL aW ts xs).2.1.length=aW.length
 | [],_,_=>rfl
 | x::xs,aW,ts=>by simp only [bL];rw [n_,CX]
theorem oe:∀{sh:Sh} {aW ts:aM},(b_ aW ts sh).2.1.length=aW.length
 | [],_,_=>rfl
 | none::sh,aW,ts=>by simp only [b_];exact oe
 | some cs::sh,aW,ts=>by simp only [b_];rw [oe,n_]
def Gh.to (G:Gh) (m:Nat→Option Nat) (tks:List Tk):Gh:=
 { K:=G.K,role:=fun b=>match G.role b with | .shr s=>.shr s | .tok τ=>(match m τ with | some k=>.tok k | none=>.dV) | _=>.dV,pm:=fun _=>none,sm:=G.sm,tk:=fun k=>tks[k]? }
theorem MO {m:Nat→Option Nat} {tks:List Tk} {b s:Nat} (h:G.role b=.shr s):(G.to m tks).role b=.shr s:=by simp [Gh.to,h]
theorem t5 {m:Nat→Option Nat} {tks:List Tk} {b τ k:Nat} (h:G.role b=.tok τ) (hm:m τ=some k):(G.to m tks).role b=.tok k:=by simp [Gh.to,h,hm]
theorem m7 {m:Nat→Option Nat} {tks:List Tk} {b τ:Nat} (h:G.role b=.tok τ) (hm:m τ=none):(G.to m tks).role b=.dV:=by simp [Gh.to,h,hm]
theorem mg {m:Nat→Option Nat} {tks:List Tk} {b:Nat} (h:G.role b=.dV):(G.to m tks).role b=.dV:=by simp [Gh.to,h]
theorem t6 {m:Nat→Option Nat} {tks:List Tk} {b d:Nat} (h:G.role b=.mP d):(G.to m tks).role b=.dV:=by simp [Gh.to,h]
theorem yQ {ρ:cg} {G':Gh} (hK:G.K.le G'.K) (hs:∀s b,G.sm s=some b→G'.sm s=some b) (ht:∀τ t,G.tk τ=some t→G'.tk τ=some t) {xs:List AV} {vs:List Value} (hp:eO xs=true) (h:aB ρ G xs vs):aB ρ G' xs vs:=
 mf hK hs ht (jR hp) h
theorem CY {ρ:cg} {G':Gh} (hK:G.K.le G'.K) (hs:∀s b,G.sm s=some b→G'.sm s=some b) (ht:∀τ t,G.tk τ=some t→G'.tk τ=some t) {x:AV} {v:Value} (hp:ca x=true) (h:aE ρ G x v):aE ρ G' x v:=by
 cases x with
 | own l τ=>
   simp only [aE] at h ⊢
   obtain ⟨t,e1,e2,e3,e4⟩:=h
   exact ⟨t,ht _ _ e1,e2,e3.mono hK,fun hl=>⟨(e4 hl).1,JI (e4 hl).2 fun ⟨b,o,e,r⟩=>⟨b,o,e,Row.mono hK _ _ _ _ r⟩⟩⟩
 | agg cs=>
   simp only [aE] at h ⊢
   obtain ⟨vs,e,r⟩:=h
   exact ⟨vs,e,yQ hK hs ht (by simpa [ca] using hp) r⟩
 | _=>exact lp hK hs (by simpa [ca] using hp) h
theorem iO {ρ:cg} {G':Gh} (hK:G.K.le G'.K) (hs:∀s b,G.sm s=some b→G'.sm s=some b) (ht:∀τ t,G.tk τ=some t→G'.tk τ=some t):∀{xs:List AV} {vs:List Value},xs.all ca=true→aB ρ G xs vs→aB ρ G' xs vs
 | [],_,_,h=>by simpa only [aB] using h
 | x::xs,_,hp,h=>by
   simp only [List.all_cons,Bool.and_eq_true] at hp
   simp only [aB] at h ⊢
   obtain ⟨v,r,e,e1,e2⟩:=h
   exact ⟨v,r,e,CY hK hs ht hp.1 e1,iO hK hs ht hp.2 e2⟩
theorem Inv.Gb {mem:List (Nat×List AV)} {sh:Sh} {ah:aM} (hi:Inv (num ns) G w mem sh ah) {xs:List AV} {vs:List Value} (hp:xs.all ca=true) (hr:aB (num ns) G xs vs) :
   ∃m tks,NS G (dh ah xs sh).2.2.1 (dh ah xs sh).2.2.2 m tks∧Inv (num ns) (G.to m tks) w [] (dh ah xs sh).2.1 (dh ah xs sh).2.2.2∧aB (num ns) (G.to m tks) (dh ah xs sh).1 vs:=by
 obtain ⟨m0,tks0,hR,hrel⟩:=m5 (NS.start hi) hp hr
 obtain ⟨m,tks,q1,q2,q3⟩:=jd (Go.Ab.jQ G w) hR.vX hi.jQ
 have hN:=q1.vX
 refine ⟨m,tks,hN,?_,iO (G:=G.nZ m tks) (G':=G.to m tks) (bM.le_refl _) (fun _ _ h=>h) (fun _ _ h=>h) (g_ hp) (aB.mono q1.le hrel)⟩
 constructor
 · exact hi.known
 · intro b o v hk
   rcases hi.bt b o v hk with h | ⟨τ,h⟩
   · exact .inl (mg h)
   · cases hm:m τ with
     | none=>exact .inl (m7 h hm)
     | some k=>exact .inr ⟨k,t5 h hm⟩
 · intro b hb;exact mg (hi.fresh b hb)
 · intro d cells h;simp [look] at h
 · intro d b h;simp [Gh.to] at h
 · refine hi.LJ (G':=G.to m tks) (fun _=>rfl) (fun b s hr=>MO hr) fun s cells' hs=>?_
   obtain ⟨cells,h1,h2,h3,h4⟩:=q3 s cells' hs
   obtain ⟨o,h2,h2'⟩:=h2
   exact ⟨cells,h1,⟨o,h2,h2'.to (fun _ _ _ h=>h) (fun _ e=>e) (fun _ r=>iO (G:=G.nZ m tks) (G':=G.to m tks) (bM.le_refl _) (fun _ _ h=>h) (fun _ _ h=>h) (iw h3) r)⟩,h3,h4⟩
 · intro s b hs
   have:=hi.eZ s b hs
   have e:(dh ah xs sh).2.1.length=sh.length:=q2
   omega
 · intro k n hn
   have hts:(dh ah xs sh).2.2.2=tks.map (·.len):=hN.ts
   rw [hts,List.getElem?_map,Option.map_eq_some_iff] at hn
   obtain ⟨t,ht,rfl⟩:=hn
   refine ⟨t,ht,rfl,?_⟩
   rcases hN.cap k t ht with ⟨τ,hτ⟩ | hc
   · obtain ⟨t',h1,h2⟩:=hN.map τ k hτ
     rw [ht] at h2;cases h2
     obtain ⟨t'',e1,e2,e3⟩:=hi.dp τ _ (hi.e8 τ t h1)
     rw [h1] at e1;cases e1
     refine ⟨e3.cap,e3.zero,fun hlt=>?_⟩
     obtain ⟨b,o,c,ty,f1,f2,f3,f4,f5⟩:=e3.spare hlt
     exact ⟨b,o,c,ty,f1,t5 f2 hτ,f3,f4,f5⟩
   · exact ⟨by omega,fun h=>by omega,fun h=>by omega⟩
 · intro k t ht
   have hts:(dh ah xs sh).2.2.2=tks.map (·.len):=hN.ts
   rw [hts,List.getElem?_map]
   have ht':tks[k]?=some t:=ht
   rw [ht'];rfl
theorem CZ {ah:aM} {xs:List AV} {sh:Sh}:(dh ah xs sh).2.2.1.length=ah.length:=by
 unfold dh
 simp only [oe,n_]
theorem cu.to {G1:Gh} {w1:World} (h:cu G w G1 w1) (m:Nat→Option Nat) (tks:List Tk):cu G w (G1.to m tks) w1 where
 size:=h.size
 os:=h.os
 tape:=h.tape
 output:=h.output
 K:=h.K
 sm:=h.sm
 dV:=fun b hb hr=>⟨mg (h.dV b hb hr).1,(h.dV b hb hr).2⟩
 ir:=fun b τ hb hr=>by
   rcases h.ir b τ hb hr with h1 | ⟨τ',h1⟩
   · exact .inl (mg h1)
   · cases hm:m τ' with
     | none=>exact .inl (m7 h1 hm)
     | some k=>exact .inr ⟨k,t5 h1 hm⟩
 gB:=h.gB
def mh (N:Nat):ku→ku
 | .tok k=>.tok (k+N)
 | .shr s=>.shr s
 | _=>.dV
def Gh.back (G:Gh) (m:Nat→Option Nat) (G1:Gh) (n N:Nat):Gh:=
 { K:=G1.K,
   role:=fun b=>if b<n then (match G.role b with | .shr _=>mh N (G1.role b) | .tok τ=>(match m τ with | some _=>mh N (G1.role b) | none=>.tok τ) | r=>r) else mh N (G1.role b),
   pm:=G.pm,sm:=G1.sm,
   tk:=fun τ=>if τ<N then (match G.tk τ with | some t=>(match m τ with | some _=>some { t with len:=t.len+1,cap:=t.len+1 } | none=>some t) | none=>none) else G1.tk (τ-N) }
theorem qC {G1 G':Gh} {N:Nat} (hK:G1.K.le G'.K) (hs:∀s b,G1.sm s=some b→G'.sm s=some b) (ht:∀τ t,G1.tk τ=some t→G'.tk (τ+N)=some t) {x:AV} {v:Value} (hp:gI x=true) (h:aE (num ns) G1 x v):aE (num ns) G' (eP N x) v:=by
 cases x with
 | own l τ=>
   simp only [eP,aE] at h ⊢
   obtain ⟨t,e1,e2,e3,e4⟩:=h
   exact ⟨t,ht _ _ e1,e2,e3.mono hK,fun hl=>⟨(e4 hl).1,JI (e4 hl).2 fun ⟨b,o,e,r⟩=>⟨b,o,e,Row.mono hK _ _ _ _ r⟩⟩⟩
 | _=>
   simp only [eP]
   exact lp (G:=G1) (G':=G') hK hs (by simpa [gI] using hp) h
theorem pd {G1 G':Gh} {N:Nat} (hK:G1.K.le G'.K) (hs:∀s b,G1.sm s=some b→G'.sm s=some b) (ht:∀τ t,G1.tk τ=some t→G'.tk (τ+N)=some t):∀{xs:List AV} {vs:List Value},eO xs=true→aB (num ns) G1 xs vs→aB (num ns) G' (xs.map (eP N)) vs
 | [],_,_,h=>by simpa only [List.map_nil,aB] using h
 | x::xs,_,hp,h=>by
   simp only [eO,Bool.and_eq_true] at hp
   simp only [List.map_cons,aB] at h ⊢
   obtain ⟨v,r,e,e1,e2⟩:=h
   exact ⟨v,r,e,qC hK hs ht hp.1 e1,pd hK hs ht hp.2 e2⟩
theorem sO {G1 G':Gh} {N:Nat} (hK:G1.K.le G'.K) (hs:∀s b,G1.sm s=some b→G'.sm s=some b) (ht:∀τ t,G1.tk τ=some t→G'.tk (τ+N)=some t) {x:AV} {v:Value} (hp:ca x=true) (h:aE (num ns) G1 x v):aE (num ns) G' (cI N x) v:=by
 cases x with
 | own l τ=>exact qC (x:=.own l τ) hK hs ht rfl h
 | agg cs=>
   simp only [cI]
   split
   · rename_i hf
     exact fU (G:=G1) (G':=G') hK hs (by simpa [bK] using hf) h
   · simp only [aE] at h ⊢
     obtain ⟨vs,e,r⟩:=h
     exact ⟨vs,e,pd hK hs ht (by simpa [ca] using hp) r⟩
 | _=>
   simp only [cI]
   exact lp (G:=G1) (G':=G') hK hs (by simpa [ca] using hp) h
theorem mi {G1 G':Gh} {N:Nat} (hK:G1.K.le G'.K) (hs:∀s b,G1.sm s=some b→G'.sm s=some b) (ht:∀τ t,G1.tk τ=some t→G'.tk (τ+N)=some t):∀{xs:List AV} {vs:List Value},xs.all ca=true→aB (num ns) G1 xs vs→aB (num ns) G' (xs.map (cI N)) vs
 | [],_,_,h=>by simpa only [List.map_nil,aB] using h
 | x::xs,_,hp,h=>by
   simp only [List.all_cons,Bool.and_eq_true] at hp
   simp only [List.map_cons,aB] at h ⊢
   obtain ⟨v,r,e,e1,e2⟩:=h
   exact ⟨v,r,e,sO hK hs ht hp.1 e1,mi hK hs ht hp.2 e2⟩
theorem BZ {m:Nat→Option Nat} {G1:Gh} {n N:Nat}:∀τ t,G1.tk τ=some t→(G.back m G1 n N).tk (τ+N)=some t:=by
 intro τ t h
 simp only [Gh.back]
 rw [if_neg (by omega),Nat.add_sub_cancel]
 exact h
theorem C0 {m:Nat→Option Nat} {G1:Gh} {n N:Nat} {xs:List AV} {vs:List Value} (hp:xs.all ca=true) (h:aB (num ns) G1 xs vs):aB (num ns) (G.back m G1 n N) (xs.map (cI N)) vs:=
 mi (G1:=G1) (G':=G.back m G1 n N) (N:=N) (bM.le_refl G1.K) (fun _ _ h=>h) BZ hp h
theorem v_ {N n:Nat} {x:AV} (h:aS n x=true):aS n (eP N x)=true:=by
 cases x with
 | own _ _=>rfl
 | _=>exact h
theorem m8 {N n:Nat}:∀{xs:List AV},aS.cO n xs=true→aS.cO n (xs.map (eP N))=true
 | [],_=>rfl
 | x::xs,h=>by
   simp only [aS.cO,Bool.and_eq_true] at h
   simp only [List.map_cons,aS.cO,v_ h.1,m8 h.2,Bool.and_self]
theorem wc {N n:Nat} {x:AV} (h:aS n x=true):aS n (cI N x)=true:=by
 cases x with
 | own _ _=>rfl
 | agg cs=>
   simp only [cI]
   split
   · exact h
   · simp only [aS] at h ⊢
     exact m8 h
 | _=>exact h
theorem we {N:Nat} {x:AV} (h:bm x=true):bm (cI N x)=true:=by
 cases x with
 | own _ _=>rfl
 | agg _=>simp [bm] at h
 | _=>exact h
theorem Inv.back {G1:Gh} {w1:World} {mem:List (Nat×List AV)} {sh sh':Sh} {ah aW ts ts':aM} {m:Nat→Option Nat} {tks:List Tk} (hi:Inv (num ns) G w mem sh ah) (hN:NS G aW ts m tks) (hol:aW.length=ah.length)
   (h1:Inv (num ns) G1 w1 [] sh' ts') (he:cu (G.to m tks) w G1 w1) :
   Inv (num ns) (G.back m G1 w.heap.size ah.length) w1 mem (fK ah.length sh') (aW++ts')∧G.le (G.back m G1 w.heap.size ah.length)∧cu G w (G.back m G1 w.heap.size ah.length) w1:=by
 have htl:∀τ t,G.tk τ=some t→τ<ah.length:=fun τ t h=>(List.getElem?_eq_some_iff.1 (hi.e8 τ t h)).1
 have tkNone:∀τ t,G.tk τ=some t→m τ=none→(G.back m G1 w.heap.size ah.length).tk τ=some t:=by
   intro τ t h hm
   simp only [Gh.back,if_pos (htl τ t h),h,hm]
 have tkSome:∀τ t k,G.tk τ=some t→m τ=some k→(G.back m G1 w.heap.size ah.length).tk τ=some { t with len:=t.len+1,cap:=t.len+1 }:=by
   intro τ t k h hm
   simp only [Gh.back,if_pos (htl τ t h),h,hm]
 have hle:G.le (G.back m G1 w.heap.size ah.length):=⟨he.K,fun _ _ h=>h,he.sm,fun τ t h=>by
   cases hm:m τ with
   | none=>exact ⟨t,tkNone τ t h hm,Nat.le_refl _,fun _=>rfl⟩
   | some k=>exact ⟨_,tkSome τ t k h hm,by simp,fun e=>by simp at e⟩⟩
 have rImm:∀b,b<w.heap.size→G.role b=.dV→(G.back m G1 w.heap.size ah.length).role b=.dV:=by intro b hb hr;simp only [Gh.back,if_pos hb,hr]
 have rPriv:∀b d,b<w.heap.size→G.role b=.mP d→(G.back m G1 w.heap.size ah.length).role b=.mP d:=by intro b d hb hr;simp only [Gh.back,if_pos hb,hr]
 have rFree:∀b τ,b<w.heap.size→G.role b=.tok τ→m τ=none→(G.back m G1 w.heap.size ah.length).role b=.tok τ:=by intro b τ hb hr hm;simp only [Gh.back,if_pos hb,hr,hm]
 have rTok:∀b τ k,b<w.heap.size→G.role b=.tok τ→m τ=some k→(G.back m G1 w.heap.size ah.length).role b=mh ah.length (G1.role b):=by intro b τ k hb hr hm;simp only [Gh.back,if_pos hb,hr,hm]
 have rShr:∀b s,b<w.heap.size→G.role b=.shr s→(G.back m G1 w.heap.size ah.length).role b=mh ah.length (G1.role b):=by intro b s hb hr;simp only [Gh.back,if_pos hb,hr]
 have rNew:∀b,¬b<w.heap.size→(G.back m G1 w.heap.size ah.length).role b=mh ah.length (G1.role b):=by intro b hb;simp only [Gh.back,if_neg hb]
 have rOut:∀b,G1.role b≠.dV→(G.back m G1 w.heap.size ah.length).role b=mh ah.length (G1.role b):=by
   intro b hn
   by_cases hb:b<w.heap.size
   · cases hr:G.role b with
     | shr s=>exact rShr b s hb hr
     | dV=>exact absurd (he.dV b hb (mg hr)).1 hn
     | mP d=>exact absurd (he.dV b hb (t6 hr)).1 hn
     | tok τ=>
       cases hm:m τ with
       | none=>exact absurd (he.dV b hb (m7 hr hm)).1 hn
       | some k=>exact rTok b τ k hb hr hm
   · exact rNew b hb
 have shKnown:∀b o v,G1.K b o=some v→mh ah.length (G1.role b)=.dV∨∃τ,mh ah.length (G1.role b)=.tok τ:=by
   intro b o v hk
   rcases h1.bt b o v hk with h | ⟨τ,h⟩
   · left;rw [h];rfl
   · right;exact ⟨τ+ah.length,by rw [h];rfl⟩
 refine ⟨⟨h1.known,?_,?_,?_,hi.gN,?_,?_,?_,?_⟩,hle,?_⟩
 · intro b o v hk
   have hk1:G1.K b o=some v:=hk
   by_cases hb:b<w.heap.size
   · cases hr:G.role b with
     | shr s=>rw [rShr b s hb hr];exact shKnown b o v hk1
     | dV=>exact .inl (rImm b hb hr)
     | tok τ=>
       cases hm:m τ with
       | none=>exact .inr ⟨τ,rFree b τ hb hr hm⟩
       | some k=>rw [rTok b τ k hb hr hm];exact shKnown b o v hk1
     | mP d=>
       exfalso
       have hk0:G.K b o=some v:=he.gB b o v hb (t6 hr) hk1
       rcases hi.bt b o v hk0 with h | ⟨τ,h⟩<;>rw [hr] at h<;>simp at h
   · rw [rNew b hb];exact shKnown b o v hk1
 · intro b hb
   have:=he.size
   rw [rNew b (by omega),h1.fresh b hb];rfl
 · intro d cs hd
   obtain ⟨b,e1,e2,e3⟩:=hi.da d cs hd
   obtain ⟨hr,c,t,hh,hrel⟩:=e2
   have hb:=cM hh
   exact ⟨b,e1,⟨rPriv b d hb hr,c,t,((he.dV b hb (t6 hr)).2).trans hh,aB.mono hle hrel⟩,e3⟩
 · intro s cs0 hs0
   simp only [fK,List.getElem?_map,Option.map_eq_some_iff] at hs0
   obtain ⟨o,hs,ho⟩:=hs0
   cases o with
   | none=>simp at ho
   | some cs=>
     simp at ho
     subst ho
     obtain ⟨b,e1,e2,e3,e4⟩:=h1.dN s cs hs
     obtain ⟨hr,o,hh,hrel⟩:=e2
     refine ⟨b,e1,⟨?_,o,hh,hrel.to (fun _ _ _ h=>h) (fun kvs e=>by subst e;rfl) (fun _ r=>C0 (iw e3) r)⟩,?_,?_⟩
     · rw [rOut b.1 (by rw [hr];simp),hr];rfl
     · rw [List.all_eq_true]
       intro x hx
       obtain ⟨y,hy,rfl⟩:=List.mem_map.1 hx
       exact we (List.all_eq_true.1 e3 y hy)
     · rw [List.all_eq_true]
       intro x hx
       obtain ⟨y,hy,rfl⟩:=List.mem_map.1 hx
       exact wc (List.all_eq_true.1 e4 y hy)
 · intro s b h
   have:=h1.eZ s b h
   simp only [fK,List.length_map]
   exact this
 · intro τ n hn
   by_cases hτ:τ<ah.length
   · rw [List.getElem?_append_left (by omega)] at hn
     obtain ⟨t,e1,e2,e3⟩:=hi.dp τ _ (List.getElem?_eq_getElem hτ)
     cases hm:m τ with
     | none=>
       have:=hN.free τ t e1 hm
       rw [hn] at this
       simp at this
       refine ⟨t,tkNone τ t e1 hm,this.symm,e3.cap,e3.zero,fun hlt=>?_⟩
       obtain ⟨b,o,c,ty,f1,f2,f3,f4,f5⟩:=e3.spare hlt
       have hb:=cM f3
       exact ⟨b,o,c,ty,f1,rFree b τ hb f2 hm,((he.dV b hb (m7 f2 hm)).2).trans f3,f4,fun j v hk=>f5 j v (he.gB b j v hb (m7 f2 hm) hk)⟩
     | some k=>
       have:=hN.used τ t k e1 hm
       rw [hn] at this
       simp at this
       exact ⟨_,tkSome τ t k e1 hm,this.symm,⟨Nat.le_refl _,fun h=>by simp at h,fun h=>by simp at h⟩⟩
   · rw [List.getElem?_append_right (by omega),hol] at hn
     obtain ⟨t,e1,e2,e3⟩:=h1.dp _ n hn
     refine ⟨t,by simp only [Gh.back,if_neg hτ];exact e1,e2,e3.cap,e3.zero,fun hlt=>?_⟩
     obtain ⟨b,o,c,ty,f1,f2,f3,f4,f5⟩:=e3.spare hlt
     refine ⟨b,o,c,ty,f1,?_,f3,f4,f5⟩
     rw [rOut b (by rw [f2];simp),f2]
     simp only [mh]
     rw [Nat.sub_add_cancel (by omega)]
 · intro τ t ht
   simp only [Gh.back] at ht
   split at ht
   · rename_i hτ
     rw [List.getElem?_append_left (by omega)]
     split at ht
     · rename_i t0 h0
       split at ht
       · rename_i k hm
         simp at ht;subst ht
         exact hN.used τ t0 k h0 hm
       · rename_i hm
         simp at ht;subst ht
         exact hN.free τ t0 h0 hm
     · simp at ht
   · rename_i hτ
     rw [List.getElem?_append_right (by omega),hol]
     exact h1.e8 _ t ht
 · exact { size:=he.size,os:=he.os,tape:=he.tape,output:=he.output,K:=he.K,sm:=he.sm,
           dV:=fun b hb hr=>⟨rImm b hb hr,(he.dV b hb (mg hr)).2⟩
           ir:=fun b τ hb hr=>by
             cases hm:m τ with
             | none=>exact .inr ⟨τ,rFree b τ hb hr hm⟩
             | some k=>
               rw [rTok b τ k hb hr hm]
               rcases he.ir b k hb (t5 hr hm) with h | ⟨τ',h⟩
               · left;rw [h];rfl
               · right;exact ⟨τ'+ah.length,by rw [h];rfl⟩
           gB:=fun b o v hb hr hk=>he.gB b o v hb (mg hr) hk }
theorem m9 {G1 G':Gh} {N:Nat} (hK:G1.K.le G'.K) (hs:∀s b,G1.sm s=some b→G'.sm s=some b) (ht:∀τ t,G1.tk τ=some t→G'.tk (τ+N)=some t) {rs:List AV} {v:Value} (hp:rs.all ca=true) (h:dk (num ns) G1 rs v):dk (num ns) G' (rs.map (cI N)) v:=by
 unfold dk at h
 split at h
 · rename_i r
   simp only [List.all_cons,List.all_nil,Bool.and_true] at hp
   simp only [List.map_cons,List.map_nil,dk]
   exact sO hK hs ht hp h
 · rename_i hn
   obtain ⟨vs,e,h⟩:=h
   unfold dk
   split
   · rename_i r he
     cases rs with
     | nil=>simp at he
     | cons a rs=>
       cases rs with
       | nil=>exact absurd rfl (hn a)
       | cons _ _=>simp at he
   · exact ⟨vs,e,mi hK hs ht hp h⟩
theorem wg {m:Nat→Option Nat} {G1:Gh} {n N:Nat} {rs:List AV} {v:Value} (hp:rs.all ca=true) (h:dk (num ns) G1 rs v):dk (num ns) (G.back m G1 n N) (rs.map (cI N)) v:=
 m9 (G1:=G1) (G':=G.back m G1 n N) (N:=N) (bM.le_refl G1.K) (fun _ _ h=>h) BZ hp h
def Qs (N:Nat):ku→ku
 | .tok k=>.tok (k+N)
 | _=>.dV
def Gh.B0 (G:Gh):Gh:={ K:=G.K,role:=fun _=>.dV,pm:=fun _=>none,sm:=fun _=>none,tk:=fun _=>none }
theorem Inv.B0 {mem:List (Nat×List AV)} {sh:Sh} {ah:aM} (hi:Inv (num ns) G w mem sh ah):Inv (num ns) G.B0 w [] [] [] where
 known:=hi.known
 bt:=fun _ _ _ _=>.inl rfl
 fresh:=fun _ _=>rfl
 da:=fun d c h=>by simp [look] at h
 gN:=fun d b h=>by simp [Gh.B0] at h
 dN:=fun s c h=>by simp at h
 eZ:=fun s b h=>by simp [Gh.B0] at h
 dp:=fun τ n h=>by simp at h
 e8:=fun τ t h=>by simp [Gh.B0] at h
def Gh.hH (G:Gh) (G1:Gh) (n N:Nat):Gh:=
 { K:=G1.K,role:=fun b=>if b<n then G.role b else Qs N (G1.role b),pm:=G.pm,sm:=G.sm,tk:=fun τ=>if τ<N then G.tk τ else G1.tk (τ-N) }
theorem Inv.hH {G1:Gh} {w1:World} {mem:List (Nat×List AV)} {sh:Sh} {ah ts':aM} (hi:Inv (num ns) G w mem sh ah)
   (h1:Inv (num ns) G1 w1 [] [] ts') (he:cu G.B0 w G1 w1) :
   Inv (num ns) (G.hH G1 w.heap.size ah.length) w1 mem sh (ah++ts')∧G.le (G.hH G1 w.heap.size ah.length)∧cu G w (G.hH G1 w.heap.size ah.length) w1:=by
 have htl:∀τ t,G.tk τ=some t→τ<ah.length:=fun τ t h=>(List.getElem?_eq_some_iff.1 (hi.e8 τ t h)).1
 have hK:G.K.le G1.K:=he.K
 have rOld:∀b,b<w.heap.size→(G.hH G1 w.heap.size ah.length).role b=G.role b:=fun b hb=>by simp only [Gh.hH,if_pos hb]
 have rNew:∀b,¬b<w.heap.size→(G.hH G1 w.heap.size ah.length).role b=Qs ah.length (G1.role b):=fun b hb=>by simp only [Gh.hH,if_neg hb]
 have same:∀b,b<w.heap.size→w1.heap[b]?=w.heap[b]?:=fun b hb=>(he.dV b hb rfl).2
 have Kold:∀b o v,b<w.heap.size→G1.K b o=some v→G.K b o=some v:=fun b o v hb hk=>he.gB b o v hb rfl hk
 have hle:G.le (G.hH G1 w.heap.size ah.length):=⟨hK,fun _ _ h=>h,fun _ _ h=>h,fun τ t h=>⟨t,by simp only [Gh.hH,if_pos (htl τ t h)];exact h,Nat.le_refl _,fun _=>rfl⟩⟩
 refine ⟨⟨h1.known,?_,?_,?_,hi.gN,?_,hi.eZ,?_,?_⟩,hle,?_⟩
 · intro b o v hk
   by_cases hb:b<w.heap.size
   · rw [rOld b hb];exact hi.bt b o v (Kold b o v hb hk)
   · rw [rNew b hb]
     rcases h1.bt b o v hk with h | ⟨τ,h⟩
     · left;rw [h];rfl
     · right;exact ⟨τ+ah.length,by rw [h];rfl⟩
 · intro b hb
   have:=he.size
   rw [rNew b (by omega),h1.fresh b hb];rfl
 · intro d cs hd
   obtain ⟨b,e1,e2,e3⟩:=hi.da d cs hd
   have hlt:b<w.heap.size:=by obtain ⟨_,_,_,hh,_⟩:=e2;exact cM hh
   exact ⟨b,e1,e2.mono hle (rOld b hlt) (same b hlt),e3⟩
 · intro s cs hs
   obtain ⟨b,e1,e2,e3⟩:=hi.dN s cs hs
   have hlt:b.1<w.heap.size:=e2.lt
   exact ⟨b,e1,e2.mono hle (rOld b.1 hlt) (same b.1 hlt),e3⟩
 · intro τ n hn
   by_cases hτ:τ<ah.length
   · rw [List.getElem?_append_left hτ] at hn
     obtain ⟨t,e1,e2,e3⟩:=hi.dp τ n hn
     refine ⟨t,by simp only [Gh.hH,if_pos hτ];exact e1,e2,e3.cap,e3.zero,fun hlt=>?_⟩
     obtain ⟨b,o,c,ty,f1,f2,f3,f4,f5⟩:=e3.spare hlt
     have hlt':=cM f3
     exact ⟨b,o,c,ty,f1,(rOld b hlt').trans f2,(same b hlt').trans f3,f4,fun j v hkk=>f5 j v (Kold b j v hlt' hkk)⟩
   · rw [List.getElem?_append_right (by omega)] at hn
     obtain ⟨t,e1,e2,e3⟩:=h1.dp _ n hn
     refine ⟨t,by simp only [Gh.hH,if_neg hτ];exact e1,e2,e3.cap,e3.zero,fun hlt=>?_⟩
     obtain ⟨b,o,c,ty,f1,f2,f3,f4,f5⟩:=e3.spare hlt
     have hb:¬b<w.heap.size:=fun hb=>by
       have:=(he.dV b hb rfl).1
       rw [f2] at this;cases this
     refine ⟨b,o,c,ty,f1,?_,f3,f4,f5⟩
     rw [rNew b hb,f2]
     simp only [Qs]
     rw [Nat.sub_add_cancel (by omega)]
 · intro τ t ht
   simp only [Gh.hH] at ht
   split at ht
   · rename_i hτ
     rw [List.getElem?_append_left hτ]
     exact hi.e8 τ t ht
   · rename_i hτ
     rw [List.getElem?_append_right (by omega)]
     exact h1.e8 _ t ht
 · exact { size:=he.size,os:=he.os,tape:=he.tape,output:=he.output,K:=hK,sm:=fun _ _ h=>h,
           dV:=fun b hb hr=>⟨(rOld b hb).trans hr,same b hb⟩
           ir:=fun b τ hb hr=>.inr ⟨τ,(rOld b hb).trans hr⟩
           gB:=fun b o v hb _ hk=>Kold b o v hb hk }
theorem C1 {G1:Gh} {w1:World} {ts':aM} {n N:Nat} (h1:Inv (num ns) G1 w1 [] [] ts') {rs:List AV} {v:Value} (hp:rs.all ca=true) (h:dk (num ns) G1 rs v):dk (num ns) (G.hH G1 n N) (rs.map (cI N)) v:=
 m9 (G1:=G1) (G':=G.hH G1 n N) (N:=N) (bM.le_refl G1.K) (fun s b h=>by have:=h1.eZ s b h;simp at this) (fun τ t h=>by simp only [Gh.hH];rw [if_neg (by omega),Nat.add_sub_cancel];exact h) hp h
end
end Go.Ab
