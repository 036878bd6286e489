import Derived.Test.YtcjggpmnbcfedaaDoorAbNorm2
/-
  Handing over to a callee and taking back.
-/
set_option linter.unusedVariables false
set_option linter.unusedSimpArgs false
set_option maxRecDepth 100000
set_option maxHeartbeats 8000000
namespace Go.Ab
section
variable {P:Program} {ns:Names} {G:Gh} {w:World}
theorem qv {x:AV} (h:eI x=true):eH x=true:=by
 cases x with
 | own _ _=>rfl
 | _=>simpa [eH,eI] using hG (by simpa [eI] using h)
theorem hP:∀{xs:List AV},dG xs=true→ef xs=true
 | [],_=>rfl
 | x::xs,h=>by
   simp only [dG,Bool.and_eq_true] at h
   simp only [ef,qv h.1,hP h.2,Bool.and_self]
theorem qw {x:AV} (h:bp x=true):iq x=true:=by
 cases x with
 | own _ _=>rfl
 | bt _ _=>rfl
 | agg cs=>simp only [iq];exact hP (by simpa [bp] using h)
 | _=>simpa [iq,bp] using hG (by simpa [bp] using h)
theorem qx {aC ts:au} {x:AV} (h:eI x=true):eI (cM aC ts x).1=true:=by
 unfold cM
 split
 · split<;>rfl
 · exact h
theorem lz:∀{xs:List AV} {aC ts:au},dG xs=true→dG (bT aC ts xs).1=true
 | [],_,_,_=>rfl
 | x::xs,aC,ts,h=>by
   simp only [dG,Bool.and_eq_true] at h
   simp only [bT,dG,qx h.1,Bool.true_and]
   exact lz h.2
theorem qy {aC ts:au} {x:AV} (h:bp x=true):bp (bd aC ts x).1=true:=by
 unfold bd
 split
 · split<;>rfl
 · rfl
 · split
   · exact h
   · simp only [bp] at h ⊢
     exact lz h
 · exact h
theorem eY:∀{xs:List AV} {aC ts:au},xs.all bp=true→(aV aC ts xs).1.all bp=true
 | [],_,_,_=>rfl
 | x::xs,aC,ts,h=>by
   simp only [List.all_cons,Bool.and_eq_true] at h
   simp only [aV,List.all_cons,qy h.1,Bool.true_and]
   exact eY h.2
theorem qz {x:AV} (h:aG x=true):bp x=true:=by
 cases x with
 | own _ _=>rfl
 | fn g cap=>simpa [aG,bp] using h
 | pv _=>rfl
 | cg _=>rfl
 | aT _ _=>rfl
 | bh _ _ _ _=>rfl
 | cz=>rfl
 | bY _=>rfl
 | cN _=>rfl
 | _=>simp [aG] at h
theorem fm {xs:List AV} (h:xs.all aG=true):xs.all bp=true:=by
 rw [List.all_eq_true] at *
 exact fun x hx=>qz (h x hx)
theorem j_:∀{xs:List AV} {vs:List Value} {aC ts:au} {m:Nat→Option Nat} {tks:List Tk},NS G aC ts m tks→xs.all bp=true→ae (num ns) G xs vs →
   ∃m' tks',w0 ns G m tks (aV aC ts xs).2.1 (aV aC ts xs).2.2 m' tks'∧ae (num ns) (G.kC m' tks') (aV aC ts xs).1 vs
 | [],vs,aC,ts,m,tks,hN,_,h=>⟨m,tks,⟨hN,[],by simp [aV]⟩,by simpa only [aV,ae] using h⟩
 | x::xs,vs,aC,ts,m,tks,hN,hp,h=>by
   simp only [List.all_cons,Bool.and_eq_true] at hp
   simp only [ae] at h
   obtain ⟨v,r,e,e1,e2⟩:=h
   subst e
   obtain ⟨m1,t1,g1,g2⟩:=iI hN (qw hp.1) e1
   obtain ⟨m2,t2,k1,k2⟩:=j_ g1.qt hp.2 e2
   refine ⟨m2,t2,⟨k1.qt,?_⟩,?_⟩
   · obtain ⟨a,ha⟩:=g1.ext
     obtain ⟨b,hb⟩:=k1.ext
     exact ⟨a++b,by rw [hb,ha,List.append_assoc]⟩
   · simp only [aV,ae]
     exact ⟨v,r,rfl,g2.mono k1.le,k2⟩
theorem w3 {aC ts:au} {x:AV}:(cM aC ts x).2.1.length=aC.length:=by
 unfold cM
 split
 · split<;>simp
 · rfl
theorem mo:∀{xs:List AV} {aC ts:au},(bT aC ts xs).2.1.length=aC.length
 | [],_,_=>rfl
 | x::xs,aC,ts=>by simp only [bT];rw [mo,w3]
theorem w4 {aC ts:au} {x:AV}:(bd aC ts x).2.1.length=aC.length:=by
 unfold bd
 split
 · split<;>simp
 · rfl
 · split
   · rfl
   · exact mo
 · rfl
theorem kD:∀{xs:List AV} {aC ts:au},(aV aC ts xs).2.1.length=aC.length
 | [],_,_=>rfl
 | x::xs,aC,ts=>by simp only [aV];rw [kD,w4]
theorem kE:∀{sh:Sh} {aC ts:au},(bQ aC ts sh).2.1.length=aC.length
 | [],_,_=>rfl
 | none::sh,aC,ts=>by simp only [bQ];exact kE
 | some cs::sh,aC,ts=>by simp only [bQ];rw [kE,kD]
def Gh.to (G:Gh) (m:Nat→Option Nat) (tks:List Tk):Gh:=
 { K:=G.K,role:=fun b=>match G.role b with | .shr s=>.shr s | .tok τ=>(match m τ with | some k=>.tok k | none=>.cX) | _=>.cX,pm:=fun _=>none,sm:=G.sm,tk:=fun k=>tks[k]? }
theorem D0 {m:Nat→Option Nat} {tks:List Tk} {b s:Nat} (h:G.role b=.shr s):(G.to m tks).role b=.shr s:=by simp [Gh.to,h]
theorem oM {m:Nat→Option Nat} {tks:List Tk} {b τ k:Nat} (h:G.role b=.tok τ) (hm:m τ=some k):(G.to m tks).role b=.tok k:=by simp [Gh.to,h,hm]
theorem kb {m:Nat→Option Nat} {tks:List Tk} {b τ:Nat} (h:G.role b=.tok τ) (hm:m τ=none):(G.to m tks).role b=.cX:=by simp [Gh.to,h,hm]
theorem jy {m:Nat→Option Nat} {tks:List Tk} {b:Nat} (h:G.role b=.cX):(G.to m tks).role b=.cX:=by simp [Gh.to,h]
theorem oN {m:Nat→Option Nat} {tks:List Tk} {b d:Nat} (h:G.role b=.jR d):(G.to m tks).role b=.cX:=by simp [Gh.to,h]
theorem sO {ρ:bw} {G':Gh} (hK:G.K.le G'.K) (hs:∀s b,G.sm s=some b→G'.sm s=some b) (ht:∀τ t,G.tk τ=some t→G'.tk τ=some t) {xs:List AV} {vs:List Value} (hp:dG xs=true) (h:ae ρ G xs vs):ae ρ G' xs vs:=
 jx hK hs ht (hP hp) h
theorem w5 {ρ:bw} {G':Gh} (hK:G.K.le G'.K) (hs:∀s b,G.sm s=some b→G'.sm s=some b) (ht:∀τ t,G.tk τ=some t→G'.tk τ=some t) {x:AV} {v:Value} (hp:bp x=true) (h:al ρ G x v):al ρ G' x v:=by
 cases x with
 | own l τ=>
   simp only [al] at h ⊢
   obtain ⟨t,e1,e2,e3,e4⟩:=h
   exact ⟨t,ht _ _ e1,e2,e3.mono hK,fun hl=>⟨(e4 hl).1,Ci (e4 hl).2 fun ⟨b,o,e,r⟩=>⟨b,o,e,Row.mono hK _ _ _ _ r⟩⟩⟩
 | agg cs=>
   simp only [al] at h ⊢
   obtain ⟨vs,e,r⟩:=h
   exact ⟨vs,e,sO hK hs ht (by simpa [bp] using hp) r⟩
 | _=>exact iZ hK hs (by simpa [bp] using hp) h
theorem fU {ρ:bw} {G':Gh} (hK:G.K.le G'.K) (hs:∀s b,G.sm s=some b→G'.sm s=some b) (ht:∀τ t,G.tk τ=some t→G'.tk τ=some t):∀{xs:List AV} {vs:List Value},xs.all bp=true→ae ρ G xs vs→ae ρ G' xs vs
 | [],_,_,h=>by simpa only [ae] using h
 | x::xs,_,hp,h=>by
   simp only [List.all_cons,Bool.and_eq_true] at hp
   simp only [ae] at h ⊢
   obtain ⟨v,r,e,e1,e2⟩:=h
   exact ⟨v,r,e,w5 hK hs ht hp.1 e1,fU hK hs ht hp.2 e2⟩
theorem Inv.zX {mem:List (Nat×List AV)} {sh:Sh} {aa:au} (hi:Inv (num ns) G w mem sh aa) {xs:List AV} {vs:List Value} (hp:xs.all bp=true) (hr:ae (num ns) G xs vs) :
   ∃m tks,NS G (cm aa xs sh).2.2.1 (cm aa xs sh).2.2.2 m tks∧Inv (num ns) (G.to m tks) w [] (cm aa xs sh).2.1 (cm aa xs sh).2.2.2∧ae (num ns) (G.to m tks) (cm aa xs sh).1 vs:=by
 obtain ⟨m0,tks0,hR,hrel⟩:=j_ (NS.start hi) hp hr
 obtain ⟨m,tks,q1,q2,q3⟩:=gv (Go.Ab.hO G w) hR.qt hi.hO
 have hN:=q1.qt
 refine ⟨m,tks,hN,?_,fU (G:=G.kC m tks) (G':=G.to m tks) (aU.le_refl _) (fun _ _ h=>h) (fun _ _ h=>h) (eY hp) (ae.mono q1.le hrel)⟩
 constructor
 · exact hi.known
 · intro b o v hk
   rcases hi.aM b o v hk with h | ⟨τ,h⟩
   · exact .inl (jy h)
   · cases hm:m τ with
     | none=>exact .inl (kb h hm)
     | some k=>exact .inr ⟨k,oM h hm⟩
 · intro b hb;exact jy (hi.fresh b hb)
 · intro d cells h;simp [look] at h
 · intro d b h;simp [Gh.to] at h
 · refine hi.DF (G':=G.to m tks) (fun _=>rfl) (fun b s hr=>D0 hr) fun s cells' hs=>?_
   obtain ⟨cells,h1,h2,h3,h4⟩:=q3 s cells' hs
   obtain ⟨o,h2,h2'⟩:=h2
   exact ⟨cells,h1,⟨o,h2,h2'.to (fun _ _ _ h=>h) (fun _ e=>e) (fun _ r=>fU (G:=G.kC m tks) (G':=G.to m tks) (aU.le_refl _) (fun _ _ h=>h) (fun _ _ h=>h) (fm h3) r)⟩,h3,h4⟩
 · intro s b hs
   have:=hi.dT s b hs
   have e:(cm aa xs sh).2.1.length=sh.length:=q2
   omega
 · intro k n hn
   have hts:(cm aa xs sh).2.2.2=tks.map (·.len):=hN.ts
   rw [hts,List.getElem?_map,Option.map_eq_some_iff] at hn
   obtain ⟨t,ht,rfl⟩:=hn
   refine ⟨t,ht,rfl,?_⟩
   rcases hN.cap k t ht with ⟨τ,hτ⟩ | hc
   · obtain ⟨t',h1,h2⟩:=hN.map τ k hτ
     rw [ht] at h2;cases h2
     obtain ⟨t'',e1,e2,e3⟩:=hi.cn τ _ (hi.dL τ t h1)
     rw [h1] at e1;cases e1
     refine ⟨e3.cap,e3.zero,fun hlt=>?_⟩
     obtain ⟨b,o,c,ty,f1,f2,f3,f4,f5⟩:=e3.spare hlt
     exact ⟨b,o,c,ty,f1,oM f2 hτ,f3,f4,f5⟩
   · exact ⟨by omega,fun h=>by omega,fun h=>h.elim (fun h=>by omega) (fun h=>by rw [hc.2] at h;cases h)⟩
 · intro k t ht
   have hts:(cm aa xs sh).2.2.2=tks.map (·.len):=hN.ts
   rw [hts,List.getElem?_map]
   have ht':tks[k]?=some t:=ht
   rw [ht'];rfl
theorem w6 {aa:au} {xs:List AV} {sh:Sh}:(cm aa xs sh).2.2.1.length=aa.length:=by
 unfold cm
 simp only [kE,kD]
theorem bz.to {G1:Gh} {w1:World} (h:bz G w G1 w1) (m:Nat→Option Nat) (tks:List Tk):bz G w (G1.to m tks) w1 where
 size:=h.size
 os:=h.os
 tape:=h.tape
 output:=h.output
 K:=h.K
 sm:=h.sm
 cX:=fun b hb hr=>⟨jy (h.cX b hb hr).1,(h.cX b hb hr).2⟩
 fe:=fun b τ hb hr=>by
   rcases h.fe b τ hb hr with h1 | ⟨τ',h1⟩
   · exact .inl (jy h1)
   · cases hm:m τ' with
     | none=>exact .inl (kb h1 hm)
     | some k=>exact .inr ⟨k,oM h1 hm⟩
 eE:=h.eE
def Ce (N:Nat):iB→iB
 | .tok k=>.tok (k+N)
 | .shr s=>.shr s
 | _=>.cX
def Gh.back (G:Gh) (m:Nat→Option Nat) (G1:Gh) (n N:Nat):Gh:=
 { K:=G1.K,
   role:=fun b=>if b<n then (match G.role b with | .shr _=>Ce N (G1.role b) | .tok τ=>(match m τ with | some _=>Ce N (G1.role b) | none=>.tok τ) | r=>r) else Ce N (G1.role b),
   pm:=G.pm,sm:=G1.sm,
   tk:=fun τ=>if τ<N then (match G.tk τ with | some t=>(match m τ with | some _=>some { t with base:=none,len:=t.len+1,cap:=t.len+1,own:=false } | none=>some t) | none=>none) else G1.tk (τ-N) }
theorem mq {G1 G':Gh} {N:Nat} (hK:G1.K.le G'.K) (hs:∀s b,G1.sm s=some b→G'.sm s=some b) (ht:∀τ t,G1.tk τ=some t→G'.tk (τ+N)=some t) {x:AV} {v:Value} (hp:eI x=true) (h:al (num ns) G1 x v):al (num ns) G' (dH N x) v:=by
 cases x with
 | own l τ=>
   simp only [dH,al] at h ⊢
   obtain ⟨t,e1,e2,e3,e4⟩:=h
   exact ⟨t,ht _ _ e1,e2,e3.mono hK,fun hl=>⟨(e4 hl).1,Ci (e4 hl).2 fun ⟨b,o,e,r⟩=>⟨b,o,e,Row.mono hK _ _ _ _ r⟩⟩⟩
 | _=>
   simp only [dH]
   exact iZ (G:=G1) (G':=G') hK hs (by simpa [eI] using hp) h
theorem lA {G1 G':Gh} {N:Nat} (hK:G1.K.le G'.K) (hs:∀s b,G1.sm s=some b→G'.sm s=some b) (ht:∀τ t,G1.tk τ=some t→G'.tk (τ+N)=some t):∀{xs:List AV} {vs:List Value},dG xs=true→ae (num ns) G1 xs vs→ae (num ns) G' (xs.map (dH N)) vs
 | [],_,_,h=>by simpa only [List.map_nil,ae] using h
 | x::xs,_,hp,h=>by
   simp only [dG,Bool.and_eq_true] at hp
   simp only [List.map_cons,ae] at h ⊢
   obtain ⟨v,r,e,e1,e2⟩:=h
   exact ⟨v,r,e,mq hK hs ht hp.1 e1,lA hK hs ht hp.2 e2⟩
theorem nN {G1 G':Gh} {N:Nat} (hK:G1.K.le G'.K) (hs:∀s b,G1.sm s=some b→G'.sm s=some b) (ht:∀τ t,G1.tk τ=some t→G'.tk (τ+N)=some t) {x:AV} {v:Value} (hp:bp x=true) (h:al (num ns) G1 x v):al (num ns) G' (bM N x) v:=by
 cases x with
 | own l τ=>exact mq (x:=.own l τ) hK hs ht rfl h
 | agg cs=>
   simp only [bM]
   split
   · rename_i hf
     exact eh (G:=G1) (G':=G') hK hs (by simpa [a7] using hf) h
   · simp only [al] at h ⊢
     obtain ⟨vs,e,r⟩:=h
     exact ⟨vs,e,lA hK hs ht (by simpa [bp] using hp) r⟩
 | _=>
   simp only [bM]
   exact iZ (G:=G1) (G':=G') hK hs (by simpa [bp] using hp) h
theorem jz {G1 G':Gh} {N:Nat} (hK:G1.K.le G'.K) (hs:∀s b,G1.sm s=some b→G'.sm s=some b) (ht:∀τ t,G1.tk τ=some t→G'.tk (τ+N)=some t):∀{xs:List AV} {vs:List Value},xs.all bp=true→ae (num ns) G1 xs vs→ae (num ns) G' (xs.map (bM N)) vs
 | [],_,_,h=>by simpa only [List.map_nil,ae] using h
 | x::xs,_,hp,h=>by
   simp only [List.all_cons,Bool.and_eq_true] at hp
   simp only [List.map_cons,ae] at h ⊢
   obtain ⟨v,r,e,e1,e2⟩:=h
   exact ⟨v,r,e,nN hK hs ht hp.1 e1,jz hK hs ht hp.2 e2⟩
theorem we {m:Nat→Option Nat} {G1:Gh} {n N:Nat}:∀τ t,G1.tk τ=some t→(G.back m G1 n N).tk (τ+N)=some t:=by
 intro τ t h
 simp only [Gh.back]
 rw [if_neg (by omega),Nat.add_sub_cancel]
 exact h
theorem w7 {m:Nat→Option Nat} {G1:Gh} {n N:Nat} {xs:List AV} {vs:List Value} (hp:xs.all bp=true) (h:ae (num ns) G1 xs vs):ae (num ns) (G.back m G1 n N) (xs.map (bM N)) vs:=
 jz (G1:=G1) (G':=G.back m G1 n N) (N:=N) (aU.le_refl G1.K) (fun _ _ h=>h) we hp h
theorem qA {N n:Nat} {x:AV} (h:aw n x=true):aw n (dH N x)=true:=by
 cases x with
 | own _ _=>rfl
 | _=>exact h
theorem kc {N n:Nat}:∀{xs:List AV},aw.bR n xs=true→aw.bR n (xs.map (dH N))=true
 | [],_=>rfl
 | x::xs,h=>by
   simp only [aw.bR,Bool.and_eq_true] at h
   simp only [List.map_cons,aw.bR,qA h.1,kc h.2,Bool.and_self]
theorem qB {N n:Nat} {x:AV} (h:aw n x=true):aw n (bM N x)=true:=by
 cases x with
 | own _ _=>rfl
 | agg cs=>
   simp only [bM]
   split
   · exact h
   · simp only [aw] at h ⊢
     exact kc h
 | _=>exact h
theorem qC {N:Nat} {x:AV} (h:aG x=true):aG (bM N x)=true:=by
 cases x with
 | own _ _=>rfl
 | agg _=>simp [aG] at h
 | _=>exact h
theorem Inv.back {G1:Gh} {w1:World} {mem:List (Nat×List AV)} {sh sh':Sh} {aa aC ts ts':au} {m:Nat→Option Nat} {tks:List Tk} (hi:Inv (num ns) G w mem sh aa) (hN:NS G aC ts m tks) (hol:aC.length=aa.length)
   (h1:Inv (num ns) G1 w1 [] sh' ts') (he:bz (G.to m tks) w G1 w1) :
   Inv (num ns) (G.back m G1 w.heap.size aa.length) w1 mem (fu aa.length sh') (aC++ts')∧G.le (G.back m G1 w.heap.size aa.length)∧bz G w (G.back m G1 w.heap.size aa.length) w1:=by
 have htl:∀τ t,G.tk τ=some t→τ<aa.length:=fun τ t h=>(List.getElem?_eq_some_iff.1 (hi.dL τ t h)).1
 have tkNone:∀τ t,G.tk τ=some t→m τ=none→(G.back m G1 w.heap.size aa.length).tk τ=some t:=by
   intro τ t h hm
   simp only [Gh.back,if_pos (htl τ t h),h,hm]
 have tkSome:∀τ t k,G.tk τ=some t→m τ=some k→(G.back m G1 w.heap.size aa.length).tk τ=some { t with base:=none,len:=t.len+1,cap:=t.len+1,own:=false }:=by
   intro τ t k h hm
   simp only [Gh.back,if_pos (htl τ t h),h,hm]
 have hle:G.le (G.back m G1 w.heap.size aa.length):=⟨he.K,fun _ _ h=>h,he.sm,fun τ t h=>by
   cases hm:m τ with
   | none=>exact ⟨t,tkNone τ t h hm,⟨Nat.le_refl _,Tk.ew _⟩,fun _=>rfl⟩
   | some k=>exact ⟨_,tkSome τ t k h hm,⟨by simp,fun _=>⟨rfl,by simp⟩,.inl ⟨rfl,by simp⟩⟩,fun e=>by simp at e⟩⟩
 have rImm:∀b,b<w.heap.size→G.role b=.cX→(G.back m G1 w.heap.size aa.length).role b=.cX:=by intro b hb hr;simp only [Gh.back,if_pos hb,hr]
 have rPriv:∀b d,b<w.heap.size→G.role b=.jR d→(G.back m G1 w.heap.size aa.length).role b=.jR d:=by intro b d hb hr;simp only [Gh.back,if_pos hb,hr]
 have rFree:∀b τ,b<w.heap.size→G.role b=.tok τ→m τ=none→(G.back m G1 w.heap.size aa.length).role b=.tok τ:=by intro b τ hb hr hm;simp only [Gh.back,if_pos hb,hr,hm]
 have rTok:∀b τ k,b<w.heap.size→G.role b=.tok τ→m τ=some k→(G.back m G1 w.heap.size aa.length).role b=Ce aa.length (G1.role b):=by intro b τ k hb hr hm;simp only [Gh.back,if_pos hb,hr,hm]
 have rShr:∀b s,b<w.heap.size→G.role b=.shr s→(G.back m G1 w.heap.size aa.length).role b=Ce aa.length (G1.role b):=by intro b s hb hr;simp only [Gh.back,if_pos hb,hr]
 have rNew:∀b,¬b<w.heap.size→(G.back m G1 w.heap.size aa.length).role b=Ce aa.length (G1.role b):=by intro b hb;simp only [Gh.back,if_neg hb]
 have rOut:∀b,G1.role b≠.cX→(G.back m G1 w.heap.size aa.length).role b=Ce aa.length (G1.role b):=by
   intro b hn
   by_cases hb:b<w.heap.size
   · cases hr:G.role b with
     | shr s=>exact rShr b s hb hr
     | cX=>exact absurd (he.cX b hb (jy hr)).1 hn
     | jR d=>exact absurd (he.cX b hb (oN hr)).1 hn
     | tok τ=>
       cases hm:m τ with
       | none=>exact absurd (he.cX b hb (kb hr hm)).1 hn
       | some k=>exact rTok b τ k hb hr hm
   · exact rNew b hb
 have shKnown:∀b o v,G1.K b o=some v→Ce aa.length (G1.role b)=.cX∨∃τ,Ce aa.length (G1.role b)=.tok τ:=by
   intro b o v hk
   rcases h1.aM b o v hk with h | ⟨τ,h⟩
   · left;rw [h];rfl
   · right;exact ⟨τ+aa.length,by rw [h];rfl⟩
 refine ⟨⟨h1.known,?_,?_,?_,hi.eN,?_,?_,?_,?_⟩,hle,?_⟩
 · intro b o v hk
   have hk1:G1.K b o=some v:=hk
   by_cases hb:b<w.heap.size
   · cases hr:G.role b with
     | shr s=>rw [rShr b s hb hr];exact shKnown b o v hk1
     | cX=>exact .inl (rImm b hb hr)
     | tok τ=>
       cases hm:m τ with
       | none=>exact .inr ⟨τ,rFree b τ hb hr hm⟩
       | some k=>rw [rTok b τ k hb hr hm];exact shKnown b o v hk1
     | jR d=>
       exfalso
       have hk0:G.K b o=some v:=he.eE b o v hb (oN hr) hk1
       rcases hi.aM b o v hk0 with h | ⟨τ,h⟩<;>rw [hr] at h<;>simp at h
   · rw [rNew b hb];exact shKnown b o v hk1
 · intro b hb
   have:=he.size
   rw [rNew b (by omega),h1.fresh b hb];rfl
 · intro d cs hd
   obtain ⟨b,e1,e2,e3⟩:=hi.bZ d cs hd
   obtain ⟨hr,c,t,hh,hrel⟩:=e2
   have hb:=bO hh
   exact ⟨b,e1,⟨rPriv b d hb hr,c,t,((he.cX b hb (oN hr)).2).trans hh,ae.mono hle hrel⟩,e3⟩
 · intro s cs0 hs0
   simp only [fu,List.getElem?_map,Option.map_eq_some_iff] at hs0
   obtain ⟨o,hs,ho⟩:=hs0
   cases o with
   | none=>simp at ho
   | some cs=>
     simp at ho
     subst ho
     obtain ⟨b,e1,e2,e3,e4⟩:=h1.cL s cs hs
     obtain ⟨hr,o,hh,hrel⟩:=e2
     refine ⟨b,e1,⟨?_,o,hh,hrel.to (fun _ _ _ h=>h) (fun kvs e=>by subst e;rfl) (fun _ r=>w7 (fm e3) r)⟩,?_,?_⟩
     · rw [rOut b.1 (by rw [hr];simp),hr];rfl
     · rw [List.all_eq_true]
       intro x hx
       obtain ⟨y,hy,rfl⟩:=List.mem_map.1 hx
       exact qC (List.all_eq_true.1 e3 y hy)
     · rw [List.all_eq_true]
       intro x hx
       obtain ⟨y,hy,rfl⟩:=List.mem_map.1 hx
       exact qB (List.all_eq_true.1 e4 y hy)
 · intro s b h
   have:=h1.dT s b h
   simp only [fu,List.length_map]
   exact this
 · intro τ n hn
   by_cases hτ:τ<aa.length
   · rw [List.getElem?_append_left (by omega)] at hn
     obtain ⟨t,e1,e2,e3⟩:=hi.cn τ _ (List.getElem?_eq_getElem hτ)
     cases hm:m τ with
     | none=>
       have:=hN.free τ t e1 hm
       rw [hn] at this
       simp at this
       refine ⟨t,tkNone τ t e1 hm,this.symm,e3.cap,e3.zero,fun hlt=>?_⟩
       obtain ⟨b,o,c,ty,f1,f2,f3,f4,f5⟩:=e3.spare hlt
       have hb:=bO f3
       exact ⟨b,o,c,ty,f1,rFree b τ hb f2 hm,((he.cX b hb (kb f2 hm)).2).trans f3,f4,fun j v hk=>f5 j v (he.eE b j v hb (kb f2 hm) hk)⟩
     | some k=>
       have:=hN.used τ t k e1 hm
       rw [hn] at this
       simp at this
       exact ⟨_,tkSome τ t k e1 hm,this.symm,⟨Nat.le_refl _,fun h=>by simp at h,fun h=>by simp at h⟩⟩
   · rw [List.getElem?_append_right (by omega),hol] at hn
     obtain ⟨t,e1,e2,e3⟩:=h1.cn _ n hn
     refine ⟨t,by simp only [Gh.back,if_neg hτ];exact e1,e2,e3.cap,e3.zero,fun hlt=>?_⟩
     obtain ⟨b,o,c,ty,f1,f2,f3,f4,f5⟩:=e3.spare hlt
     refine ⟨b,o,c,ty,f1,?_,f3,f4,f5⟩
     rw [rOut b (by rw [f2];simp),f2]
     simp only [Ce]
     rw [Nat.sub_add_cancel (by omega)]
 · intro τ t ht
   simp only [Gh.back] at ht
   split at ht
   · rename_i hτ
     rw [List.getElem?_append_left (by omega)]
     split at ht
     · rename_i t0 h0
       split at ht
       · rename_i k hm
         simp at ht;subst ht
         exact hN.used τ t0 k h0 hm
       · rename_i hm
         simp at ht;subst ht
         exact hN.free τ t0 h0 hm
     · simp at ht
   · rename_i hτ
     rw [List.getElem?_append_right (by omega),hol]
     exact h1.dL _ t ht
 · exact { size:=he.size,os:=he.os,tape:=he.tape,output:=he.output,K:=he.K,sm:=he.sm,
           cX:=fun b hb hr=>⟨rImm b hb hr,(he.cX b hb (jy hr)).2⟩
           fe:=fun b τ hb hr=>by
             cases hm:m τ with
             | none=>exact .inr ⟨τ,rFree b τ hb hr hm⟩
             | some k=>
               rw [rTok b τ k hb hr hm]
               rcases he.fe b k hb (oM hr hm) with h | ⟨τ',h⟩
               · left;rw [h];rfl
               · right;exact ⟨τ'+aa.length,by rw [h];rfl⟩
           eE:=fun b o v hb hr hk=>he.eE b o v hb (jy hr) hk }
theorem kd {G1 G':Gh} {N:Nat} (hK:G1.K.le G'.K) (hs:∀s b,G1.sm s=some b→G'.sm s=some b) (ht:∀τ t,G1.tk τ=some t→G'.tk (τ+N)=some t) {rs:List AV} {v:Value} (hp:rs.all bp=true) (h:cr (num ns) G1 rs v):cr (num ns) G' (rs.map (bM N)) v:=by
 unfold cr at h
 split at h
 · rename_i r
   simp only [List.all_cons,List.all_nil,Bool.and_true] at hp
   simp only [List.map_cons,List.map_nil,cr]
   exact nN hK hs ht hp h
 · rename_i hn
   obtain ⟨vs,e,h⟩:=h
   unfold cr
   split
   · rename_i r he
     cases rs with
     | nil=>simp at he
     | cons a rs=>
       cases rs with
       | nil=>exact absurd rfl (hn a)
       | cons _ _=>simp at he
   · exact ⟨vs,e,jz hK hs ht hp h⟩
theorem qD {m:Nat→Option Nat} {G1:Gh} {n N:Nat} {rs:List AV} {v:Value} (hp:rs.all bp=true) (h:cr (num ns) G1 rs v):cr (num ns) (G.back m G1 n N) (rs.map (bM N)) v:=
 kd (G1:=G1) (G':=G.back m G1 n N) (N:=N) (aU.le_refl G1.K) (fun _ _ h=>h) we hp h
def F2 (N:Nat):iB→iB
 | .tok k=>.tok (k+N)
 | _=>.cX
def Gh.w8 (G:Gh):Gh:={ K:=G.K,role:=fun _=>.cX,pm:=fun _=>none,sm:=fun _=>none,tk:=fun _=>none }
theorem Inv.w8 {mem:List (Nat×List AV)} {sh:Sh} {aa:au} (hi:Inv (num ns) G w mem sh aa):Inv (num ns) G.w8 w [] [] [] where
 known:=hi.known
 aM:=fun _ _ _ _=>.inl rfl
 fresh:=fun _ _=>rfl
 bZ:=fun d c h=>by simp [look] at h
 eN:=fun d b h=>by simp [Gh.w8] at h
 cL:=fun s c h=>by simp at h
 dT:=fun s b h=>by simp [Gh.w8] at h
 cn:=fun τ n h=>by simp at h
 dL:=fun τ t h=>by simp [Gh.w8] at h
def Gh.eZ (G:Gh) (G1:Gh) (n N:Nat):Gh:=
 { K:=G1.K,role:=fun b=>if b<n then G.role b else F2 N (G1.role b),pm:=G.pm,sm:=G.sm,tk:=fun τ=>if τ<N then G.tk τ else G1.tk (τ-N) }
theorem Inv.eZ {G1:Gh} {w1:World} {mem:List (Nat×List AV)} {sh:Sh} {aa ts':au} (hi:Inv (num ns) G w mem sh aa)
   (h1:Inv (num ns) G1 w1 [] [] ts') (he:bz G.w8 w G1 w1) :
   Inv (num ns) (G.eZ G1 w.heap.size aa.length) w1 mem sh (aa++ts')∧G.le (G.eZ G1 w.heap.size aa.length)∧bz G w (G.eZ G1 w.heap.size aa.length) w1:=by
 have htl:∀τ t,G.tk τ=some t→τ<aa.length:=fun τ t h=>(List.getElem?_eq_some_iff.1 (hi.dL τ t h)).1
 have hK:G.K.le G1.K:=he.K
 have rOld:∀b,b<w.heap.size→(G.eZ G1 w.heap.size aa.length).role b=G.role b:=fun b hb=>by simp only [Gh.eZ,if_pos hb]
 have rNew:∀b,¬b<w.heap.size→(G.eZ G1 w.heap.size aa.length).role b=F2 aa.length (G1.role b):=fun b hb=>by simp only [Gh.eZ,if_neg hb]
 have same:∀b,b<w.heap.size→w1.heap[b]?=w.heap[b]?:=fun b hb=>(he.cX b hb rfl).2
 have Kold:∀b o v,b<w.heap.size→G1.K b o=some v→G.K b o=some v:=fun b o v hb hk=>he.eE b o v hb rfl hk
 have hle:G.le (G.eZ G1 w.heap.size aa.length):=⟨hK,fun _ _ h=>h,fun _ _ h=>h,fun τ t h=>⟨t,by simp only [Gh.eZ,if_pos (htl τ t h)];exact h,⟨Nat.le_refl _,Tk.ew _⟩,fun _=>rfl⟩⟩
 refine ⟨⟨h1.known,?_,?_,?_,hi.eN,?_,hi.dT,?_,?_⟩,hle,?_⟩
 · intro b o v hk
   by_cases hb:b<w.heap.size
   · rw [rOld b hb];exact hi.aM b o v (Kold b o v hb hk)
   · rw [rNew b hb]
     rcases h1.aM b o v hk with h | ⟨τ,h⟩
     · left;rw [h];rfl
     · right;exact ⟨τ+aa.length,by rw [h];rfl⟩
 · intro b hb
   have:=he.size
   rw [rNew b (by omega),h1.fresh b hb];rfl
 · intro d cs hd
   obtain ⟨b,e1,e2,e3⟩:=hi.bZ d cs hd
   have hlt:b<w.heap.size:=by obtain ⟨_,_,_,hh,_⟩:=e2;exact bO hh
   exact ⟨b,e1,e2.mono hle (rOld b hlt) (same b hlt),e3⟩
 · intro s cs hs
   obtain ⟨b,e1,e2,e3⟩:=hi.cL s cs hs
   have hlt:b.1<w.heap.size:=e2.lt
   exact ⟨b,e1,e2.mono hle (rOld b.1 hlt) (same b.1 hlt),e3⟩
 · intro τ n hn
   by_cases hτ:τ<aa.length
   · rw [List.getElem?_append_left hτ] at hn
     obtain ⟨t,e1,e2,e3⟩:=hi.cn τ n hn
     refine ⟨t,by simp only [Gh.eZ,if_pos hτ];exact e1,e2,e3.cap,e3.zero,fun hlt=>?_⟩
     obtain ⟨b,o,c,ty,f1,f2,f3,f4,f5⟩:=e3.spare hlt
     have hlt':=bO f3
     exact ⟨b,o,c,ty,f1,(rOld b hlt').trans f2,(same b hlt').trans f3,f4,fun j v hkk=>f5 j v (Kold b j v hlt' hkk)⟩
   · rw [List.getElem?_append_right (by omega)] at hn
     obtain ⟨t,e1,e2,e3⟩:=h1.cn _ n hn
     refine ⟨t,by simp only [Gh.eZ,if_neg hτ];exact e1,e2,e3.cap,e3.zero,fun hlt=>?_⟩
     obtain ⟨b,o,c,ty,f1,f2,f3,f4,f5⟩:=e3.spare hlt
     have hb:¬b<w.heap.size:=fun hb=>by
       have:=(he.cX b hb rfl).1
       rw [f2] at this;cases this
     refine ⟨b,o,c,ty,f1,?_,f3,f4,f5⟩
     rw [rNew b hb,f2]
     simp only [F2]
     rw [Nat.sub_add_cancel (by omega)]
 · intro τ t ht
   simp only [Gh.eZ] at ht
   split at ht
   · rename_i hτ
     rw [List.getElem?_append_left hτ]
     exact hi.dL τ t ht
   · rename_i hτ
     rw [List.getElem?_append_right (by omega)]
     exact h1.dL _ t ht
 · exact { size:=he.size,os:=he.os,tape:=he.tape,output:=he.output,K:=hK,sm:=fun _ _ h=>h,
           cX:=fun b hb hr=>⟨(rOld b hb).trans hr,same b hb⟩
           fe:=fun b τ hb hr=>.inr ⟨τ,(rOld b hb).trans hr⟩
           eE:=fun b o v hb _ hk=>Kold b o v hb hk }
theorem w9 {G1:Gh} {w1:World} {ts':au} {n N:Nat} (h1:Inv (num ns) G1 w1 [] [] ts') {rs:List AV} {v:Value} (hp:rs.all bp=true) (h:cr (num ns) G1 rs v):cr (num ns) (G.eZ G1 n N) (rs.map (bM N)) v:=
 kd (G1:=G1) (G':=G.eZ G1 n N) (N:=N) (aU.le_refl G1.K) (fun s b h=>by have:=h1.dT s b h;simp at this) (fun τ t h=>by simp only [Gh.eZ];rw [if_neg (by omega),Nat.add_sub_cancel];exact h) hp h
end
end Go.Ab
