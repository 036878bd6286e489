import Derived.Test.YtcjggpmnbcfedaaDoorAbNorm2
/-
  Handing over to a callee and taking back.
-/
set_option linter.unusedVariables false
set_option linter.unusedSimpArgs false
set_option linter.unnecessarySimpa false
set_option maxRecDepth 100000
set_option maxHeartbeats 8000000
namespace Go.Ab
section
variable {P:Program} {ns:Names} {G:Gh} {w:World}
theorem pE {x:AV} (h:gR x=true):ft x=true:=by
 cases x with
 | own _ _=>rfl
 | _=>simpa [ft,gR] using gF (by simpa [gR] using h)
theorem gI:∀{xs:List AV},dc xs=true→dC xs=true
 | [],_=>rfl
 | x::xs,h=>by
   simp only [dc,Bool.and_eq_true] at h
   simp only [dC,pE h.1,gI h.2,Bool.and_self]
theorem pF {x:AV} (h:aY x=true):gU x=true:=by
 cases x with
 | own _ _=>rfl
 | bJ _ _=>rfl
 | agg cs=>simp only [gU];exact gI (by simpa [aY] using h)
 | _=>simpa [gU,aY] using gF (by simpa [aY] using h)
theorem pG {az ts:al} {x:AV} (h:gR x=true):gR (dM az ts x).1=true:=by
 unfold dM
 split
 · split<;>rfl
 · exact h
theorem kl:∀{xs:List AV} {az ts:al},dc xs=true→dc (cf az ts xs).1=true
 | [],_,_,_=>rfl
 | x::xs,az,ts,h=>by
   simp only [dc,Bool.and_eq_true] at h
   simp only [cf,dc,pG h.1,Bool.true_and]
   exact kl h.2
theorem pH {az ts:al} {x:AV} (h:aY x=true):aY (aW az ts x).1=true:=by
 unfold aW
 split
 · split<;>rfl
 · rfl
 · split
   · exact h
   · simp only [aY] at h ⊢
     exact kl h
 · exact h
theorem ek:∀{xs:List AV} {az ts:al},xs.all aY=true→(aI az ts xs).1.all aY=true
 | [],_,_,_=>rfl
 | x::xs,az,ts,h=>by
   simp only [List.all_cons,Bool.and_eq_true] at h
   simp only [aI,List.all_cons,pH h.1,Bool.true_and]
   exact ek h.2
theorem pI {x:AV} (h:aA x=true):aY x=true:=by
 cases x with
 | own _ _=>rfl
 | fn g cap=>simpa [aA,aY] using h
 | pv _=>rfl
 | cw _=>rfl
 | a0 _ _=>rfl
 | aU _ _ _ _=>rfl
 | gm=>rfl
 | dK _=>rfl
 | cz _=>rfl
 | _=>simp [aA] at h
theorem eK {xs:List AV} (h:xs.all aA=true):xs.all aY=true:=by
 rw [List.all_eq_true] at *
 exact fun x hx=>pI (h x hx)
theorem ju:∀{xs:List AV} {vs:List Value} {az ts:al} {m:Nat→Option Nat} {tks:List Tk},NS G az ts m tks→xs.all aY=true→ae (num ns) G xs vs →
   ∃m' tks',uu ns G m tks (aI az ts xs).2.1 (aI az ts xs).2.2 m' tks'∧ae (num ns) (G.ix m' tks') (aI az ts xs).1 vs
 | [],vs,az,ts,m,tks,hN,_,h=>⟨m,tks,⟨hN,[],by simp [aI]⟩,by simpa only [aI,ae] using h⟩
 | x::xs,vs,az,ts,m,tks,hN,hp,h=>by
   simp only [List.all_cons,Bool.and_eq_true] at hp
   simp only [ae] at h
   obtain ⟨v,r,e,e1,e2⟩:=h
   subst e
   obtain ⟨m1,t1,g1,g2⟩:=im hN (pF hp.1) e1
   obtain ⟨m2,t2,k1,k2⟩:=ju g1.pD hp.2 e2
   refine ⟨m2,t2,⟨k1.pD,?_⟩,?_⟩
   · obtain ⟨a,ha⟩:=g1.ext
     obtain ⟨b,hb⟩:=k1.ext
     exact ⟨a++b,by rw [hb,ha,List.append_assoc]⟩
   · simp only [aI,ae]
     exact ⟨v,r,rfl,g2.mono k1.le,k2⟩
theorem uv {az ts:al} {x:AV}:(dM az ts x).2.1.length=az.length:=by
 unfold dM
 split
 · split<;>simp
 · rfl
theorem lF:∀{xs:List AV} {az ts:al},(cf az ts xs).2.1.length=az.length
 | [],_,_=>rfl
 | x::xs,az,ts=>by simp only [cf];rw [lF,uv]
theorem uw {az ts:al} {x:AV}:(aW az ts x).2.1.length=az.length:=by
 unfold aW
 split
 · split<;>simp
 · rfl
 · split
   · rfl
   · exact lF
 · rfl
theorem jP:∀{xs:List AV} {az ts:al},(aI az ts xs).2.1.length=az.length
 | [],_,_=>rfl
 | x::xs,az,ts=>by simp only [aI];rw [jP,uw]
theorem jQ:∀{sh:Sh} {az ts:al},(bK az ts sh).2.1.length=az.length
 | [],_,_=>rfl
 | none::sh,az,ts=>by simp only [bK];exact jQ
 | some cs::sh,az,ts=>by simp only [bK];rw [jQ,jP]
def Gh.to (G:Gh) (m:Nat→Option Nat) (tks:List Tk):Gh:=
 { K:=G.K,role:=fun b=>match G.role b with | .shr s=>.shr s | .tok τ=>(match m τ with | some k=>.tok k | none=>.b_) | _=>.b_,pm:=fun _=>none,sm:=G.sm,tk:=fun k=>tks[k]? }
theorem AJ {m:Nat→Option Nat} {tks:List Tk} {b s:Nat} (h:G.role b=.shr s):(G.to m tks).role b=.shr s:=by simp [Gh.to,h]
theorem nP {m:Nat→Option Nat} {tks:List Tk} {b τ k:Nat} (h:G.role b=.tok τ) (hm:m τ=some k):(G.to m tks).role b=.tok k:=by simp [Gh.to,h,hm]
theorem jv {m:Nat→Option Nat} {tks:List Tk} {b τ:Nat} (h:G.role b=.tok τ) (hm:m τ=none):(G.to m tks).role b=.b_:=by simp [Gh.to,h,hm]
theorem ir {m:Nat→Option Nat} {tks:List Tk} {b:Nat} (h:G.role b=.b_):(G.to m tks).role b=.b_:=by simp [Gh.to,h]
theorem nQ {m:Nat→Option Nat} {tks:List Tk} {b d:Nat} (h:G.role b=.gW d):(G.to m tks).role b=.b_:=by simp [Gh.to,h]
theorem rq {ρ:aX} {G':Gh} (hK:G.K.le G'.K) (hs:∀s b,G.sm s=some b→G'.sm s=some b) (ht:∀τ t,G.tk τ=some t→G'.tk τ=some t) {xs:List AV} {vs:List Value} (hp:dc xs=true) (h:ae ρ G xs vs):ae ρ G' xs vs:=
 fc hK hs ht (gI hp) h
theorem ux {ρ:aX} {G':Gh} (hK:G.K.le G'.K) (hs:∀s b,G.sm s=some b→G'.sm s=some b) (ht:∀τ t,G.tk τ=some t→G'.tk τ=some t) {x:AV} {v:Value} (hp:aY x=true) (h:ah ρ G x v):ah ρ G' x v:=by
 cases x with
 | own l τ=>
   simp only [ah] at h ⊢
   obtain ⟨t,e1,e2,e3,e4⟩:=h
   exact ⟨t,ht _ _ e1,e2,e3.mono hK,fun hl=>⟨(e4 hl).1,y8 (e4 hl).2 fun ⟨b,o,e,r⟩=>⟨b,o,e,Row.mono hK _ _ _ _ r⟩⟩⟩
 | agg cs=>
   simp only [ah] at h ⊢
   obtain ⟨vs,e,r⟩:=h
   exact ⟨vs,e,rq hK hs ht (by simpa [aY] using hp) r⟩
 | _=>exact iE hK hs (by simpa [aY] using hp) h
theorem fe {ρ:aX} {G':Gh} (hK:G.K.le G'.K) (hs:∀s b,G.sm s=some b→G'.sm s=some b) (ht:∀τ t,G.tk τ=some t→G'.tk τ=some t):∀{xs:List AV} {vs:List Value},xs.all aY=true→ae ρ G xs vs→ae ρ G' xs vs
 | [],_,_,h=>by simpa only [ae] using h
 | x::xs,_,hp,h=>by
   simp only [List.all_cons,Bool.and_eq_true] at hp
   simp only [ae] at h ⊢
   obtain ⟨v,r,e,e1,e2⟩:=h
   exact ⟨v,r,e,ux hK hs ht hp.1 e1,fe hK hs ht hp.2 e2⟩
theorem Inv.w7 {mem:List (Nat×List AV)} {sh:Sh} {aa:al} (hi:Inv (num ns) G w mem sh aa) {xs:List AV} {vs:List Value} (hp:xs.all aY=true) (hr:ae (num ns) G xs vs) :
   ∃m tks,NS G (bR aa xs sh).2.2.1 (bR aa xs sh).2.2.2 m tks∧Inv (num ns) (G.to m tks) w [] (bR aa xs sh).2.1 (bR aa xs sh).2.2.2∧ae (num ns) (G.to m tks) (bR aa xs sh).1 vs:=by
 obtain ⟨m0,tks0,hR,hrel⟩:=ju (NS.start hi) hp hr
 obtain ⟨m,tks,q1,q2,q3⟩:=fM (Go.Ab.gH G w) hR.pD hi.gH
 have hN:=q1.pD
 refine ⟨m,tks,hN,?_,fe (G:=G.ix m tks) (G':=G.to m tks) (aF.le_refl _) (fun _ _ h=>h) (fun _ _ h=>h) (ek hp) (ae.mono q1.le hrel)⟩
 constructor
 · exact hi.known
 · intro b o v hk
   rcases hi.aC b o v hk with h | ⟨τ,h⟩
   · exact .inl (ir h)
   · cases hm:m τ with
     | none=>exact .inl (jv h hm)
     | some k=>exact .inr ⟨k,nP h hm⟩
 · intro b hb;exact ir (hi.fresh b hb)
 · intro d cells h;simp [look] at h
 · intro d b h;simp [Gh.to] at h
 · refine hi.Aj (G':=G.to m tks) (fun _=>rfl) (fun b s hr=>AJ hr) fun s cells' hs=>?_
   obtain ⟨cells,h1,h2,h3,h4⟩:=q3 s cells' hs
   obtain ⟨o,h2,h2'⟩:=h2
   exact ⟨cells,h1,⟨o,h2,h2'.to (fun _ _ _ h=>h) (fun _ e=>e) (fun _ r=>fe (G:=G.ix m tks) (G':=G.to m tks) (aF.le_refl _) (fun _ _ h=>h) (fun _ _ h=>h) (eK h3) r)⟩,h3,h4⟩
 · intro s b hs
   have:=hi.cN s b hs
   have e:(bR aa xs sh).2.1.length=sh.length:=q2
   omega
 · intro k n hn
   have hts:(bR aa xs sh).2.2.2=tks.map (·.len):=hN.ts
   rw [hts,List.getElem?_map,Option.map_eq_some_iff] at hn
   obtain ⟨t,ht,rfl⟩:=hn
   refine ⟨t,ht,rfl,?_⟩
   rcases hN.cap k t ht with ⟨τ,hτ⟩ | hc
   · obtain ⟨t',h1,h2⟩:=hN.map τ k hτ
     rw [ht] at h2;cases h2
     obtain ⟨t'',e1,e2,e3⟩:=hi.bE τ _ (hi.cY τ t h1)
     rw [h1] at e1;cases e1
     refine ⟨e3.cap,e3.zero,fun hlt=>?_⟩
     obtain ⟨b,o,c,ty,f1,f2,f3,f4,f5⟩:=e3.spare hlt
     exact ⟨b,o,c,ty,f1,nP f2 hτ,f3,f4,f5⟩
   · exact ⟨by omega,fun h=>by omega,fun h=>h.elim (fun h=>by omega) (fun h=>by rw [hc.2] at h;cases h)⟩
 · intro k t ht
   have hts:(bR aa xs sh).2.2.2=tks.map (·.len):=hN.ts
   rw [hts,List.getElem?_map]
   have ht':tks[k]?=some t:=ht
   rw [ht'];rfl
 · exact fun b c hb=>⟨ir (hi.hP b c hb).1,(hi.hP b c hb).2⟩
theorem uy {aa:al} {xs:List AV} {sh:Sh}:(bR aa xs sh).2.2.1.length=aa.length:=by
 unfold bR
 simp only [jQ,jP]
theorem aN.to {G1:Gh} {w1:World} (h:aN G w G1 w1) (m:Nat→Option Nat) (tks:List Tk):aN G w (G1.to m tks) w1 where
 size:=h.size
 os:=h.os
 tape:=h.tape
 output:=h.output
 K:=h.K
 sm:=h.sm
 b_:=fun b hb hr=>⟨ir (h.b_ b hb hr).1,(h.b_ b hb hr).2⟩
 ew:=fun b τ hb hr=>by
   rcases h.ew b τ hb hr with h1 | ⟨τ',h1⟩
   · exact .inl (ir h1)
   · cases hm:m τ' with
     | none=>exact .inl (jv h1 hm)
     | some k=>exact .inr ⟨k,nP h1 hm⟩
 dP:=h.dP
def y4 (N:Nat):h_→h_
 | .tok k=>.tok (k+N)
 | .shr s=>.shr s
 | _=>.b_
def Gh.back (G:Gh) (m:Nat→Option Nat) (G1:Gh) (n N:Nat):Gh:=
 { K:=G1.K,
   role:=fun b=>if b<n then (match G.role b with | .shr _=>y4 N (G1.role b) | .tok τ=>(match m τ with | some _=>y4 N (G1.role b) | none=>.tok τ) | r=>r) else y4 N (G1.role b),
   pm:=G.pm,sm:=G1.sm,
   tk:=fun τ=>if τ<N then (match G.tk τ with | some t=>(match m τ with | some _=>some { t with base:=none,len:=t.len+1,cap:=t.len+1,own:=false } | none=>some t) | none=>none) else G1.tk (τ-N) }
theorem lG {G1 G':Gh} {N:Nat} (hK:G1.K.le G'.K) (hs:∀s b,G1.sm s=some b→G'.sm s=some b) (ht:∀τ t,G1.tk τ=some t→G'.tk (τ+N)=some t) {x:AV} {v:Value} (hp:gR x=true) (h:ah (num ns) G1 x v):ah (num ns) G' (hH N x) v:=by
 cases x with
 | own l τ=>
   simp only [hH,ah] at h ⊢
   obtain ⟨t,e1,e2,e3,e4⟩:=h
   exact ⟨t,ht _ _ e1,e2,e3.mono hK,fun hl=>⟨(e4 hl).1,y8 (e4 hl).2 fun ⟨b,o,e,r⟩=>⟨b,o,e,Row.mono hK _ _ _ _ r⟩⟩⟩
 | _=>
   simp only [hH]
   exact iE (G:=G1) (G':=G') hK hs (by simpa [gR] using hp) h
theorem km {G1 G':Gh} {N:Nat} (hK:G1.K.le G'.K) (hs:∀s b,G1.sm s=some b→G'.sm s=some b) (ht:∀τ t,G1.tk τ=some t→G'.tk (τ+N)=some t):∀{xs:List AV} {vs:List Value},dc xs=true→ae (num ns) G1 xs vs→ae (num ns) G' (xs.map (hH N)) vs
 | [],_,_,h=>by simpa only [List.map_nil,ae] using h
 | x::xs,_,hp,h=>by
   simp only [dc,Bool.and_eq_true] at hp
   simp only [List.map_cons,ae] at h ⊢
   obtain ⟨v,r,e,e1,e2⟩:=h
   exact ⟨v,r,e,lG hK hs ht hp.1 e1,km hK hs ht hp.2 e2⟩
theorem mY {G1 G':Gh} {N:Nat} (hK:G1.K.le G'.K) (hs:∀s b,G1.sm s=some b→G'.sm s=some b) (ht:∀τ t,G1.tk τ=some t→G'.tk (τ+N)=some t) {x:AV} {v:Value} (hp:aY x=true) (h:ah (num ns) G1 x v):ah (num ns) G' (cA N x) v:=by
 cases x with
 | own l τ=>exact lG (x:=.own l τ) hK hs ht rfl h
 | agg cs=>
   simp only [cA]
   split
   · rename_i hf
     exact dI (G:=G1) (G':=G') hK hs (by simpa [a_] using hf) h
   · simp only [ah] at h ⊢
     obtain ⟨vs,e,r⟩:=h
     exact ⟨vs,e,km hK hs ht (by simpa [aY] using hp) r⟩
 | _=>
   simp only [cA]
   exact iE (G:=G1) (G':=G') hK hs (by simpa [aY] using hp) h
theorem iW {G1 G':Gh} {N:Nat} (hK:G1.K.le G'.K) (hs:∀s b,G1.sm s=some b→G'.sm s=some b) (ht:∀τ t,G1.tk τ=some t→G'.tk (τ+N)=some t):∀{xs:List AV} {vs:List Value},xs.all aY=true→ae (num ns) G1 xs vs→ae (num ns) G' (xs.map (cA N)) vs
 | [],_,_,h=>by simpa only [List.map_nil,ae] using h
 | x::xs,_,hp,h=>by
   simp only [List.all_cons,Bool.and_eq_true] at hp
   simp only [List.map_cons,ae] at h ⊢
   obtain ⟨v,r,e,e1,e2⟩:=h
   exact ⟨v,r,e,mY hK hs ht hp.1 e1,iW hK hs ht hp.2 e2⟩
theorem tP {m:Nat→Option Nat} {G1:Gh} {n N:Nat}:∀τ t,G1.tk τ=some t→(G.back m G1 n N).tk (τ+N)=some t:=by
 intro τ t h
 simp only [Gh.back]
 rw [if_neg (by omega),Nat.add_sub_cancel]
 exact h
theorem uz {m:Nat→Option Nat} {G1:Gh} {n N:Nat} {xs:List AV} {vs:List Value} (hp:xs.all aY=true) (h:ae (num ns) G1 xs vs):ae (num ns) (G.back m G1 n N) (xs.map (cA N)) vs:=
 iW (G1:=G1) (G':=G.back m G1 n N) (N:=N) (aF.le_refl G1.K) (fun _ _ h=>h) tP hp h
theorem pJ {N n:Nat} {x:AV} (h:aq n x=true):aq n (hH N x)=true:=by
 cases x with
 | own _ _=>rfl
 | _=>exact h
theorem jw {N n:Nat}:∀{xs:List AV},aq.bn n xs=true→aq.bn n (xs.map (hH N))=true
 | [],_=>rfl
 | x::xs,h=>by
   simp only [aq.bn,Bool.and_eq_true] at h
   simp only [List.map_cons,aq.bn,pJ h.1,jw h.2,Bool.and_self]
theorem pK {N n:Nat} {x:AV} (h:aq n x=true):aq n (cA N x)=true:=by
 cases x with
 | own _ _=>rfl
 | agg cs=>
   simp only [cA]
   split
   · exact h
   · simp only [aq] at h ⊢
     exact jw h
 | _=>exact h
theorem pL {N:Nat} {x:AV} (h:aA x=true):aA (cA N x)=true:=by
 cases x with
 | own _ _=>rfl
 | agg _=>simp [aA] at h
 | _=>exact h
theorem Inv.back {G1:Gh} {w1:World} {mem:List (Nat×List AV)} {sh sh':Sh} {aa az ts ts':al} {m:Nat→Option Nat} {tks:List Tk} (hi:Inv (num ns) G w mem sh aa) (hN:NS G az ts m tks) (hol:az.length=aa.length)
   (h1:Inv (num ns) G1 w1 [] sh' ts') (he:aN (G.to m tks) w G1 w1) :
   Inv (num ns) (G.back m G1 w.heap.size aa.length) w1 mem (eP aa.length sh') (az++ts')∧G.le (G.back m G1 w.heap.size aa.length)∧aN G w (G.back m G1 w.heap.size aa.length) w1:=by
 have htl:∀τ t,G.tk τ=some t→τ<aa.length:=fun τ t h=>(List.getElem?_eq_some_iff.1 (hi.cY τ t h)).1
 have tkNone:∀τ t,G.tk τ=some t→m τ=none→(G.back m G1 w.heap.size aa.length).tk τ=some t:=by
   intro τ t h hm
   simp only [Gh.back,if_pos (htl τ t h),h,hm]
 have tkSome:∀τ t k,G.tk τ=some t→m τ=some k→(G.back m G1 w.heap.size aa.length).tk τ=some { t with base:=none,len:=t.len+1,cap:=t.len+1,own:=false }:=by
   intro τ t k h hm
   simp only [Gh.back,if_pos (htl τ t h),h,hm]
 have hle:G.le (G.back m G1 w.heap.size aa.length):=⟨he.K,fun _ _ h=>h,he.sm,fun τ t h=>by
   cases hm:m τ with
   | none=>exact ⟨t,tkNone τ t h hm,⟨Nat.le_refl _,Tk.dO _⟩,fun _=>rfl⟩
   | some k=>exact ⟨_,tkSome τ t k h hm,⟨by simp,fun _=>⟨rfl,by simp⟩,.inl ⟨rfl,by simp⟩⟩,fun e=>by simp at e⟩⟩
 have rImm:∀b,b<w.heap.size→G.role b=.b_→(G.back m G1 w.heap.size aa.length).role b=.b_:=by intro b hb hr;simp only [Gh.back,if_pos hb,hr]
 have rPriv:∀b d,b<w.heap.size→G.role b=.gW d→(G.back m G1 w.heap.size aa.length).role b=.gW d:=by intro b d hb hr;simp only [Gh.back,if_pos hb,hr]
 have rFree:∀b τ,b<w.heap.size→G.role b=.tok τ→m τ=none→(G.back m G1 w.heap.size aa.length).role b=.tok τ:=by intro b τ hb hr hm;simp only [Gh.back,if_pos hb,hr,hm]
 have rTok:∀b τ k,b<w.heap.size→G.role b=.tok τ→m τ=some k→(G.back m G1 w.heap.size aa.length).role b=y4 aa.length (G1.role b):=by intro b τ k hb hr hm;simp only [Gh.back,if_pos hb,hr,hm]
 have rShr:∀b s,b<w.heap.size→G.role b=.shr s→(G.back m G1 w.heap.size aa.length).role b=y4 aa.length (G1.role b):=by intro b s hb hr;simp only [Gh.back,if_pos hb,hr]
 have rNew:∀b,¬b<w.heap.size→(G.back m G1 w.heap.size aa.length).role b=y4 aa.length (G1.role b):=by intro b hb;simp only [Gh.back,if_neg hb]
 have rOut:∀b,G1.role b≠.b_→(G.back m G1 w.heap.size aa.length).role b=y4 aa.length (G1.role b):=by
   intro b hn
   by_cases hb:b<w.heap.size
   · cases hr:G.role b with
     | shr s=>exact rShr b s hb hr
     | b_=>exact absurd (he.b_ b hb (ir hr)).1 hn
     | gW d=>exact absurd (he.b_ b hb (nQ hr)).1 hn
     | tok τ=>
       cases hm:m τ with
       | none=>exact absurd (he.b_ b hb (jv hr hm)).1 hn
       | some k=>exact rTok b τ k hb hr hm
   · exact rNew b hb
 have shKnown:∀b o v,G1.K b o=some v→y4 aa.length (G1.role b)=.b_∨∃τ,y4 aa.length (G1.role b)=.tok τ:=by
   intro b o v hk
   rcases h1.aC b o v hk with h | ⟨τ,h⟩
   · left;rw [h];rfl
   · right;exact ⟨τ+aa.length,by rw [h];rfl⟩
 have hevo:aN G w (G.back m G1 w.heap.size aa.length) w1:={
           size:=he.size,os:=he.os,tape:=he.tape,output:=he.output,K:=he.K,sm:=he.sm,
           b_:=fun b hb hr=>⟨rImm b hb hr,(he.b_ b hb (ir hr)).2⟩
           ew:=fun b τ hb hr=>by
             cases hm:m τ with
             | none=>exact .inr ⟨τ,rFree b τ hb hr hm⟩
             | some k=>
               rw [rTok b τ k hb hr hm]
               rcases he.ew b k hb (nP hr hm) with h | ⟨τ',h⟩
               · left;rw [h];rfl
               · right;exact ⟨τ'+aa.length,by rw [h];rfl⟩
           dP:=fun b o v hb hr hk=>he.dP b o v hb (ir hr) hk }
 refine ⟨⟨h1.known,?_,?_,?_,hi.dX,?_,?_,?_,?_,hi.d7 hevo⟩,hle,hevo⟩
 · intro b o v hk
   have hk1:G1.K b o=some v:=hk
   by_cases hb:b<w.heap.size
   · cases hr:G.role b with
     | shr s=>rw [rShr b s hb hr];exact shKnown b o v hk1
     | b_=>exact .inl (rImm b hb hr)
     | tok τ=>
       cases hm:m τ with
       | none=>exact .inr ⟨τ,rFree b τ hb hr hm⟩
       | some k=>rw [rTok b τ k hb hr hm];exact shKnown b o v hk1
     | gW d=>
       exfalso
       have hk0:G.K b o=some v:=he.dP b o v hb (nQ hr) hk1
       rcases hi.aC b o v hk0 with h | ⟨τ,h⟩<;>rw [hr] at h<;>simp at h
   · rw [rNew b hb];exact shKnown b o v hk1
 · intro b hb
   have:=he.size
   rw [rNew b (by omega),h1.fresh b hb];rfl
 · intro d cs hd
   obtain ⟨b,e1,e2,e3⟩:=hi.bp d cs hd
   obtain ⟨hr,c,t,hh,hrel⟩:=e2
   have hb:=bg hh
   exact ⟨b,e1,⟨rPriv b d hb hr,c,t,((he.b_ b hb (nQ hr)).2).trans hh,ae.mono hle hrel⟩,e3⟩
 · intro s cs0 hs0
   simp only [eP,List.getElem?_map,Option.map_eq_some_iff] at hs0
   obtain ⟨o,hs,ho⟩:=hs0
   cases o with
   | none=>simp at ho
   | some cs=>
     simp at ho
     subst ho
     obtain ⟨b,e1,e2,e3,e4⟩:=h1.bD s cs hs
     obtain ⟨hr,o,hh,hrel⟩:=e2
     refine ⟨b,e1,⟨?_,o,hh,hrel.to (fun _ _ _ h=>h) (fun kvs e=>by subst e;rfl) (fun _ r=>uz (eK e3) r)⟩,?_,?_⟩
     · rw [rOut b.1 (by rw [hr];simp),hr];rfl
     · rw [List.all_eq_true]
       intro x hx
       obtain ⟨y,hy,rfl⟩:=List.mem_map.1 hx
       exact pL (List.all_eq_true.1 e3 y hy)
     · rw [List.all_eq_true]
       intro x hx
       obtain ⟨y,hy,rfl⟩:=List.mem_map.1 hx
       exact pK (List.all_eq_true.1 e4 y hy)
 · intro s b h
   have:=h1.cN s b h
   simp only [eP,List.length_map]
   exact this
 · intro τ n hn
   by_cases hτ:τ<aa.length
   · rw [List.getElem?_append_left (by omega)] at hn
     obtain ⟨t,e1,e2,e3⟩:=hi.bE τ _ (List.getElem?_eq_getElem hτ)
     cases hm:m τ with
     | none=>
       have:=hN.free τ t e1 hm
       rw [hn] at this
       simp at this
       refine ⟨t,tkNone τ t e1 hm,this.symm,e3.cap,e3.zero,fun hlt=>?_⟩
       obtain ⟨b,o,c,ty,f1,f2,f3,f4,f5⟩:=e3.spare hlt
       have hb:=bg f3
       exact ⟨b,o,c,ty,f1,rFree b τ hb f2 hm,((he.b_ b hb (jv f2 hm)).2).trans f3,f4,fun j v hk=>f5 j v (he.dP b j v hb (jv f2 hm) hk)⟩
     | some k=>
       have:=hN.used τ t k e1 hm
       rw [hn] at this
       simp at this
       exact ⟨_,tkSome τ t k e1 hm,this.symm,⟨Nat.le_refl _,fun h=>by simp at h,fun h=>by simp at h⟩⟩
   · rw [List.getElem?_append_right (by omega),hol] at hn
     obtain ⟨t,e1,e2,e3⟩:=h1.bE _ n hn
     refine ⟨t,by simp only [Gh.back,if_neg hτ];exact e1,e2,e3.cap,e3.zero,fun hlt=>?_⟩
     obtain ⟨b,o,c,ty,f1,f2,f3,f4,f5⟩:=e3.spare hlt
     refine ⟨b,o,c,ty,f1,?_,f3,f4,f5⟩
     rw [rOut b (by rw [f2];simp),f2]
     simp only [y4]
     rw [Nat.sub_add_cancel (by omega)]
 · intro τ t ht
   simp only [Gh.back] at ht
   split at ht
   · rename_i hτ
     rw [List.getElem?_append_left (by omega)]
     split at ht
     · rename_i t0 h0
       split at ht
       · rename_i k hm
         simp at ht;subst ht
         exact hN.used τ t0 k h0 hm
       · rename_i hm
         simp at ht;subst ht
         exact hN.free τ t0 h0 hm
     · simp at ht
   · rename_i hτ
     rw [List.getElem?_append_right (by omega),hol]
     exact h1.cY _ t ht
theorem jx {G1 G':Gh} {N:Nat} (hK:G1.K.le G'.K) (hs:∀s b,G1.sm s=some b→G'.sm s=some b) (ht:∀τ t,G1.tk τ=some t→G'.tk (τ+N)=some t) {rs:List AV} {v:Value} (hp:rs.all aY=true) (h:bI (num ns) G1 rs v):bI (num ns) G' (rs.map (cA N)) v:=by
 unfold bI at h
 split at h
 · rename_i r
   simp only [List.all_cons,List.all_nil,Bool.and_true] at hp
   simp only [List.map_cons,List.map_nil,bI]
   exact mY hK hs ht hp h
 · rename_i hn
   obtain ⟨vs,e,h⟩:=h
   unfold bI
   split
   · rename_i r he
     cases rs with
     | nil=>simp at he
     | cons a rs=>
       cases rs with
       | nil=>exact absurd rfl (hn a)
       | cons _ _=>simp at he
   · exact ⟨vs,e,iW hK hs ht hp h⟩
theorem pM {m:Nat→Option Nat} {G1:Gh} {n N:Nat} {rs:List AV} {v:Value} (hp:rs.all aY=true) (h:bI (num ns) G1 rs v):bI (num ns) (G.back m G1 n N) (rs.map (cA N)) v:=
 jx (G1:=G1) (G':=G.back m G1 n N) (N:=N) (aF.le_refl G1.K) (fun _ _ h=>h) tP hp h
def Cc (N:Nat):h_→h_
 | .tok k=>.tok (k+N)
 | _=>.b_
def Gh.uA (G:Gh):Gh:={ K:=G.K,role:=fun _=>.b_,pm:=fun _=>none,sm:=fun _=>none,tk:=fun _=>none }
theorem Inv.uA {mem:List (Nat×List AV)} {sh:Sh} {aa:al} (hi:Inv (num ns) G w mem sh aa):Inv (num ns) G.uA w [] [] [] where
 known:=hi.known
 aC:=fun _ _ _ _=>.inl rfl
 fresh:=fun _ _=>rfl
 bp:=fun d c h=>by simp [look] at h
 dX:=fun d b h=>by simp [Gh.uA] at h
 bD:=fun s c h=>by simp at h
 cN:=fun s b h=>by simp [Gh.uA] at h
 bE:=fun τ n h=>by simp at h
 cY:=fun τ t h=>by simp [Gh.uA] at h
 hP:=fun b c hb=>⟨rfl,(hi.hP b c hb).2⟩
def Gh.d0 (G:Gh) (G1:Gh) (n N:Nat):Gh:=
 { K:=G1.K,role:=fun b=>if b<n then G.role b else Cc N (G1.role b),pm:=G.pm,sm:=G.sm,tk:=fun τ=>if τ<N then G.tk τ else G1.tk (τ-N) }
theorem Inv.d0 {G1:Gh} {w1:World} {mem:List (Nat×List AV)} {sh:Sh} {aa ts':al} (hi:Inv (num ns) G w mem sh aa)
   (h1:Inv (num ns) G1 w1 [] [] ts') (he:aN G.uA w G1 w1) :
   Inv (num ns) (G.d0 G1 w.heap.size aa.length) w1 mem sh (aa++ts')∧G.le (G.d0 G1 w.heap.size aa.length)∧aN G w (G.d0 G1 w.heap.size aa.length) w1:=by
 have htl:∀τ t,G.tk τ=some t→τ<aa.length:=fun τ t h=>(List.getElem?_eq_some_iff.1 (hi.cY τ t h)).1
 have hK:G.K.le G1.K:=he.K
 have rOld:∀b,b<w.heap.size→(G.d0 G1 w.heap.size aa.length).role b=G.role b:=fun b hb=>by simp only [Gh.d0,if_pos hb]
 have rNew:∀b,¬b<w.heap.size→(G.d0 G1 w.heap.size aa.length).role b=Cc aa.length (G1.role b):=fun b hb=>by simp only [Gh.d0,if_neg hb]
 have same:∀b,b<w.heap.size→w1.heap[b]?=w.heap[b]?:=fun b hb=>(he.b_ b hb rfl).2
 have Kold:∀b o v,b<w.heap.size→G1.K b o=some v→G.K b o=some v:=fun b o v hb hk=>he.dP b o v hb rfl hk
 have hle:G.le (G.d0 G1 w.heap.size aa.length):=⟨hK,fun _ _ h=>h,fun _ _ h=>h,fun τ t h=>⟨t,by simp only [Gh.d0,if_pos (htl τ t h)];exact h,⟨Nat.le_refl _,Tk.dO _⟩,fun _=>rfl⟩⟩
 have hevo:aN G w (G.d0 G1 w.heap.size aa.length) w1:={
           size:=he.size,os:=he.os,tape:=he.tape,output:=he.output,K:=hK,sm:=fun _ _ h=>h,
           b_:=fun b hb hr=>⟨(rOld b hb).trans hr,same b hb⟩
           ew:=fun b τ hb hr=>.inr ⟨τ,(rOld b hb).trans hr⟩
           dP:=fun b o v hb _ hk=>Kold b o v hb hk }
 refine ⟨⟨h1.known,?_,?_,?_,hi.dX,?_,hi.cN,?_,?_,hi.d7 hevo⟩,hle,hevo⟩
 · intro b o v hk
   by_cases hb:b<w.heap.size
   · rw [rOld b hb];exact hi.aC b o v (Kold b o v hb hk)
   · rw [rNew b hb]
     rcases h1.aC b o v hk with h | ⟨τ,h⟩
     · left;rw [h];rfl
     · right;exact ⟨τ+aa.length,by rw [h];rfl⟩
 · intro b hb
   have:=he.size
   rw [rNew b (by omega),h1.fresh b hb];rfl
 · intro d cs hd
   obtain ⟨b,e1,e2,e3⟩:=hi.bp d cs hd
   have hlt:b<w.heap.size:=by obtain ⟨_,_,_,hh,_⟩:=e2;exact bg hh
   exact ⟨b,e1,e2.mono hle (rOld b hlt) (same b hlt),e3⟩
 · intro s cs hs
   obtain ⟨b,e1,e2,e3⟩:=hi.bD s cs hs
   have hlt:b.1<w.heap.size:=e2.lt
   exact ⟨b,e1,e2.mono hle (rOld b.1 hlt) (same b.1 hlt),e3⟩
 · intro τ n hn
   by_cases hτ:τ<aa.length
   · rw [List.getElem?_append_left hτ] at hn
     obtain ⟨t,e1,e2,e3⟩:=hi.bE τ n hn
     refine ⟨t,by simp only [Gh.d0,if_pos hτ];exact e1,e2,e3.cap,e3.zero,fun hlt=>?_⟩
     obtain ⟨b,o,c,ty,f1,f2,f3,f4,f5⟩:=e3.spare hlt
     have hlt':=bg f3
     exact ⟨b,o,c,ty,f1,(rOld b hlt').trans f2,(same b hlt').trans f3,f4,fun j v hkk=>f5 j v (Kold b j v hlt' hkk)⟩
   · rw [List.getElem?_append_right (by omega)] at hn
     obtain ⟨t,e1,e2,e3⟩:=h1.bE _ n hn
     refine ⟨t,by simp only [Gh.d0,if_neg hτ];exact e1,e2,e3.cap,e3.zero,fun hlt=>?_⟩
     obtain ⟨b,o,c,ty,f1,f2,f3,f4,f5⟩:=e3.spare hlt
     have hb:¬b<w.heap.size:=fun hb=>by
       have:=(he.b_ b hb rfl).1
       rw [f2] at this;cases this
     refine ⟨b,o,c,ty,f1,?_,f3,f4,f5⟩
     rw [rNew b hb,f2]
     simp only [Cc]
     rw [Nat.sub_add_cancel (by omega)]
 · intro τ t ht
   simp only [Gh.d0] at ht
   split at ht
   · rename_i hτ
     rw [List.getElem?_append_left hτ]
     exact hi.cY τ t ht
   · rename_i hτ
     rw [List.getElem?_append_right (by omega)]
     exact h1.cY _ t ht
theorem uB {G1:Gh} {w1:World} {ts':al} {n N:Nat} (h1:Inv (num ns) G1 w1 [] [] ts') {rs:List AV} {v:Value} (hp:rs.all aY=true) (h:bI (num ns) G1 rs v):bI (num ns) (G.d0 G1 n N) (rs.map (cA N)) v:=
 jx (G1:=G1) (G':=G.d0 G1 n N) (N:=N) (aF.le_refl G1.K) (fun s b h=>by have:=h1.cN s b h;simp at this) (fun τ t h=>by simp only [Gh.d0];rw [if_neg (by omega),Nat.add_sub_cancel];exact h) hp h
end
end Go.Ab
