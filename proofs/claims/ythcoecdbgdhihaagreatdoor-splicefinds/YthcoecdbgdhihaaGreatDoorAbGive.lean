import Derived.Test.YthcoecdbgdhihaaGreatDoorAbNorm2
/-
  Handing over to a callee and taking back.
-/
set_option linter.unusedVariables false
set_option linter.unusedSimpArgs false
set_option linter.unnecessarySimpa false
set_option maxRecDepth 100000
set_option maxHeartbeats 8000000
namespace Go.Ab
section
variable {P:Program} {ns:Names} {G:Gh} {w:World}
theorem wR {x:AV} (h:kE x=true):jl x=true:=by
 cases x with
 | own _ _=>rfl
 | _=>simpa [jl,kE] using kf (by simpa [kE] using h)
theorem ki:∀{xs:List AV},e8 xs=true→fD xs=true
 | [],_=>rfl
 | x::xs,h=>by
   simp only [e8,Bool.and_eq_true] at h
   simp only [fD,wR h.1,ki h.2,Bool.and_self]
theorem wS {x:AV} (h:cr x=true):kG x=true:=by
 cases x with
 | own _ _=>rfl
 | aG _ _=>rfl
 | agg cs=>simp only [kG];exact ki (by simpa [cr] using h)
 | _=>simpa [kG,cr] using kf (by simpa [cr] using h)
theorem wT {bh ts:aN} {x:AV} (h:kE x=true):kE (gG bh ts x).1=true:=by
 unfold gG
 split
 · split<;>rfl
 · exact h
theorem pn:∀{xs:List AV} {bh ts:aN},e8 xs=true→e8 (d6 bh ts xs).1=true
 | [],_,_,_=>rfl
 | x::xs,bh,ts,h=>by
   simp only [e8,Bool.and_eq_true] at h
   simp only [d6,e8,wT h.1,Bool.true_and]
   exact pn h.2
theorem wU {bh ts:aN} {x:AV} (h:cr x=true):cr (cf bh ts x).1=true:=by
 unfold cf
 split
 · split<;>rfl
 · rfl
 · split
   · exact h
   · simp only [cr] at h ⊢
     exact pn h
 · exact h
theorem iw:∀{xs:List AV} {bh ts:aN},xs.all cr=true→(bQ bh ts xs).1.all cr=true
 | [],_,_,_=>rfl
 | x::xs,bh,ts,h=>by
   simp only [List.all_cons,Bool.and_eq_true] at h
   simp only [bQ,List.all_cons,wU h.1,Bool.true_and]
   exact iw h.2
theorem wV {x:AV} (h:bp x=true):cr x=true:=by
 cases x with
 | own _ _=>rfl
 | fn g cap=>simpa [bp,cr] using h
 | pv _=>rfl
 | bN _=>rfl
 | bu _ _=>rfl
 | bI _ _ _ _=>rfl
 | jI=>rfl
 | jJ _=>rfl
 | fo _=>rfl
 | _=>simp [bp] at h
theorem iN {xs:List AV} (h:xs.all bp=true):xs.all cr=true:=by
 rw [List.all_eq_true] at *
 exact fun x hx=>wV (h x hx)
theorem nj:∀{xs:List AV} {vs:List Value} {bh ts:aN} {m:Nat→Option Nat} {tks:List Tk},NS G bh ts m tks→xs.all cr=true→az (num ns) G xs vs →
   ∃m' tks',C7 ns G m tks (bQ bh ts xs).2.1 (bQ bh ts xs).2.2 m' tks'∧az (num ns) (G.kU m' tks') (bQ bh ts xs).1 vs
 | [],vs,bh,ts,m,tks,hN,_,h=>⟨m,tks,⟨hN,[],by simp [bQ]⟩,by simpa only [bQ,az] using h⟩
 | x::xs,vs,bh,ts,m,tks,hN,hp,h=>by
   simp only [List.all_cons,Bool.and_eq_true] at hp
   simp only [az] at h
   obtain ⟨v,r,e,e1,e2⟩:=h
   subst e
   obtain ⟨m1,t1,g1,g2⟩:=lj hN (wS hp.1) e1
   obtain ⟨m2,t2,k1,k2⟩:=nj g1.wQ hp.2 e2
   refine ⟨m2,t2,⟨k1.wQ,?_⟩,?_⟩
   · obtain ⟨a,ha⟩:=g1.ext
     obtain ⟨b,hb⟩:=k1.ext
     exact ⟨a++b,by rw [hb,ha,List.append_assoc]⟩
   · simp only [bQ,az]
     exact ⟨v,r,rfl,g2.mono k1.le,k2⟩
theorem C8 {bh ts:aN} {x:AV}:(gG bh ts x).2.1.length=bh.length:=by
 unfold gG
 split
 · split<;>simp
 · rfl
theorem qU:∀{xs:List AV} {bh ts:aN},(d6 bh ts xs).2.1.length=bh.length
 | [],_,_=>rfl
 | x::xs,bh,ts=>by simp only [d6];rw [qU,C8]
theorem C9 {bh ts:aN} {x:AV}:(cf bh ts x).2.1.length=bh.length:=by
 unfold cf
 split
 · split<;>simp
 · rfl
 · split
   · rfl
   · exact qU
 · rfl
theorem oi:∀{xs:List AV} {bh ts:aN},(bQ bh ts xs).2.1.length=bh.length
 | [],_,_=>rfl
 | x::xs,bh,ts=>by simp only [bQ];rw [oi,C9]
theorem oj:∀{sh:Sh} {bh ts:aN},(cm bh ts sh).2.1.length=bh.length
 | [],_,_=>rfl
 | none::sh,bh,ts=>by simp only [cm];exact oj
 | some cs::sh,bh,ts=>by simp only [cm];rw [oj,oi]
def Gh.to (G:Gh) (m:Nat→Option Nat) (tks:List Tk):Gh:=
 { K:=G.K,role:=fun b=>match G.role b with | .shr s=>.shr s | .tok τ=>(match m τ with | some k=>.tok k | none=>.eA) | _=>.eA,pm:=fun _=>none,sm:=G.sm,tk:=fun k=>tks[k]? }
theorem LH {m:Nat→Option Nat} {tks:List Tk} {b s:Nat} (h:G.role b=.shr s):(G.to m tks).role b=.shr s:=by simp [Gh.to,h]
theorem uP {m:Nat→Option Nat} {tks:List Tk} {b τ k:Nat} (h:G.role b=.tok τ) (hm:m τ=some k):(G.to m tks).role b=.tok k:=by simp [Gh.to,h,hm]
theorem nk {m:Nat→Option Nat} {tks:List Tk} {b τ:Nat} (h:G.role b=.tok τ) (hm:m τ=none):(G.to m tks).role b=.eA:=by simp [Gh.to,h,hm]
theorem lp {m:Nat→Option Nat} {tks:List Tk} {b:Nat} (h:G.role b=.eA):(G.to m tks).role b=.eA:=by simp [Gh.to,h]
theorem uQ {m:Nat→Option Nat} {tks:List Tk} {b d:Nat} (h:G.role b=.kK d):(G.to m tks).role b=.eA:=by simp [Gh.to,h]
theorem zt {ρ:cx} {G':Gh} (hK:G.K.le G'.K) (hs:∀s b,G.sm s=some b→G'.sm s=some b) (ht:∀τ t,G.tk τ=some t→G'.tk τ=some t) {xs:List AV} {vs:List Value} (hp:e8 xs=true) (h:az ρ G xs vs):az ρ G' xs vs:=
 jb hK hs ht (ki hp) h
theorem C_ {ρ:cx} {G':Gh} (hK:G.K.le G'.K) (hs:∀s b,G.sm s=some b→G'.sm s=some b) (ht:∀τ t,G.tk τ=some t→G'.tk τ=some t) {x:AV} {v:Value} (hp:cr x=true) (h:aC ρ G x v):aC ρ G' x v:=by
 cases x with
 | own l τ=>
   simp only [aC] at h ⊢
   obtain ⟨t,e1,e2,e3,e4⟩:=h
   exact ⟨t,ht _ _ e1,e2,e3.mono hK,fun hl=>⟨(e4 hl).1,IS (e4 hl).2 fun ⟨b,o,e,r⟩=>⟨b,o,e,Row.mono hK _ _ _ _ r⟩⟩⟩
 | agg cs=>
   simp only [aC] at h ⊢
   obtain ⟨vs,e,r⟩:=h
   exact ⟨vs,e,zt hK hs ht (by simpa [cr] using hp) r⟩
 | _=>exact lP hK hs (by simpa [cr] using hp) h
theorem jc {ρ:cx} {G':Gh} (hK:G.K.le G'.K) (hs:∀s b,G.sm s=some b→G'.sm s=some b) (ht:∀τ t,G.tk τ=some t→G'.tk τ=some t):∀{xs:List AV} {vs:List Value},xs.all cr=true→az ρ G xs vs→az ρ G' xs vs
 | [],_,_,h=>by simpa only [az] using h
 | x::xs,_,hp,h=>by
   simp only [List.all_cons,Bool.and_eq_true] at hp
   simp only [az] at h ⊢
   obtain ⟨v,r,e,e1,e2⟩:=h
   exact ⟨v,r,e,C_ hK hs ht hp.1 e1,jc hK hs ht hp.2 e2⟩
theorem Inv.FY {mem:List (Nat×List AV)} {sh:Sh} {ah:aN} (hi:Inv (num ns) G w mem sh ah) {xs:List AV} {vs:List Value} (hp:xs.all cr=true) (hr:az (num ns) G xs vs) :
   ∃m tks,NS G (dj ah xs sh).2.2.1 (dj ah xs sh).2.2.2 m tks∧Inv (num ns) (G.to m tks) w [] (dj ah xs sh).2.1 (dj ah xs sh).2.2.2∧az (num ns) (G.to m tks) (dj ah xs sh).1 vs:=by
 obtain ⟨m0,tks0,hR,hrel⟩:=nj (NS.start hi) hp hr
 obtain ⟨m,tks,q1,q2,q3⟩:=jt (Go.Ab.kh G w) hR.wQ hi.kh
 have hN:=q1.wQ
 refine ⟨m,tks,hN,?_,jc (G:=G.kU m tks) (G':=G.to m tks) (bE.le_refl _) (fun _ _ h=>h) (fun _ _ h=>h) (iw hp) (az.mono q1.le hrel)⟩
 constructor
 · exact hi.known
 · intro b o v hk
   rcases hi.bt b o v hk with h | ⟨τ,h⟩
   · exact .inl (lp h)
   · cases hm:m τ with
     | none=>exact .inl (nk h hm)
     | some k=>exact .inr ⟨k,uP h hm⟩
 · intro b hb;exact lp (hi.fresh b hb)
 · intro d cells h;simp [look] at h
 · intro d b h;simp [Gh.to] at h
 · refine hi.KE (G':=G.to m tks) (fun _=>rfl) (fun b s hr=>LH hr) fun s cells' hs=>?_
   obtain ⟨cells,h1,h2,h3,h4⟩:=q3 s cells' hs
   obtain ⟨o,h2,h2'⟩:=h2
   exact ⟨cells,h1,⟨o,h2,h2'.to (fun _ _ _ h=>h) (fun _ e=>e) (fun _ r=>jc (G:=G.kU m tks) (G':=G.to m tks) (bE.le_refl _) (fun _ _ h=>h) (fun _ _ h=>h) (iN h3) r)⟩,h3,h4⟩
 · intro s b hs
   have:=hi.eE s b hs
   have e:(dj ah xs sh).2.1.length=sh.length:=q2
   omega
 · intro k n hn
   have hts:(dj ah xs sh).2.2.2=tks.map (·.len):=hN.ts
   rw [hts,List.getElem?_map,Option.map_eq_some_iff] at hn
   obtain ⟨t,ht,rfl⟩:=hn
   refine ⟨t,ht,rfl,?_⟩
   rcases hN.cap k t ht with ⟨τ,hτ⟩ | hc
   · obtain ⟨t',h1,h2⟩:=hN.map τ k hτ
     rw [ht] at h2;cases h2
     obtain ⟨t'',e1,e2,e3⟩:=hi.dE τ _ (hi.eW τ t h1)
     rw [h1] at e1;cases e1
     refine ⟨e3.cap,e3.zero,fun hlt=>?_⟩
     obtain ⟨b,o,c,ty,f1,f2,f3,f4,f5⟩:=e3.spare hlt
     exact ⟨b,o,c,ty,f1,uP f2 hτ,f3,f4,f5⟩
   · exact ⟨by omega,fun h=>by omega,fun h=>h.elim (fun h=>by omega) (fun h=>by rw [hc.2] at h;cases h)⟩
 · intro k t ht
   have hts:(dj ah xs sh).2.2.2=tks.map (·.len):=hN.ts
   rw [hts,List.getElem?_map]
   have ht':tks[k]?=some t:=ht
   rw [ht'];rfl
 · exact fun b c hb=>⟨lp (hi.jM b c hb).1,(hi.jM b c hb).2⟩
theorem C' {ah:aN} {xs:List AV} {sh:Sh}:(dj ah xs sh).2.2.1.length=ah.length:=by
 unfold dj
 simp only [oj,oi]
theorem cp.to {G1:Gh} {w1:World} (h:cp G w G1 w1) (m:Nat→Option Nat) (tks:List Tk):cp G w (G1.to m tks) w1 where
 size:=h.size
 os:=h.os
 tape:=h.tape
 output:=h.output
 K:=h.K
 sm:=h.sm
 eA:=fun b hb hr=>⟨lp (h.eA b hb hr).1,(h.eA b hb hr).2⟩
 iD:=fun b τ hb hr=>by
   rcases h.iD b τ hb hr with h1 | ⟨τ',h1⟩
   · exact .inl (lp h1)
   · cases hm:m τ' with
     | none=>exact .inl (nk h1 hm)
     | some k=>exact .inr ⟨k,uP h1 hm⟩
 gJ:=h.gJ
def mG (N:Nat):la→la
 | .tok k=>.tok (k+N)
 | .shr s=>.shr s
 | _=>.eA
def Gh.back (G:Gh) (m:Nat→Option Nat) (G1:Gh) (n N:Nat):Gh:=
 { K:=G1.K,
   role:=fun b=>if b<n then (match G.role b with | .shr _=>mG N (G1.role b) | .tok τ=>(match m τ with | some _=>mG N (G1.role b) | none=>.tok τ) | r=>r) else mG N (G1.role b),
   pm:=G.pm,sm:=G1.sm,
   tk:=fun τ=>if τ<N then (match G.tk τ with | some t=>(match m τ with | some _=>some { t with base:=none,len:=t.len+1,cap:=t.len+1,own:=false } | none=>some t) | none=>none) else G1.tk (τ-N) }
theorem qV {G1 G':Gh} {N:Nat} (hK:G1.K.le G'.K) (hs:∀s b,G1.sm s=some b→G'.sm s=some b) (ht:∀τ t,G1.tk τ=some t→G'.tk (τ+N)=some t) {x:AV} {v:Value} (hp:kE x=true) (h:aC (num ns) G1 x v):aC (num ns) G' (kW N x) v:=by
 cases x with
 | own l τ=>
   simp only [kW,aC] at h ⊢
   obtain ⟨t,e1,e2,e3,e4⟩:=h
   exact ⟨t,ht _ _ e1,e2,e3.mono hK,fun hl=>⟨(e4 hl).1,IS (e4 hl).2 fun ⟨b,o,e,r⟩=>⟨b,o,e,Row.mono hK _ _ _ _ r⟩⟩⟩
 | _=>
   simp only [kW]
   exact lP (G:=G1) (G':=G') hK hs (by simpa [kE] using hp) h
theorem po {G1 G':Gh} {N:Nat} (hK:G1.K.le G'.K) (hs:∀s b,G1.sm s=some b→G'.sm s=some b) (ht:∀τ t,G1.tk τ=some t→G'.tk (τ+N)=some t):∀{xs:List AV} {vs:List Value},e8 xs=true→az (num ns) G1 xs vs→az (num ns) G' (xs.map (kW N)) vs
 | [],_,_,h=>by simpa only [List.map_nil,az] using h
 | x::xs,_,hp,h=>by
   simp only [e8,Bool.and_eq_true] at hp
   simp only [List.map_cons,az] at h ⊢
   obtain ⟨v,r,e,e1,e2⟩:=h
   exact ⟨v,r,e,qV hK hs ht hp.1 e1,po hK hs ht hp.2 e2⟩
theorem tF {G1 G':Gh} {N:Nat} (hK:G1.K.le G'.K) (hs:∀s b,G1.sm s=some b→G'.sm s=some b) (ht:∀τ t,G1.tk τ=some t→G'.tk (τ+N)=some t) {x:AV} {v:Value} (hp:cr x=true) (h:aC (num ns) G1 x v):aC (num ns) G' (dB N x) v:=by
 cases x with
 | own l τ=>exact qV (x:=.own l τ) hK hs ht rfl h
 | agg cs=>
   simp only [dB]
   split
   · rename_i hf
     exact iQ (G:=G1) (G':=G') hK hs (by simpa [cy] using hf) h
   · simp only [aC] at h ⊢
     obtain ⟨vs,e,r⟩:=h
     exact ⟨vs,e,po hK hs ht (by simpa [cr] using hp) r⟩
 | _=>
   simp only [dB]
   exact lP (G:=G1) (G':=G') hK hs (by simpa [cr] using hp) h
theorem mH {G1 G':Gh} {N:Nat} (hK:G1.K.le G'.K) (hs:∀s b,G1.sm s=some b→G'.sm s=some b) (ht:∀τ t,G1.tk τ=some t→G'.tk (τ+N)=some t):∀{xs:List AV} {vs:List Value},xs.all cr=true→az (num ns) G1 xs vs→az (num ns) G' (xs.map (dB N)) vs
 | [],_,_,h=>by simpa only [List.map_nil,az] using h
 | x::xs,_,hp,h=>by
   simp only [List.all_cons,Bool.and_eq_true] at hp
   simp only [List.map_cons,az] at h ⊢
   obtain ⟨v,r,e,e1,e2⟩:=h
   exact ⟨v,r,e,tF hK hs ht hp.1 e1,mH hK hs ht hp.2 e2⟩
theorem BY {m:Nat→Option Nat} {G1:Gh} {n N:Nat}:∀τ t,G1.tk τ=some t→(G.back m G1 n N).tk (τ+N)=some t:=by
 intro τ t h
 simp only [Gh.back]
 rw [if_neg (by omega),Nat.add_sub_cancel]
 exact h
theorem Da {m:Nat→Option Nat} {G1:Gh} {n N:Nat} {xs:List AV} {vs:List Value} (hp:xs.all cr=true) (h:az (num ns) G1 xs vs):az (num ns) (G.back m G1 n N) (xs.map (dB N)) vs:=
 mH (G1:=G1) (G':=G.back m G1 n N) (N:=N) (bE.le_refl G1.K) (fun _ _ h=>h) BY hp h
theorem wW {N n:Nat} {x:AV} (h:aV n x=true):aV n (kW N x)=true:=by
 cases x with
 | own _ _=>rfl
 | _=>exact h
theorem np {N n:Nat}:∀{xs:List AV},aV.cU n xs=true→aV.cU n (xs.map (kW N))=true
 | [],_=>rfl
 | x::xs,h=>by
   simp only [aV.cU,Bool.and_eq_true] at h
   simp only [List.map_cons,aV.cU,wW h.1,np h.2,Bool.and_self]
theorem wX {N n:Nat} {x:AV} (h:aV n x=true):aV n (dB N x)=true:=by
 cases x with
 | own _ _=>rfl
 | agg cs=>
   simp only [dB]
   split
   · exact h
   · simp only [aV] at h ⊢
     exact np h
 | _=>exact h
theorem wY {N:Nat} {x:AV} (h:bp x=true):bp (dB N x)=true:=by
 cases x with
 | own _ _=>rfl
 | agg _=>simp [bp] at h
 | _=>exact h
theorem Inv.back {G1:Gh} {w1:World} {mem:List (Nat×List AV)} {sh sh':Sh} {ah bh ts ts':aN} {m:Nat→Option Nat} {tks:List Tk} (hi:Inv (num ns) G w mem sh ah) (hN:NS G bh ts m tks) (hol:bh.length=ah.length)
   (h1:Inv (num ns) G1 w1 [] sh' ts') (he:cp (G.to m tks) w G1 w1) :
   Inv (num ns) (G.back m G1 w.heap.size ah.length) w1 mem (gW ah.length sh') (bh++ts')∧G.le (G.back m G1 w.heap.size ah.length)∧cp G w (G.back m G1 w.heap.size ah.length) w1:=by
 have htl:∀τ t,G.tk τ=some t→τ<ah.length:=fun τ t h=>(List.getElem?_eq_some_iff.1 (hi.eW τ t h)).1
 have tkNone:∀τ t,G.tk τ=some t→m τ=none→(G.back m G1 w.heap.size ah.length).tk τ=some t:=by
   intro τ t h hm
   simp only [Gh.back,if_pos (htl τ t h),h,hm]
 have tkSome:∀τ t k,G.tk τ=some t→m τ=some k→(G.back m G1 w.heap.size ah.length).tk τ=some { t with base:=none,len:=t.len+1,cap:=t.len+1,own:=false }:=by
   intro τ t k h hm
   simp only [Gh.back,if_pos (htl τ t h),h,hm]
 have hle:G.le (G.back m G1 w.heap.size ah.length):=⟨he.K,fun _ _ h=>h,he.sm,fun τ t h=>by
   cases hm:m τ with
   | none=>exact ⟨t,tkNone τ t h hm,⟨Nat.le_refl _,Tk.gH _⟩,fun _=>rfl⟩
   | some k=>exact ⟨_,tkSome τ t k h hm,⟨by simp,fun _=>⟨rfl,by simp⟩,.inl ⟨rfl,by simp⟩⟩,fun e=>by simp at e⟩⟩
 have rImm:∀b,b<w.heap.size→G.role b=.eA→(G.back m G1 w.heap.size ah.length).role b=.eA:=by intro b hb hr;simp only [Gh.back,if_pos hb,hr]
 have rPriv:∀b d,b<w.heap.size→G.role b=.kK d→(G.back m G1 w.heap.size ah.length).role b=.kK d:=by intro b d hb hr;simp only [Gh.back,if_pos hb,hr]
 have rFree:∀b τ,b<w.heap.size→G.role b=.tok τ→m τ=none→(G.back m G1 w.heap.size ah.length).role b=.tok τ:=by intro b τ hb hr hm;simp only [Gh.back,if_pos hb,hr,hm]
 have rTok:∀b τ k,b<w.heap.size→G.role b=.tok τ→m τ=some k→(G.back m G1 w.heap.size ah.length).role b=mG ah.length (G1.role b):=by intro b τ k hb hr hm;simp only [Gh.back,if_pos hb,hr,hm]
 have rShr:∀b s,b<w.heap.size→G.role b=.shr s→(G.back m G1 w.heap.size ah.length).role b=mG ah.length (G1.role b):=by intro b s hb hr;simp only [Gh.back,if_pos hb,hr]
 have rNew:∀b,¬b<w.heap.size→(G.back m G1 w.heap.size ah.length).role b=mG ah.length (G1.role b):=by intro b hb;simp only [Gh.back,if_neg hb]
 have rOut:∀b,G1.role b≠.eA→(G.back m G1 w.heap.size ah.length).role b=mG ah.length (G1.role b):=by
   intro b hn
   by_cases hb:b<w.heap.size
   · cases hr:G.role b with
     | shr s=>exact rShr b s hb hr
     | eA=>exact absurd (he.eA b hb (lp hr)).1 hn
     | kK d=>exact absurd (he.eA b hb (uQ hr)).1 hn
     | tok τ=>
       cases hm:m τ with
       | none=>exact absurd (he.eA b hb (nk hr hm)).1 hn
       | some k=>exact rTok b τ k hb hr hm
   · exact rNew b hb
 have shKnown:∀b o v,G1.K b o=some v→mG ah.length (G1.role b)=.eA∨∃τ,mG ah.length (G1.role b)=.tok τ:=by
   intro b o v hk
   rcases h1.bt b o v hk with h | ⟨τ,h⟩
   · left;rw [h];rfl
   · right;exact ⟨τ+ah.length,by rw [h];rfl⟩
 have hevo:cp G w (G.back m G1 w.heap.size ah.length) w1:={
           size:=he.size,os:=he.os,tape:=he.tape,output:=he.output,K:=he.K,sm:=he.sm,
           eA:=fun b hb hr=>⟨rImm b hb hr,(he.eA b hb (lp hr)).2⟩
           iD:=fun b τ hb hr=>by
             cases hm:m τ with
             | none=>exact .inr ⟨τ,rFree b τ hb hr hm⟩
             | some k=>
               rw [rTok b τ k hb hr hm]
               rcases he.iD b k hb (uP hr hm) with h | ⟨τ',h⟩
               · left;rw [h];rfl
               · right;exact ⟨τ'+ah.length,by rw [h];rfl⟩
           gJ:=fun b o v hb hr hk=>he.gJ b o v hb (lp hr) hk }
 refine ⟨⟨h1.known,?_,?_,?_,hi.gI,?_,?_,?_,?_,hi.gZ hevo⟩,hle,hevo⟩
 · intro b o v hk
   have hk1:G1.K b o=some v:=hk
   by_cases hb:b<w.heap.size
   · cases hr:G.role b with
     | shr s=>rw [rShr b s hb hr];exact shKnown b o v hk1
     | eA=>exact .inl (rImm b hb hr)
     | tok τ=>
       cases hm:m τ with
       | none=>exact .inr ⟨τ,rFree b τ hb hr hm⟩
       | some k=>rw [rTok b τ k hb hr hm];exact shKnown b o v hk1
     | kK d=>
       exfalso
       have hk0:G.K b o=some v:=he.gJ b o v hb (uQ hr) hk1
       rcases hi.bt b o v hk0 with h | ⟨τ,h⟩<;>rw [hr] at h<;>simp at h
   · rw [rNew b hb];exact shKnown b o v hk1
 · intro b hb
   have:=he.size
   rw [rNew b (by omega),h1.fresh b hb];rfl
 · intro d cs hd
   obtain ⟨b,e1,e2,e3⟩:=hi.dk d cs hd
   obtain ⟨hr,c,t,hh,hrel⟩:=e2
   have hb:=cO hh
   exact ⟨b,e1,⟨rPriv b d hb hr,c,t,((he.eA b hb (uQ hr)).2).trans hh,az.mono hle hrel⟩,e3⟩
 · intro s cs0 hs0
   simp only [gW,List.getElem?_map,Option.map_eq_some_iff] at hs0
   obtain ⟨o,hs,ho⟩:=hs0
   cases o with
   | none=>simp at ho
   | some cs=>
     simp at ho
     subst ho
     obtain ⟨b,e1,e2,e3,e4⟩:=h1.dM s cs hs
     obtain ⟨hr,o,hh,hrel⟩:=e2
     refine ⟨b,e1,⟨?_,o,hh,hrel.to (fun _ _ _ h=>h) (fun kvs e=>by subst e;rfl) (fun _ r=>Da (iN e3) r)⟩,?_,?_⟩
     · rw [rOut b.1 (by rw [hr];simp),hr];rfl
     · rw [List.all_eq_true]
       intro x hx
       obtain ⟨y,hy,rfl⟩:=List.mem_map.1 hx
       exact wY (List.all_eq_true.1 e3 y hy)
     · rw [List.all_eq_true]
       intro x hx
       obtain ⟨y,hy,rfl⟩:=List.mem_map.1 hx
       exact wX (List.all_eq_true.1 e4 y hy)
 · intro s b h
   have:=h1.eE s b h
   simp only [gW,List.length_map]
   exact this
 · intro τ n hn
   by_cases hτ:τ<ah.length
   · rw [List.getElem?_append_left (by omega)] at hn
     obtain ⟨t,e1,e2,e3⟩:=hi.dE τ _ (List.getElem?_eq_getElem hτ)
     cases hm:m τ with
     | none=>
       have:=hN.free τ t e1 hm
       rw [hn] at this
       simp at this
       refine ⟨t,tkNone τ t e1 hm,this.symm,e3.cap,e3.zero,fun hlt=>?_⟩
       obtain ⟨b,o,c,ty,f1,f2,f3,f4,f5⟩:=e3.spare hlt
       have hb:=cO f3
       exact ⟨b,o,c,ty,f1,rFree b τ hb f2 hm,((he.eA b hb (nk f2 hm)).2).trans f3,f4,fun j v hk=>f5 j v (he.gJ b j v hb (nk f2 hm) hk)⟩
     | some k=>
       have:=hN.used τ t k e1 hm
       rw [hn] at this
       simp at this
       exact ⟨_,tkSome τ t k e1 hm,this.symm,⟨Nat.le_refl _,fun h=>by simp at h,fun h=>by simp at h⟩⟩
   · rw [List.getElem?_append_right (by omega),hol] at hn
     obtain ⟨t,e1,e2,e3⟩:=h1.dE _ n hn
     refine ⟨t,by simp only [Gh.back,if_neg hτ];exact e1,e2,e3.cap,e3.zero,fun hlt=>?_⟩
     obtain ⟨b,o,c,ty,f1,f2,f3,f4,f5⟩:=e3.spare hlt
     refine ⟨b,o,c,ty,f1,?_,f3,f4,f5⟩
     rw [rOut b (by rw [f2];simp),f2]
     simp only [mG]
     rw [Nat.sub_add_cancel (by omega)]
 · intro τ t ht
   simp only [Gh.back] at ht
   split at ht
   · rename_i hτ
     rw [List.getElem?_append_left (by omega)]
     split at ht
     · rename_i t0 h0
       split at ht
       · rename_i k hm
         simp at ht;subst ht
         exact hN.used τ t0 k h0 hm
       · rename_i hm
         simp at ht;subst ht
         exact hN.free τ t0 h0 hm
     · simp at ht
   · rename_i hτ
     rw [List.getElem?_append_right (by omega),hol]
     exact h1.eW _ t ht
theorem nq {G1 G':Gh} {N:Nat} (hK:G1.K.le G'.K) (hs:∀s b,G1.sm s=some b→G'.sm s=some b) (ht:∀τ t,G1.tk τ=some t→G'.tk (τ+N)=some t) {rs:List AV} {v:Value} (hp:rs.all cr=true) (h:dm (num ns) G1 rs v):dm (num ns) G' (rs.map (dB N)) v:=by
 unfold dm at h
 split at h
 · rename_i r
   simp only [List.all_cons,List.all_nil,Bool.and_true] at hp
   simp only [List.map_cons,List.map_nil,dm]
   exact tF hK hs ht hp h
 · rename_i hn
   obtain ⟨vs,e,h⟩:=h
   unfold dm
   split
   · rename_i r he
     cases rs with
     | nil=>simp at he
     | cons a rs=>
       cases rs with
       | nil=>exact absurd rfl (hn a)
       | cons _ _=>simp at he
   · exact ⟨vs,e,mH hK hs ht hp h⟩
theorem wZ {m:Nat→Option Nat} {G1:Gh} {n N:Nat} {rs:List AV} {v:Value} (hp:rs.all cr=true) (h:dm (num ns) G1 rs v):dm (num ns) (G.back m G1 n N) (rs.map (dB N)) v:=
 nq (G1:=G1) (G':=G.back m G1 n N) (N:=N) (bE.le_refl G1.K) (fun _ _ h=>h) BY hp h
def Pz (N:Nat):la→la
 | .tok k=>.tok (k+N)
 | _=>.eA
def Gh.BZ (G:Gh):Gh:={ K:=G.K,role:=fun _=>.eA,pm:=fun _=>none,sm:=fun _=>none,tk:=fun _=>none }
theorem Inv.BZ {mem:List (Nat×List AV)} {sh:Sh} {ah:aN} (hi:Inv (num ns) G w mem sh ah):Inv (num ns) G.BZ w [] [] [] where
 known:=hi.known
 bt:=fun _ _ _ _=>.inl rfl
 fresh:=fun _ _=>rfl
 dk:=fun d c h=>by simp [look] at h
 gI:=fun d b h=>by simp [Gh.BZ] at h
 dM:=fun s c h=>by simp at h
 eE:=fun s b h=>by simp [Gh.BZ] at h
 dE:=fun τ n h=>by simp at h
 eW:=fun τ t h=>by simp [Gh.BZ] at h
 jM:=fun b c hb=>⟨rfl,(hi.jM b c hb).2⟩
def Gh.gU (G:Gh) (G1:Gh) (n N:Nat):Gh:=
 { K:=G1.K,role:=fun b=>if b<n then G.role b else Pz N (G1.role b),pm:=G.pm,sm:=G.sm,tk:=fun τ=>if τ<N then G.tk τ else G1.tk (τ-N) }
theorem Inv.gU {G1:Gh} {w1:World} {mem:List (Nat×List AV)} {sh:Sh} {ah ts':aN} (hi:Inv (num ns) G w mem sh ah)
   (h1:Inv (num ns) G1 w1 [] [] ts') (he:cp G.BZ w G1 w1) :
   Inv (num ns) (G.gU G1 w.heap.size ah.length) w1 mem sh (ah++ts')∧G.le (G.gU G1 w.heap.size ah.length)∧cp G w (G.gU G1 w.heap.size ah.length) w1:=by
 have htl:∀τ t,G.tk τ=some t→τ<ah.length:=fun τ t h=>(List.getElem?_eq_some_iff.1 (hi.eW τ t h)).1
 have hK:G.K.le G1.K:=he.K
 have rOld:∀b,b<w.heap.size→(G.gU G1 w.heap.size ah.length).role b=G.role b:=fun b hb=>by simp only [Gh.gU,if_pos hb]
 have rNew:∀b,¬b<w.heap.size→(G.gU G1 w.heap.size ah.length).role b=Pz ah.length (G1.role b):=fun b hb=>by simp only [Gh.gU,if_neg hb]
 have same:∀b,b<w.heap.size→w1.heap[b]?=w.heap[b]?:=fun b hb=>(he.eA b hb rfl).2
 have Kold:∀b o v,b<w.heap.size→G1.K b o=some v→G.K b o=some v:=fun b o v hb hk=>he.gJ b o v hb rfl hk
 have hle:G.le (G.gU G1 w.heap.size ah.length):=⟨hK,fun _ _ h=>h,fun _ _ h=>h,fun τ t h=>⟨t,by simp only [Gh.gU,if_pos (htl τ t h)];exact h,⟨Nat.le_refl _,Tk.gH _⟩,fun _=>rfl⟩⟩
 have hevo:cp G w (G.gU G1 w.heap.size ah.length) w1:={
           size:=he.size,os:=he.os,tape:=he.tape,output:=he.output,K:=hK,sm:=fun _ _ h=>h,
           eA:=fun b hb hr=>⟨(rOld b hb).trans hr,same b hb⟩
           iD:=fun b τ hb hr=>.inr ⟨τ,(rOld b hb).trans hr⟩
           gJ:=fun b o v hb _ hk=>Kold b o v hb hk }
 refine ⟨⟨h1.known,?_,?_,?_,hi.gI,?_,hi.eE,?_,?_,hi.gZ hevo⟩,hle,hevo⟩
 · intro b o v hk
   by_cases hb:b<w.heap.size
   · rw [rOld b hb];exact hi.bt b o v (Kold b o v hb hk)
   · rw [rNew b hb]
     rcases h1.bt b o v hk with h | ⟨τ,h⟩
     · left;rw [h];rfl
     · right;exact ⟨τ+ah.length,by rw [h];rfl⟩
 · intro b hb
   have:=he.size
   rw [rNew b (by omega),h1.fresh b hb];rfl
 · intro d cs hd
   obtain ⟨b,e1,e2,e3⟩:=hi.dk d cs hd
   have hlt:b<w.heap.size:=by obtain ⟨_,_,_,hh,_⟩:=e2;exact cO hh
   exact ⟨b,e1,e2.mono hle (rOld b hlt) (same b hlt),e3⟩
 · intro s cs hs
   obtain ⟨b,e1,e2,e3⟩:=hi.dM s cs hs
   have hlt:b.1<w.heap.size:=e2.lt
   exact ⟨b,e1,e2.mono hle (rOld b.1 hlt) (same b.1 hlt),e3⟩
 · intro τ n hn
   by_cases hτ:τ<ah.length
   · rw [List.getElem?_append_left hτ] at hn
     obtain ⟨t,e1,e2,e3⟩:=hi.dE τ n hn
     refine ⟨t,by simp only [Gh.gU,if_pos hτ];exact e1,e2,e3.cap,e3.zero,fun hlt=>?_⟩
     obtain ⟨b,o,c,ty,f1,f2,f3,f4,f5⟩:=e3.spare hlt
     have hlt':=cO f3
     exact ⟨b,o,c,ty,f1,(rOld b hlt').trans f2,(same b hlt').trans f3,f4,fun j v hkk=>f5 j v (Kold b j v hlt' hkk)⟩
   · rw [List.getElem?_append_right (by omega)] at hn
     obtain ⟨t,e1,e2,e3⟩:=h1.dE _ n hn
     refine ⟨t,by simp only [Gh.gU,if_neg hτ];exact e1,e2,e3.cap,e3.zero,fun hlt=>?_⟩
     obtain ⟨b,o,c,ty,f1,f2,f3,f4,f5⟩:=e3.spare hlt
     have hb:¬b<w.heap.size:=fun hb=>by
       have:=(he.eA b hb rfl).1
       rw [f2] at this;cases this
     refine ⟨b,o,c,ty,f1,?_,f3,f4,f5⟩
     rw [rNew b hb,f2]
     simp only [Pz]
     rw [Nat.sub_add_cancel (by omega)]
 · intro τ t ht
   simp only [Gh.gU] at ht
   split at ht
   · rename_i hτ
     rw [List.getElem?_append_left hτ]
     exact hi.eW τ t ht
   · rename_i hτ
     rw [List.getElem?_append_right (by omega)]
     exact h1.eW _ t ht
theorem Db {G1:Gh} {w1:World} {ts':aN} {n N:Nat} (h1:Inv (num ns) G1 w1 [] [] ts') {rs:List AV} {v:Value} (hp:rs.all cr=true) (h:dm (num ns) G1 rs v):dm (num ns) (G.gU G1 n N) (rs.map (dB N)) v:=
 nq (G1:=G1) (G':=G.gU G1 n N) (N:=N) (bE.le_refl G1.K) (fun s b h=>by have:=h1.eE s b h;simp at this) (fun τ t h=>by simp only [Gh.gU];rw [if_neg (by omega),Nat.add_sub_cancel];exact h) hp h
end
end Go.Ab
