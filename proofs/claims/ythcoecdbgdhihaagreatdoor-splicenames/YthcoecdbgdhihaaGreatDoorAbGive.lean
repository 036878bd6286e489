import Derived.Test.YthcoecdbgdhihaaGreatDoorAbNorm2
/-
  Handing over to a callee and taking back.
-/
set_option linter.unusedVariables false
set_option linter.unusedSimpArgs false
set_option linter.unnecessarySimpa false
set_option maxRecDepth 100000
set_option maxHeartbeats 8000000
namespace Go.Ab
section
variable {P:Program} {ns:Names} {G:Gh} {w:World}
theorem xy {x:AV} (h:kM x=true):jr x=true:=by
 cases x with
 | own _ _=>rfl
 | _=>simpa [jr,kM] using ko (by simpa [kM] using h)
theorem kt:∀{xs:List AV},fo xs=true→fR xs=true
 | [],_=>rfl
 | x::xs,h=>by
   simp only [fo,Bool.and_eq_true] at h;simp only [fR,xy h.1,kt h.2,Bool.and_self]
theorem xz {x:AV} (h:ct x=true):kO x=true:=by
 cases x with
 | own _ _=>rfl
 | aG _ _=>rfl
 | agg cs=>simp only [kO];exact kt (by simpa [ct] using h)
 | _=>simpa [kO,ct] using ko (by simpa [ct] using h)
theorem xA {aY ts:aN} {x:AV} (h:kM x=true):kM (gL aY ts x).1=true:=by
 unfold gL;split
 · split<;>rfl
 · exact h
theorem pO:∀{xs:List AV} {aY ts:aN},fo xs=true→fo (d9 aY ts xs).1=true
 | [],_,_,_=>rfl
 | x::xs,aY,ts,h=>by
   simp only [fo,Bool.and_eq_true] at h;simp only [d9,fo,xA h.1,Bool.true_and];exact pO h.2
theorem xB {aY ts:aN} {x:AV} (h:ct x=true):ct (cg aY ts x).1=true:=by
 unfold cg;split
 · split<;>rfl
 · rfl
 · split
   · exact h
   · simp only [ct] at h ⊢;exact pO h
 · exact h
theorem iA:∀{xs:List AV} {aY ts:aN},xs.all ct=true→(bP aY ts xs).1.all ct=true
 | [],_,_,_=>rfl
 | x::xs,aY,ts,h=>by
   simp only [List.all_cons,Bool.and_eq_true] at h;simp only [bP,List.all_cons,xB h.1,Bool.true_and];exact iA h.2
theorem xC {x:AV} (h:bp x=true):ct x=true:=by
 cases x with
 | own _ _=>rfl
 | fn g cap=>simpa [bp,ct] using h
 | pv _=>rfl
 | bM _=>rfl
 | br _ _=>rfl
 | bE _ _ _ _=>rfl
 | jN=>rfl
 | jO _=>rfl
 | fF _=>rfl
 | _=>simp [bp] at h
theorem iR {xs:List AV} (h:xs.all bp=true):xs.all ct=true:=by
 rw [List.all_eq_true] at *;exact fun x hx=>xC (h x hx)
theorem nG:∀{xs:List AV} {vs:List Value} {aY ts:aN} {m:Nat→Option Nat} {tks:List Tk},NS G aY ts m tks→xs.all ct=true→aB (num ns) G xs vs →
   ∃m' tks',DJ ns G m tks (bP aY ts xs).2.1 (bP aY ts xs).2.2 m' tks'∧aB (num ns) (G.lh m' tks') (bP aY ts xs).1 vs
 | [],vs,aY,ts,m,tks,hN,_,h=>⟨m,tks,⟨hN,[],by simp [bP]⟩,by simpa only [bP,aB] using h⟩
 | x::xs,vs,aY,ts,m,tks,hN,hp,h=>by
   simp only [List.all_cons,Bool.and_eq_true] at hp;simp only [aB] at h;obtain ⟨v,r,e,e1,e2⟩:=h;subst e;obtain ⟨m1,t1,g1,g2⟩:=lA hN (xz hp.1) e1;obtain ⟨m2,t2,k1,k2⟩:=nG g1.xx hp.2 e2;refine ⟨m2,t2,⟨k1.xx,?_⟩,?_⟩
   · obtain ⟨a,ha⟩:=g1.ext;obtain ⟨b,hb⟩:=k1.ext;exact ⟨a++b,by rw [hb,ha,List.append_assoc]⟩
   · simp only [bP,aB];exact ⟨v,r,rfl,g2.mono k1.le,k2⟩
theorem DK {aY ts:aN} {x:AV}:(gL aY ts x).2.1.length=aY.length:=by
 unfold gL;split
 · split<;>simp
 · rfl
theorem rp:∀{xs:List AV} {aY ts:aN},(d9 aY ts xs).2.1.length=aY.length
 | [],_,_=>rfl
 | x::xs,aY,ts=>by simp only [d9];rw [rp,DK]
theorem DL {aY ts:aN} {x:AV}:(cg aY ts x).2.1.length=aY.length:=by
 unfold cg;split
 · split<;>simp
 · rfl
 · split
   · rfl
   · exact rp
 · rfl
theorem oJ:∀{xs:List AV} {aY ts:aN},(bP aY ts xs).2.1.length=aY.length
 | [],_,_=>rfl
 | x::xs,aY,ts=>by simp only [bP];rw [oJ,DL]
theorem oK:∀{sh:Sh} {aY ts:aN},(bV aY ts sh).2.1.length=aY.length
 | [],_,_=>rfl
 | none::sh,aY,ts=>by simp only [bV];exact oK
 | some cs::sh,aY,ts=>by simp only [bV];rw [oK,oJ]
def Gh.to (G:Gh) (m:Nat→Option Nat) (tks:List Tk):Gh:=
 { K:=G.K,role:=fun b=>match G.role b with | .shr s=>.shr s | .tok τ=>(match m τ with | some k=>.tok k | none=>.eE) | _=>.eE,pm:=fun _=>none,sm:=G.sm,tk:=fun k=>tks[k]? }
theorem Mz {m:Nat→Option Nat} {tks:List Tk} {b s:Nat} (h:G.role b=.shr s):(G.to m tks).role b=.shr s:=by simp [Gh.to,h]
theorem vn {m:Nat→Option Nat} {tks:List Tk} {b τ k:Nat} (h:G.role b=.tok τ) (hm:m τ=some k):(G.to m tks).role b=.tok k:=by simp [Gh.to,h,hm]
theorem nH {m:Nat→Option Nat} {tks:List Tk} {b τ:Nat} (h:G.role b=.tok τ) (hm:m τ=none):(G.to m tks).role b=.eE:=by simp [Gh.to,h,hm]
theorem lC {m:Nat→Option Nat} {tks:List Tk} {b:Nat} (h:G.role b=.eE):(G.to m tks).role b=.eE:=by simp [Gh.to,h]
theorem vp {m:Nat→Option Nat} {tks:List Tk} {b d:Nat} (h:G.role b=.kT d):(G.to m tks).role b=.eE:=by simp [Gh.to,h]
theorem z8 {ρ:cy} {G':Gh} (hK:G.K.le G'.K) (hs:∀s b,G.sm s=some b→G'.sm s=some b) (ht:∀τ t,G.tk τ=some t→G'.tk τ=some t) {xs:List AV} {vs:List Value} (hp:fo xs=true) (h:aB ρ G xs vs):aB ρ G' xs vs:=
 jf hK hs ht (kt hp) h
theorem DM {ρ:cy} {G':Gh} (hK:G.K.le G'.K) (hs:∀s b,G.sm s=some b→G'.sm s=some b) (ht:∀τ t,G.tk τ=some t→G'.tk τ=some t) {x:AV} {v:Value} (hp:ct x=true) (h:aC ρ G x v):aC ρ G' x v:=by
 cases x with
 | own l τ=>
   simp only [aC] at h ⊢;obtain ⟨t,e1,e2,e3,e4⟩:=h;exact ⟨t,ht _ _ e1,e2,e3.mono hK,fun hl=>⟨(e4 hl).1,JH (e4 hl).2 fun ⟨b,o,e,r⟩=>⟨b,o,e,Row.mono hK _ _ _ _ r⟩⟩⟩
 | agg cs=>
   simp only [aC] at h ⊢;obtain ⟨vs,e,r⟩:=h;exact ⟨vs,e,z8 hK hs ht (by simpa [ct] using hp) r⟩
 | _=>exact l3 hK hs (by simpa [ct] using hp) h
theorem jg {ρ:cy} {G':Gh} (hK:G.K.le G'.K) (hs:∀s b,G.sm s=some b→G'.sm s=some b) (ht:∀τ t,G.tk τ=some t→G'.tk τ=some t):∀{xs:List AV} {vs:List Value},xs.all ct=true→aB ρ G xs vs→aB ρ G' xs vs
 | [],_,_,h=>by simpa only [aB] using h
 | x::xs,_,hp,h=>by
   simp only [List.all_cons,Bool.and_eq_true] at hp;simp only [aB] at h ⊢;obtain ⟨v,r,e,e1,e2⟩:=h;exact ⟨v,r,e,DM hK hs ht hp.1 e1,jg hK hs ht hp.2 e2⟩
theorem Inv.GF {mem:List (Nat×List AV)} {sh:Sh} {ah:aN} (hi:Inv (num ns) G w mem sh ah) {xs:List AV} {vs:List Value} (hp:xs.all ct=true) (hr:aB (num ns) G xs vs) :
   ∃m tks,NS G (dm ah xs sh).2.2.1 (dm ah xs sh).2.2.2 m tks∧Inv (num ns) (G.to m tks) w [] (dm ah xs sh).2.1 (dm ah xs sh).2.2.2∧aB (num ns) (G.to m tks) (dm ah xs sh).1 vs:=by
 obtain ⟨m0,tks0,hR,hrel⟩:=nG (NS.start hi) hp hr;obtain ⟨m,tks,q1,q2,q3⟩:=jz (Go.Ab.kr G w) hR.xx hi.kr;have hN:=q1.xx;refine ⟨m,tks,hN,?_,jg (G:=G.lh m tks) (G':=G.to m tks) (bJ.le_refl _) (fun _ _ h=>h) (fun _ _ h=>h) (iA hp) (aB.mono q1.le hrel)⟩;constructor
 · exact hi.known
 · intro b o v hk;rcases hi.bz b o v hk with h | ⟨τ,h⟩
   · exact .inl (lC h)
   · cases hm:m τ with
     | none=>exact .inl (nH h hm)
     | some k=>exact .inr ⟨k,vn h hm⟩
 · intro b hb;exact lC (hi.fresh b hb)
 · intro d cells h;simp [look] at h
 · intro d b h;simp [Gh.to] at h
 · refine hi.LA (G':=G.to m tks) (fun _=>rfl) (fun b s hr=>Mz hr) fun s cells' hs=>?_
   obtain ⟨cells,h1,h2,h3,h4⟩:=q3 s cells' hs;obtain ⟨o,h2,h2'⟩:=h2;exact ⟨cells,h1,⟨o,h2,h2'.to (fun _ _ _ h=>h) (fun _ e=>e) (fun _ r=>jg (G:=G.lh m tks) (G':=G.to m tks) (bJ.le_refl _) (fun _ _ h=>h) (fun _ _ h=>h) (iR h3) r)⟩,h3,h4⟩
 · intro s b hs;have:=hi.eJ s b hs;have e:(dm ah xs sh).2.1.length=sh.length:=q2;omega
 · intro k n hn;have hts:(dm ah xs sh).2.2.2=tks.map (·.len):=hN.ts;rw [hts,List.getElem?_map,Option.map_eq_some_iff] at hn;obtain ⟨t,ht,rfl⟩:=hn;refine ⟨t,ht,rfl,?_⟩;rcases hN.cap k t ht with ⟨τ,hτ⟩ | hc
   · obtain ⟨t',h1,h2⟩:=hN.map τ k hτ;rw [ht] at h2;cases h2;obtain ⟨t'',e1,e2,e3⟩:=hi.dI τ _ (hi.fc τ t h1);rw [h1] at e1;cases e1;refine ⟨e3.cap,e3.zero,fun hlt=>?_⟩;obtain ⟨b,o,c,ty,f1,f2,f3,f4,f5⟩:=e3.spare hlt;exact ⟨b,o,c,ty,f1,vn f2 hτ,f3,f4,f5⟩
   · exact ⟨by omega,fun h=>by omega,fun h=>h.elim (fun h=>by omega) (fun h=>by rw [hc.2] at h;cases h)⟩
 · intro k t ht;have hts:(dm ah xs sh).2.2.2=tks.map (·.len):=hN.ts;rw [hts,List.getElem?_map];have ht':tks[k]?=some t:=ht;rw [ht'];rfl
 · exact fun b c hb=>⟨lC (hi.jS b c hb).1,(hi.jS b c hb).2⟩
theorem DN {ah:aN} {xs:List AV} {sh:Sh}:(dm ah xs sh).2.2.1.length=ah.length:=by
 unfold dm;simp only [oK,oJ]
theorem cq.to {G1:Gh} {w1:World} (h:cq G w G1 w1) (m:Nat→Option Nat) (tks:List Tk):cq G w (G1.to m tks) w1 where
 size:=h.size
 os:=h.os
 tape:=h.tape
 output:=h.output
 K:=h.K
 sm:=h.sm
 eE:=fun b hb hr=>⟨lC (h.eE b hb hr).1,(h.eE b hb hr).2⟩
 iG:=fun b τ hb hr=>by
   rcases h.iG b τ hb hr with h1 | ⟨τ',h1⟩
   · exact .inl (lC h1)
   · cases hm:m τ' with
     | none=>exact .inl (nH h1 hm)
     | some k=>exact .inr ⟨k,vn h1 hm⟩
 gO:=h.gO
def mV (N:Nat):lr→lr
 | .tok k=>.tok (k+N)
 | .shr s=>.shr s
 | _=>.eE
def Gh.back (G:Gh) (m:Nat→Option Nat) (G1:Gh) (n N:Nat):Gh:=
 { K:=G1.K,
   role:=fun b=>if b<n then (match G.role b with | .shr _=>mV N (G1.role b) | .tok τ=>(match m τ with | some _=>mV N (G1.role b) | none=>.tok τ) | r=>r) else mV N (G1.role b),
   pm:=G.pm,sm:=G1.sm,
   tk:=fun τ=>if τ<N then (match G.tk τ with | some t=>(match m τ with | some _=>some { t with base:=none,len:=t.len+1,cap:=t.len+1,own:=false } | none=>some t) | none=>none) else G1.tk (τ-N) }
theorem rq {G1 G':Gh} {N:Nat} (hK:G1.K.le G'.K) (hs:∀s b,G1.sm s=some b→G'.sm s=some b) (ht:∀τ t,G1.tk τ=some t→G'.tk (τ+N)=some t) {x:AV} {v:Value} (hp:kM x=true) (h:aC (num ns) G1 x v):aC (num ns) G' (lj N x) v:=by
 cases x with
 | own l τ=>
   simp only [lj,aC] at h ⊢;obtain ⟨t,e1,e2,e3,e4⟩:=h;exact ⟨t,ht _ _ e1,e2,e3.mono hK,fun hl=>⟨(e4 hl).1,JH (e4 hl).2 fun ⟨b,o,e,r⟩=>⟨b,o,e,Row.mono hK _ _ _ _ r⟩⟩⟩
 | _=>
   simp only [lj];exact l3 (G:=G1) (G':=G') hK hs (by simpa [kM] using hp) h
theorem pP {G1 G':Gh} {N:Nat} (hK:G1.K.le G'.K) (hs:∀s b,G1.sm s=some b→G'.sm s=some b) (ht:∀τ t,G1.tk τ=some t→G'.tk (τ+N)=some t):∀{xs:List AV} {vs:List Value},fo xs=true→aB (num ns) G1 xs vs→aB (num ns) G' (xs.map (lj N)) vs
 | [],_,_,h=>by simpa only [List.map_nil,aB] using h
 | x::xs,_,hp,h=>by
   simp only [fo,Bool.and_eq_true] at hp;simp only [List.map_cons,aB] at h ⊢;obtain ⟨v,r,e,e1,e2⟩:=h;exact ⟨v,r,e,rq hK hs ht hp.1 e1,pP hK hs ht hp.2 e2⟩
theorem t5 {G1 G':Gh} {N:Nat} (hK:G1.K.le G'.K) (hs:∀s b,G1.sm s=some b→G'.sm s=some b) (ht:∀τ t,G1.tk τ=some t→G'.tk (τ+N)=some t) {x:AV} {v:Value} (hp:ct x=true) (h:aC (num ns) G1 x v):aC (num ns) G' (dG N x) v:=by
 cases x with
 | own l τ=>exact rq (x:=.own l τ) hK hs ht rfl h
 | agg cs=>
   simp only [dG];split
   · rename_i hf;exact iU (G:=G1) (G':=G') hK hs (by simpa [cz] using hf) h
   · simp only [aC] at h ⊢;obtain ⟨vs,e,r⟩:=h;exact ⟨vs,e,pP hK hs ht (by simpa [ct] using hp) r⟩
 | _=>
   simp only [dG];exact l3 (G:=G1) (G':=G') hK hs (by simpa [ct] using hp) h
theorem mW {G1 G':Gh} {N:Nat} (hK:G1.K.le G'.K) (hs:∀s b,G1.sm s=some b→G'.sm s=some b) (ht:∀τ t,G1.tk τ=some t→G'.tk (τ+N)=some t):∀{xs:List AV} {vs:List Value},xs.all ct=true→aB (num ns) G1 xs vs→aB (num ns) G' (xs.map (dG N)) vs
 | [],_,_,h=>by simpa only [List.map_nil,aB] using h
 | x::xs,_,hp,h=>by
   simp only [List.all_cons,Bool.and_eq_true] at hp;simp only [List.map_cons,aB] at h ⊢;obtain ⟨v,r,e,e1,e2⟩:=h;exact ⟨v,r,e,t5 hK hs ht hp.1 e1,mW hK hs ht hp.2 e2⟩
theorem Cv {m:Nat→Option Nat} {G1:Gh} {n N:Nat}:∀τ t,G1.tk τ=some t→(G.back m G1 n N).tk (τ+N)=some t:=by
 intro τ t h;simp only [Gh.back];rw [if_neg (by omega),Nat.add_sub_cancel];exact h
theorem DO {m:Nat→Option Nat} {G1:Gh} {n N:Nat} {xs:List AV} {vs:List Value} (hp:xs.all ct=true) (h:aB (num ns) G1 xs vs):aB (num ns) (G.back m G1 n N) (xs.map (dG N)) vs:=
 mW (G1:=G1) (G':=G.back m G1 n N) (N:=N) (bJ.le_refl G1.K) (fun _ _ h=>h) Cv hp h
theorem xD {N n:Nat} {x:AV} (h:aW n x=true):aW n (lj N x)=true:=by
 cases x with
 | own _ _=>rfl
 | _=>exact h
theorem nI {N n:Nat}:∀{xs:List AV},aW.cX n xs=true→aW.cX n (xs.map (lj N))=true
 | [],_=>rfl
 | x::xs,h=>by
   simp only [aW.cX,Bool.and_eq_true] at h;simp only [List.map_cons,aW.cX,xD h.1,nI h.2,Bool.and_self]
theorem xE {N n:Nat} {x:AV} (h:aW n x=true):aW n (dG N x)=true:=by
 cases x with
 | own _ _=>rfl
 | agg cs=>
   simp only [dG];split
   · exact h
   · simp only [aW] at h ⊢;exact nI h
 | _=>exact h
theorem xF {N:Nat} {x:AV} (h:bp x=true):bp (dG N x)=true:=by
 cases x with
 | own _ _=>rfl
 | agg _=>simp [bp] at h
 | _=>exact h
theorem Inv.back {G1:Gh} {w1:World} {mem:List (Nat×List AV)} {sh sh':Sh} {ah aY ts ts':aN} {m:Nat→Option Nat} {tks:List Tk} (hi:Inv (num ns) G w mem sh ah) (hN:NS G aY ts m tks) (hol:aY.length=ah.length)
   (h1:Inv (num ns) G1 w1 [] sh' ts') (he:cq (G.to m tks) w G1 w1) :
   Inv (num ns) (G.back m G1 w.heap.size ah.length) w1 mem (fp ah.length sh') (aY++ts')∧G.le (G.back m G1 w.heap.size ah.length)∧cq G w (G.back m G1 w.heap.size ah.length) w1:=by
 have htl:∀τ t,G.tk τ=some t→τ<ah.length:=fun τ t h=>(List.getElem?_eq_some_iff.1 (hi.fc τ t h)).1
 have tkNone:∀τ t,G.tk τ=some t→m τ=none→(G.back m G1 w.heap.size ah.length).tk τ=some t:=by
   intro τ t h hm;simp only [Gh.back,if_pos (htl τ t h),h,hm]
 have tkSome:∀τ t k,G.tk τ=some t→m τ=some k→(G.back m G1 w.heap.size ah.length).tk τ=some { t with base:=none,len:=t.len+1,cap:=t.len+1,own:=false }:=by
   intro τ t k h hm;simp only [Gh.back,if_pos (htl τ t h),h,hm]
 have hle:G.le (G.back m G1 w.heap.size ah.length):=⟨he.K,fun _ _ h=>h,he.sm,fun τ t h=>by
   cases hm:m τ with
   | none=>exact ⟨t,tkNone τ t h hm,⟨Nat.le_refl _,Tk.gM _⟩,fun _=>rfl⟩
   | some k=>exact ⟨_,tkSome τ t k h hm,⟨by simp,fun _=>⟨rfl,by simp⟩,.inl ⟨rfl,by simp⟩⟩,fun e=>by simp at e⟩⟩
 have rImm:∀b,b<w.heap.size→G.role b=.eE→(G.back m G1 w.heap.size ah.length).role b=.eE:=by intro b hb hr;simp only [Gh.back,if_pos hb,hr]
 have rPriv:∀b d,b<w.heap.size→G.role b=.kT d→(G.back m G1 w.heap.size ah.length).role b=.kT d:=by intro b d hb hr;simp only [Gh.back,if_pos hb,hr]
 have rFree:∀b τ,b<w.heap.size→G.role b=.tok τ→m τ=none→(G.back m G1 w.heap.size ah.length).role b=.tok τ:=by intro b τ hb hr hm;simp only [Gh.back,if_pos hb,hr,hm]
 have rTok:∀b τ k,b<w.heap.size→G.role b=.tok τ→m τ=some k→(G.back m G1 w.heap.size ah.length).role b=mV ah.length (G1.role b):=by intro b τ k hb hr hm;simp only [Gh.back,if_pos hb,hr,hm]
 have rShr:∀b s,b<w.heap.size→G.role b=.shr s→(G.back m G1 w.heap.size ah.length).role b=mV ah.length (G1.role b):=by intro b s hb hr;simp only [Gh.back,if_pos hb,hr]
 have rNew:∀b,¬b<w.heap.size→(G.back m G1 w.heap.size ah.length).role b=mV ah.length (G1.role b):=by intro b hb;simp only [Gh.back,if_neg hb]
 have rOut:∀b,G1.role b≠.eE→(G.back m G1 w.heap.size ah.length).role b=mV ah.length (G1.role b):=by
   intro b hn;by_cases hb:b<w.heap.size
   · cases hr:G.role b with
     | shr s=>exact rShr b s hb hr
     | eE=>exact absurd (he.eE b hb (lC hr)).1 hn
     | kT d=>exact absurd (he.eE b hb (vp hr)).1 hn
     | tok τ=>
       cases hm:m τ with
       | none=>exact absurd (he.eE b hb (nH hr hm)).1 hn
       | some k=>exact rTok b τ k hb hr hm
   · exact rNew b hb
 have shKnown:∀b o v,G1.K b o=some v→mV ah.length (G1.role b)=.eE∨∃τ,mV ah.length (G1.role b)=.tok τ:=by
   intro b o v hk;rcases h1.bz b o v hk with h | ⟨τ,h⟩
   · left;rw [h];rfl
   · right;exact ⟨τ+ah.length,by rw [h];rfl⟩
 have hevo:cq G w (G.back m G1 w.heap.size ah.length) w1:={
           size:=he.size,os:=he.os,tape:=he.tape,output:=he.output,K:=he.K,sm:=he.sm,
           eE:=fun b hb hr=>⟨rImm b hb hr,(he.eE b hb (lC hr)).2⟩
           iG:=fun b τ hb hr=>by
             cases hm:m τ with
             | none=>exact .inr ⟨τ,rFree b τ hb hr hm⟩
             | some k=>
               rw [rTok b τ k hb hr hm];rcases he.iG b k hb (vn hr hm) with h | ⟨τ',h⟩
               · left;rw [h];rfl
               · right;exact ⟨τ'+ah.length,by rw [h];rfl⟩
           gO:=fun b o v hb hr hk=>he.gO b o v hb (lC hr) hk }
 refine ⟨⟨h1.known,?_,?_,?_,hi.gN,?_,?_,?_,?_,hi.h_ hevo⟩,hle,hevo⟩
 · intro b o v hk;have hk1:G1.K b o=some v:=hk;by_cases hb:b<w.heap.size
   · cases hr:G.role b with
     | shr s=>rw [rShr b s hb hr];exact shKnown b o v hk1
     | eE=>exact .inl (rImm b hb hr)
     | tok τ=>
       cases hm:m τ with
       | none=>exact .inr ⟨τ,rFree b τ hb hr hm⟩
       | some k=>rw [rTok b τ k hb hr hm];exact shKnown b o v hk1
     | kT d=>
       exfalso;have hk0:G.K b o=some v:=he.gO b o v hb (vp hr) hk1;rcases hi.bz b o v hk0 with h | ⟨τ,h⟩<;>rw [hr] at h<;>simp at h
   · rw [rNew b hb];exact shKnown b o v hk1
 · intro b hb;have:=he.size;rw [rNew b (by omega),h1.fresh b hb];rfl
 · intro d cs hd;obtain ⟨b,e1,e2,e3⟩:=hi.dq d cs hd;obtain ⟨hr,c,t,hh,hrel⟩:=e2;have hb:=cQ hh;exact ⟨b,e1,⟨rPriv b d hb hr,c,t,((he.eE b hb (vp hr)).2).trans hh,aB.mono hle hrel⟩,e3⟩
 · intro s cs0 hs0;simp only [fp,List.getElem?_map,Option.map_eq_some_iff] at hs0;obtain ⟨o,hs,ho⟩:=hs0;cases o with
   | none=>simp at ho
   | some cs=>
     simp at ho;subst ho;obtain ⟨b,e1,e2,e3,e4⟩:=h1.dP s cs hs;obtain ⟨hr,o,hh,hrel⟩:=e2;refine ⟨b,e1,⟨?_,o,hh,hrel.to (fun _ _ _ h=>h) (fun kvs e=>by subst e;rfl) (fun _ r=>DO (iR e3) r)⟩,?_,?_⟩
     · rw [rOut b.1 (by rw [hr];simp),hr];rfl
     · rw [List.all_eq_true];intro x hx;obtain ⟨y,hy,rfl⟩:=List.mem_map.1 hx;exact xF (List.all_eq_true.1 e3 y hy)
     · rw [List.all_eq_true];intro x hx;obtain ⟨y,hy,rfl⟩:=List.mem_map.1 hx;exact xE (List.all_eq_true.1 e4 y hy)
 · intro s b h;have:=h1.eJ s b h;simp only [fp,List.length_map];exact this
 · intro τ n hn;by_cases hτ:τ<ah.length
   · rw [List.getElem?_append_left (by omega)] at hn;obtain ⟨t,e1,e2,e3⟩:=hi.dI τ _ (List.getElem?_eq_getElem hτ);cases hm:m τ with
     | none=>
       have:=hN.free τ t e1 hm;rw [hn] at this;simp at this;refine ⟨t,tkNone τ t e1 hm,this.symm,e3.cap,e3.zero,fun hlt=>?_⟩;obtain ⟨b,o,c,ty,f1,f2,f3,f4,f5⟩:=e3.spare hlt;have hb:=cQ f3;exact ⟨b,o,c,ty,f1,rFree b τ hb f2 hm,((he.eE b hb (nH f2 hm)).2).trans f3,f4,fun j v hk=>f5 j v (he.gO b j v hb (nH f2 hm) hk)⟩
     | some k=>
       have:=hN.used τ t k e1 hm;rw [hn] at this;simp at this;exact ⟨_,tkSome τ t k e1 hm,this.symm,⟨Nat.le_refl _,fun h=>by simp at h,fun h=>by simp at h⟩⟩
   · rw [List.getElem?_append_right (by omega),hol] at hn;obtain ⟨t,e1,e2,e3⟩:=h1.dI _ n hn;refine ⟨t,by simp only [Gh.back,if_neg hτ];exact e1,e2,e3.cap,e3.zero,fun hlt=>?_⟩;obtain ⟨b,o,c,ty,f1,f2,f3,f4,f5⟩:=e3.spare hlt;refine ⟨b,o,c,ty,f1,?_,f3,f4,f5⟩;rw [rOut b (by rw [f2];simp),f2];simp only [mV];rw [Nat.sub_add_cancel (by omega)]
 · intro τ t ht;simp only [Gh.back] at ht;split at ht
   · rename_i hτ;rw [List.getElem?_append_left (by omega)];split at ht
     · rename_i t0 h0;split at ht
       · rename_i k hm;simp at ht;subst ht;exact hN.used τ t0 k h0 hm
       · rename_i hm;simp at ht;subst ht;exact hN.free τ t0 h0 hm
     · simp at ht
   · rename_i hτ;rw [List.getElem?_append_right (by omega),hol];exact h1.fc _ t ht
theorem nJ {G1 G':Gh} {N:Nat} (hK:G1.K.le G'.K) (hs:∀s b,G1.sm s=some b→G'.sm s=some b) (ht:∀τ t,G1.tk τ=some t→G'.tk (τ+N)=some t) {rs:List AV} {v:Value} (hp:rs.all ct=true) (h:dt (num ns) G1 rs v):dt (num ns) G' (rs.map (dG N)) v:=by
 unfold dt at h;split at h
 · rename_i r;simp only [List.all_cons,List.all_nil,Bool.and_true] at hp;simp only [List.map_cons,List.map_nil,dt];exact t5 hK hs ht hp h
 · rename_i hn;obtain ⟨vs,e,h⟩:=h;unfold dt;split
   · rename_i r he;cases rs with
     | nil=>simp at he
     | cons a rs=>
       cases rs with
       | nil=>exact absurd rfl (hn a)
       | cons _ _=>simp at he
   · exact ⟨vs,e,mW hK hs ht hp h⟩
theorem xG {m:Nat→Option Nat} {G1:Gh} {n N:Nat} {rs:List AV} {v:Value} (hp:rs.all ct=true) (h:dt (num ns) G1 rs v):dt (num ns) (G.back m G1 n N) (rs.map (dG N)) v:=
 nJ (G1:=G1) (G':=G.back m G1 n N) (N:=N) (bJ.le_refl G1.K) (fun _ _ h=>h) Cv hp h
def QH (N:Nat):lr→lr
 | .tok k=>.tok (k+N)
 | _=>.eE
def Gh.Cx (G:Gh):Gh:={ K:=G.K,role:=fun _=>.eE,pm:=fun _=>none,sm:=fun _=>none,tk:=fun _=>none }
theorem Inv.Cx {mem:List (Nat×List AV)} {sh:Sh} {ah:aN} (hi:Inv (num ns) G w mem sh ah):Inv (num ns) G.Cx w [] [] [] where
 known:=hi.known
 bz:=fun _ _ _ _=>.inl rfl
 fresh:=fun _ _=>rfl
 dq:=fun d c h=>by simp [look] at h
 gN:=fun d b h=>by simp [Gh.Cx] at h
 dP:=fun s c h=>by simp at h
 eJ:=fun s b h=>by simp [Gh.Cx] at h
 dI:=fun τ n h=>by simp at h
 fc:=fun τ t h=>by simp [Gh.Cx] at h
 jS:=fun b c hb=>⟨rfl,(hi.jS b c hb).2⟩
def Gh.gZ (G:Gh) (G1:Gh) (n N:Nat):Gh:=
 { K:=G1.K,role:=fun b=>if b<n then G.role b else QH N (G1.role b),pm:=G.pm,sm:=G.sm,tk:=fun τ=>if τ<N then G.tk τ else G1.tk (τ-N) }
theorem Inv.gZ {G1:Gh} {w1:World} {mem:List (Nat×List AV)} {sh:Sh} {ah ts':aN} (hi:Inv (num ns) G w mem sh ah)
   (h1:Inv (num ns) G1 w1 [] [] ts') (he:cq G.Cx w G1 w1) :
   Inv (num ns) (G.gZ G1 w.heap.size ah.length) w1 mem sh (ah++ts')∧G.le (G.gZ G1 w.heap.size ah.length)∧cq G w (G.gZ G1 w.heap.size ah.length) w1:=by
 have htl:∀τ t,G.tk τ=some t→τ<ah.length:=fun τ t h=>(List.getElem?_eq_some_iff.1 (hi.fc τ t h)).1
 have hK:G.K.le G1.K:=he.K;have rOld:∀b,b<w.heap.size→(G.gZ G1 w.heap.size ah.length).role b=G.role b:=fun b hb=>by simp only [Gh.gZ,if_pos hb]
 have rNew:∀b,¬b<w.heap.size→(G.gZ G1 w.heap.size ah.length).role b=QH ah.length (G1.role b):=fun b hb=>by simp only [Gh.gZ,if_neg hb]
 have same:∀b,b<w.heap.size→w1.heap[b]?=w.heap[b]?:=fun b hb=>(he.eE b hb rfl).2
 have Kold:∀b o v,b<w.heap.size→G1.K b o=some v→G.K b o=some v:=fun b o v hb hk=>he.gO b o v hb rfl hk
 have hle:G.le (G.gZ G1 w.heap.size ah.length):=⟨hK,fun _ _ h=>h,fun _ _ h=>h,fun τ t h=>⟨t,by simp only [Gh.gZ,if_pos (htl τ t h)];exact h,⟨Nat.le_refl _,Tk.gM _⟩,fun _=>rfl⟩⟩;have hevo:cq G w (G.gZ G1 w.heap.size ah.length) w1:={
           size:=he.size,os:=he.os,tape:=he.tape,output:=he.output,K:=hK,sm:=fun _ _ h=>h,
           eE:=fun b hb hr=>⟨(rOld b hb).trans hr,same b hb⟩
           iG:=fun b τ hb hr=>.inr ⟨τ,(rOld b hb).trans hr⟩
           gO:=fun b o v hb _ hk=>Kold b o v hb hk }
 refine ⟨⟨h1.known,?_,?_,?_,hi.gN,?_,hi.eJ,?_,?_,hi.h_ hevo⟩,hle,hevo⟩
 · intro b o v hk;by_cases hb:b<w.heap.size
   · rw [rOld b hb];exact hi.bz b o v (Kold b o v hb hk)
   · rw [rNew b hb];rcases h1.bz b o v hk with h | ⟨τ,h⟩
     · left;rw [h];rfl
     · right;exact ⟨τ+ah.length,by rw [h];rfl⟩
 · intro b hb;have:=he.size;rw [rNew b (by omega),h1.fresh b hb];rfl
 · intro d cs hd;obtain ⟨b,e1,e2,e3⟩:=hi.dq d cs hd;have hlt:b<w.heap.size:=by obtain ⟨_,_,_,hh,_⟩:=e2;exact cQ hh
   exact ⟨b,e1,e2.mono hle (rOld b hlt) (same b hlt),e3⟩
 · intro s cs hs;obtain ⟨b,e1,e2,e3⟩:=hi.dP s cs hs;have hlt:b.1<w.heap.size:=e2.lt;exact ⟨b,e1,e2.mono hle (rOld b.1 hlt) (same b.1 hlt),e3⟩
 · intro τ n hn;by_cases hτ:τ<ah.length
   · rw [List.getElem?_append_left hτ] at hn;obtain ⟨t,e1,e2,e3⟩:=hi.dI τ n hn;refine ⟨t,by simp only [Gh.gZ,if_pos hτ];exact e1,e2,e3.cap,e3.zero,fun hlt=>?_⟩;obtain ⟨b,o,c,ty,f1,f2,f3,f4,f5⟩:=e3.spare hlt;have hlt':=cQ f3;exact ⟨b,o,c,ty,f1,(rOld b hlt').trans f2,(same b hlt').trans f3,f4,fun j v hkk=>f5 j v (Kold b j v hlt' hkk)⟩
   · rw [List.getElem?_append_right (by omega)] at hn;obtain ⟨t,e1,e2,e3⟩:=h1.dI _ n hn;refine ⟨t,by simp only [Gh.gZ,if_neg hτ];exact e1,e2,e3.cap,e3.zero,fun hlt=>?_⟩;obtain ⟨b,o,c,ty,f1,f2,f3,f4,f5⟩:=e3.spare hlt;have hb:¬b<w.heap.size:=fun hb=>by
       have:=(he.eE b hb rfl).1;rw [f2] at this;cases this
     refine ⟨b,o,c,ty,f1,?_,f3,f4,f5⟩;rw [rNew b hb,f2];simp only [QH];rw [Nat.sub_add_cancel (by omega)]
 · intro τ t ht;simp only [Gh.gZ] at ht;split at ht
   · rename_i hτ;rw [List.getElem?_append_left hτ];exact hi.fc τ t ht
   · rename_i hτ;rw [List.getElem?_append_right (by omega)];exact h1.fc _ t ht
theorem DP {G1:Gh} {w1:World} {ts':aN} {n N:Nat} (h1:Inv (num ns) G1 w1 [] [] ts') {rs:List AV} {v:Value} (hp:rs.all ct=true) (h:dt (num ns) G1 rs v):dt (num ns) (G.gZ G1 n N) (rs.map (dG N)) v:=
 nJ (G1:=G1) (G':=G.gZ G1 n N) (N:=N) (bJ.le_refl G1.K) (fun s b h=>by have:=h1.eJ s b h;simp at this) (fun τ t h=>by simp only [Gh.gZ];rw [if_neg (by omega),Nat.add_sub_cancel];exact h) hp h
end
end Go.Ab
