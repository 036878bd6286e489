import Derived.Test.YtfhhognolpjikaaGreatAbNorm
/-
  Tokens named anew.
-/
set_option linter.unusedVariables false
set_option linter.unusedSimpArgs false
set_option maxRecDepth 100000
set_option maxHeartbeats 8000000
namespace Go.Ab
section
variable {ns:Names} {G:Gh} {w:World}
structure NS (G:Gh) (aQ ts:aL) (m:Nat→Option Nat) (tks:List Tk):Prop where
 ts:ts=tks.map (·.len)
 map:∀τ k,m τ=some k→∃t,G.tk τ=some t∧tks[k]?=some t
 inj:∀τ σ k,m τ=some k→m σ=some k→τ=σ
 free:∀τ t,G.tk τ=some t→m τ=none→aQ[τ]?=some t.len
 used:∀τ t k,G.tk τ=some t→m τ=some k→aQ[τ]?=some (t.len+1)
 cap:∀k t,tks[k]?=some t→(∃τ,m τ=some k)∨t.cap=t.len
def Gh.nM (G:Gh) (m:Nat→Option Nat) (tks:List Tk):Gh:=
 { G with tk:=fun k=>tks[k]?,role:=fun b=>match G.role b with | .tok τ=>(match m τ with | some k=>.tok k | none=>.dO) | r=>r }
theorem MU {m m':Nat→Option Nat} {tks ext:List Tk}:(G.nM m tks).le (G.nM m' (tks++ext)) where
 K:=bF.le_refl G.K
 pm:=fun _ _ h=>h
 sm:=fun _ _ h=>h
 tk:=fun k t h=>⟨t,by
   simp only [Gh.nM] at h ⊢
   rw [List.getElem?_append_left (List.getElem?_eq_some_iff.1 h).1];exact h,Nat.le_refl _,fun _=>rfl⟩
theorem vN {ρ:ca} {m:Nat→Option Nat} {tks:List Tk} {x:AV} {v:Value} (hf:bE x=true) (h:aC ρ G x v):aC ρ (G.nM m tks) x v:=
 fJ (G:=G) (G':=G.nM m tks) (bF.le_refl G.K) (fun _ _ h=>h) hf h
theorem jK {m:Nat→Option Nat} {tks:List Tk} {b τ:Nat} (h:G.role b=.tok τ):(G.nM m tks).role b=match m τ with | some k=>.tok k | none=>.dO:=by
 show (match G.role b with | .tok τ=>(match m τ with | some k=>kp.tok k | none=>.dO) | r=>r)=_
 rw [h]
def j_:AV→Bool
 | .az .. | .own ..=>true
 | .agg cs=>fF cs
 | v=>bE v
structure CW (ns:Names) (G:Gh) (m:Nat→Option Nat) (tks:List Tk) (old' ts':aL) (m':Nat→Option Nat) (tks':List Tk):Prop where
 vO:NS G old' ts' m' tks'
 ext:∃ext,tks'=tks++ext
theorem CW.le {m m':Nat→Option Nat} {tks tks':List Tk} {old' ts':aL} (h:CW ns G m tks old' ts' m' tks'):(G.nM m tks).le (G.nM m' tks'):=by
 obtain ⟨ext,e⟩:=h.ext
 subst e
 exact MU
theorem oW {aQ ts:aL} {m:Nat→Option Nat} {tks:List Tk} (hN:NS G aQ ts m tks) {x:AV} {v:Value} (hx:gE x=true) (h:aC (num ns) G x v) :
   ∃m' tks',CW ns G m tks (dz aQ ts x).2.1 (dz aQ ts x).2.2 m' tks'∧aC (num ns) (G.nM m' tks') (dz aQ ts x).1 v:=by
 have flat:bE x=true→dz aQ ts x=(x,aQ,ts)→∃m' tks',CW ns G m tks (dz aQ ts x).2.1 (dz aQ ts x).2.2 m' tks'∧aC (num ns) (G.nM m' tks') (dz aQ ts x).1 v:=by
   intro hf e
   rw [e]
   exact ⟨m,tks,⟨hN,[],by simp⟩,vN hf h⟩
 cases x with
 | own l τ=>
   simp only [aC] at h
   obtain ⟨t,e1,e2,e3,e4⟩:=h
   simp only [dz]
   split
   · rename_i ho
     have hm:m τ=none:=by
       cases hm:m τ with
       | none=>rfl
       | some k=>
         have:=hN.used τ t k e1 hm
         rw [ho] at this
         simp at this
         omega
     have hlen:l.length=t.len:=by
       have:=hN.free τ t e1 hm
       rw [ho] at this
       simpa using this
     have hk:ts.length=tks.length:=by rw [hN.ts];simp
     refine ⟨fun σ=>if σ=τ then some tks.length else m σ,tks++[t],⟨⟨?_,?_,?_,?_,?_,?_⟩,[t],rfl⟩,?_⟩
     · rw [hN.ts,hlen];simp
     · intro σ k hk'
       split at hk'
       · rename_i e;subst e;simp at hk';subst hk';exact ⟨t,e1,by simp⟩
       · obtain ⟨t',g1,g2⟩:=hN.map σ k hk'
         exact ⟨t',g1,by rw [List.getElem?_append_left (List.getElem?_eq_some_iff.1 g2).1];exact g2⟩
     · intro σ σ' k h1 h2
       split at h1
       · rename_i e;subst e
         split at h2
         · rename_i e';exact e'.symm
         · simp at h1;subst h1
           obtain ⟨t',_,g2⟩:=hN.map σ' _ h2
           have:=(List.getElem?_eq_some_iff.1 g2).1
           omega
       · split at h2
         · rename_i e';subst e'
           simp at h2;subst h2
           obtain ⟨t',_,g2⟩:=hN.map σ _ h1
           have:=(List.getElem?_eq_some_iff.1 g2).1
           omega
         · exact hN.inj σ σ' k h1 h2
     · intro σ t' h1 h2
       split at h2
       · simp at h2
       · rename_i e
         rw [List.getElem?_set,if_neg (fun e'=>e e'.symm)]
         exact hN.free σ t' h1 h2
     · intro σ t' k h1 h2
       split at h2
       · rename_i e;subst e
         rw [e1] at h1;cases h1
         rw [List.getElem?_set,if_pos rfl,if_pos (List.getElem?_eq_some_iff.1 ho).1,hlen]
       · rename_i e
         rw [List.getElem?_set,if_neg (fun e'=>e e'.symm)]
         exact hN.used σ t' k h1 h2
     · intro k t' hk'
       rw [List.getElem?_append] at hk'
       split at hk'
       · rcases hN.cap k t' hk' with ⟨σ,hσ⟩ | hc
         · left
           refine ⟨σ,?_⟩
           rw [if_neg]
           · exact hσ
           · rintro rfl;rw [hm] at hσ;simp at hσ
         · exact .inr hc
       · rename_i hge
         left
         refine ⟨τ,?_⟩
         have:k=tks.length:=by
           have:=(List.getElem?_eq_some_iff.1 hk').1
           simp at this;omega
         simp [this]
     · simp only [aC]
       refine ⟨t,by simp [Gh.nM,hk],by omega,e3,fun _=>e4 hlen⟩
   · exact ⟨m,tks,⟨hN,[],by simp⟩,by simp only [aC];exact e3⟩
 | _=>exact flat (by simpa [gE] using hx) rfl
theorem mO:∀{xs:List AV} {vs:List Value} {aQ ts:aL} {m:Nat→Option Nat} {tks:List Tk},NS G aQ ts m tks→fF xs=true→aA (num ns) G xs vs →
   ∃m' tks',CW ns G m tks (cL aQ ts xs).2.1 (cL aQ ts xs).2.2 m' tks'∧aA (num ns) (G.nM m' tks') (cL aQ ts xs).1 vs
 | [],vs,aQ,ts,m,tks,hN,_,h=>⟨m,tks,⟨hN,[],by simp⟩,by simpa only [cL,aA] using h⟩
 | x::xs,vs,aQ,ts,m,tks,hN,hl,h=>by
   simp only [fF,Bool.and_eq_true] at hl
   simp only [aA] at h
   obtain ⟨v,r,e,e1,e2⟩:=h
   subst e
   obtain ⟨m1,t1,g1,g2⟩:=oW hN hl.1 e1
   obtain ⟨m2,t2,k1,k2⟩:=mO g1.vO hl.2 e2
   refine ⟨m2,t2,⟨k1.vO,?_⟩,?_⟩
   · obtain ⟨a,ha⟩:=g1.ext
     obtain ⟨b,hb⟩:=k1.ext
     exact ⟨a++b,by rw [hb,ha,List.append_assoc]⟩
   · simp only [cL,aA]
     exact ⟨v,r,rfl,g2.mono k1.le,k2⟩
theorem kA {aQ ts:aL} {m:Nat→Option Nat} {tks:List Tk} (hN:NS G aQ ts m tks) {x:AV} {v:Value} (hx:j_ x=true) (h:aC (num ns) G x v) :
   ∃m' tks',CW ns G m tks (bP aQ ts x).2.1 (bP aQ ts x).2.2 m' tks'∧aC (num ns) (G.nM m' tks') (bP aQ ts x).1 v:=by
 have flat:bE x=true→bP aQ ts x=(x,aQ,ts)→∃m' tks',CW ns G m tks (bP aQ ts x).2.1 (bP aQ ts x).2.2 m' tks'∧aC (num ns) (G.nM m' tks') (bP aQ ts x).1 v:=by
   intro hf e
   rw [e]
   exact ⟨m,tks,⟨hN,[],by simp⟩,vN hf h⟩
 cases x with
 | own l τ=>exact oW (x:=.own l τ) hN rfl h
 | bB l=>
   simp only [aC] at h
   obtain ⟨base,len,rfl,hsl⟩:=h
   have hk:ts.length=tks.length:=by rw [hN.ts];simp
   have hlen:=hsl.1
   obtain ⟨sz,hrow⟩:∃sz,l=[]∨∃b o,base=some ⟨b,o,none⟩∧Row G.K b o sz l:=by
     rcases hsl.2 with h1 | ⟨b,o,sz,e,hr⟩
     · exact ⟨0,.inl h1⟩
     · exact ⟨sz,.inr ⟨b,o,e,hr⟩⟩
   let t:Tk:=⟨base,len,len,sz⟩
   refine ⟨m,tks++[t],⟨⟨?_,?_,hN.inj,hN.free,hN.used,?_⟩,[t],rfl⟩,?_⟩
   · simp only [bP];rw [hN.ts];simp [t,hlen]
   · intro σ k hk'
     obtain ⟨t',g1,g2⟩:=hN.map σ k hk'
     exact ⟨t',g1,by rw [List.getElem?_append_left (List.getElem?_eq_some_iff.1 g2).1];exact g2⟩
   · intro k t' hk'
     rw [List.getElem?_append] at hk'
     split at hk'
     · exact hN.cap k t' hk'
     · right
       have:t'=t:=by
         have h1:=List.mem_of_getElem? hk'
         simpa using h1
       rw [this]
   · simp only [bP,aC]
     refine ⟨t,by simp [Gh.nM,hk],by simp [t,hlen],cM.2 ⟨_,_,_,rfl,Nat.le_refl _,hsl⟩,fun _=>⟨rfl,hrow⟩⟩
 | az d o=>
   simp only [bP]
   exact ⟨m,tks,⟨hN,[],by simp⟩,by simp only [aC] at h ⊢;exact h⟩
 | pv p=>exact flat rfl rfl
 | un=>exact flat rfl rfl
 | aX _ _=>exact flat rfl rfl
 | bq _ _ _ _=>exact flat rfl rfl
 | dm _=>exact flat rfl rfl
 | dk=>exact flat rfl rfl
 | fn _ _=>exact flat (by simpa [j_] using hx) rfl
 | agg cs=>
   by_cases hf:bE.dQ cs=true
   · exact flat (by simpa [bE] using hf) (by simp only [bP];rw [if_pos hf])
   · simp only [aC] at h
     obtain ⟨vs,rfl,r⟩:=h
     obtain ⟨m',tks',g1,g2⟩:=mO hN (by simpa [j_] using hx) r
     have e:bP aQ ts (.agg cs)=(.agg (cL aQ ts cs).1,(cL aQ ts cs).2.1,(cL aQ ts cs).2.2):=by simp only [bP];rw [if_neg hf]
     rw [e]
     exact ⟨m',tks',g1,by simp only [aC];exact ⟨vs,rfl,g2⟩⟩
 | lI _=>exact flat (by simpa [j_] using hx) rfl
 | cp _=>exact flat rfl rfl
 | lH _ _ _=>exact flat rfl rfl
 | dj _=>simp only [aC] at h
theorem yH {x:AV} (h:bf x=true):j_ x=true:=by
 rcases qn h with hf | ⟨l,τ,rfl⟩
 · cases x<;>simp_all [j_,bE,bf]
 · rfl
theorem yI {aQ ts:aL} {x:AV} (h:bf x=true):bf (bP aQ ts x).1=true:=by
 cases x with
 | own l τ=>simp only [bP];split<;>rfl
 | bB l=>rfl
 | agg _=>simp [bf] at h
 | _=>exact h
theorem kB:∀{xs:List AV} {vs:List Value} {aQ ts:aL} {m:Nat→Option Nat} {tks:List Tk},NS G aQ ts m tks→xs.all bf=true→aA (num ns) G xs vs →
   ∃m' tks',CW ns G m tks (bz aQ ts xs).2.1 (bz aQ ts xs).2.2 m' tks'∧aA (num ns) (G.nM m' tks') (bz aQ ts xs).1 vs∧(bz aQ ts xs).1.all bf=true
 | [],vs,aQ,ts,m,tks,hN,_,h=>⟨m,tks,⟨hN,[],by simp⟩,by simpa only [bz,aA] using h,rfl⟩
 | x::xs,vs,aQ,ts,m,tks,hN,hl,h=>by
   simp only [List.all_cons,Bool.and_eq_true] at hl
   simp only [aA] at h
   obtain ⟨v,r,e,e1,e2⟩:=h
   subst e
   obtain ⟨m1,t1,g1,g2⟩:=kA hN (yH hl.1) e1
   obtain ⟨m2,t2,k1,k2,k3⟩:=kB g1.vO hl.2 e2
   refine ⟨m2,t2,⟨k1.vO,?_⟩,?_,?_⟩
   · obtain ⟨a,ha⟩:=g1.ext
     obtain ⟨b,hb⟩:=k1.ext
     exact ⟨a++b,by rw [hb,ha,List.append_assoc]⟩
   · simp only [bz,aA]
     exact ⟨v,r,rfl,g2.mono k1.le,k2⟩
   · simp only [bz,List.all_cons,k3,Bool.and_true]
     exact yI hl.1
theorem oX {a:Act}:∀{env:List (Nat×AV)} {aQ ts:aL} {m:Nat→Option Nat} {tks:List Tk},NS G aQ ts m tks →
   (∀p∈env,j_ p.2=true∧∃v,a.tmps[p.1]?=some v∧aC (num ns) G p.2 v) →
   ∃m' tks',CW ns G m tks (dp aQ ts env).2.1 (dp aQ ts env).2.2 m' tks'∧∀p∈(dp aQ ts env).1,∃v,a.tmps[p.1]?=some v∧aC (num ns) (G.nM m' tks') p.2 v
 | [],aQ,ts,m,tks,hN,_=>⟨m,tks,⟨hN,[],by simp⟩,by simp [dp]⟩
 | (t,x)::env,aQ,ts,m,tks,hN,h=>by
   obtain ⟨hx,v,hv,hr⟩:=h (t,x) (by simp)
   obtain ⟨m1,t1,g1,g2⟩:=kA hN hx hr
   obtain ⟨m2,t2,k1,k2⟩:=oX (env:=env) (a:=a) g1.vO (fun p hp=>h p (by simp [hp]))
   refine ⟨m2,t2,⟨k1.vO,?_⟩,?_⟩
   · obtain ⟨a,ha⟩:=g1.ext
     obtain ⟨b,hb⟩:=k1.ext
     exact ⟨a++b,by rw [hb,ha,List.append_assoc]⟩
   · intro p hp
     simp only [dp,List.mem_cons] at hp
     rcases hp with rfl | hp
     · exact ⟨v,hv,g2.mono k1.le⟩
     · exact k2 p hp
def MV (ns:Names) (G:Gh) (w:World) (d:Nat) (cells:List AV) (G':Gh):Prop:=
 ∃b c t,G.pm d=some b∧G.role b=.mF d∧w.heap[b]?=some (.cells c t (0,0))∧aA (num ns) G' cells c.toList∧cells.all bf=true
theorem oY:∀{mem:List (Nat×List AV)} {aQ ts:aL} {m:Nat→Option Nat} {tks:List Tk},NS G aQ ts m tks →
   (∀p∈mem,MV ns G w p.1 p.2 G) →
   ∃m' tks',CW ns G m tks (eO aQ ts mem).2.1 (eO aQ ts mem).2.2 m' tks'∧∀p∈(eO aQ ts mem).1,MV ns G w p.1 p.2 (G.nM m' tks')
 | [],aQ,ts,m,tks,hN,_=>⟨m,tks,⟨hN,[],by simp⟩,by simp [eO]⟩
 | (d,cells)::mem,aQ,ts,m,tks,hN,h=>by
   obtain ⟨b,c,t,h1,h2,h3,h4,h5⟩:=h (d,cells) (by simp)
   obtain ⟨m1,t1,g1,g2,g3⟩:=kB hN h5 h4
   obtain ⟨m2,t2,k1,k2⟩:=oY (mem:=mem) g1.vO (fun p hp=>h p (by simp [hp]))
   refine ⟨m2,t2,⟨k1.vO,?_⟩,?_⟩
   · obtain ⟨a,ha⟩:=g1.ext
     obtain ⟨b,hb⟩:=k1.ext
     exact ⟨a++b,by rw [hb,ha,List.append_assoc]⟩
   · intro p hp
     simp only [eO,List.mem_cons] at hp
     rcases hp with rfl | hp
     · exact ⟨b,c,t,h1,h2,h3,aA.mono k1.le g2,g3⟩
     · exact k2 p hp
theorem yJ {aQ ts:aL} {n:Nat} {x:AV} (h:aR n x=true):aR n (dz aQ ts x).1=true:=by
 unfold dz
 split
 · split<;>simp [aR]
 · exact h
theorem oZ {n:Nat}:∀{xs:List AV} {aQ ts:aL},aR.cH n xs=true→aR.cH n (cL aQ ts xs).1=true
 | [],_,_,_=>rfl
 | x::xs,aQ,ts,h=>by
   simp only [aR.cH,Bool.and_eq_true] at h
   simp only [cL,aR.cH,yJ h.1,Bool.true_and]
   exact oZ h.2
theorem yK {aQ ts:aL} {n:Nat} {x:AV} (h:aR n x=true):aR n (bP aQ ts x).1=true:=by
 unfold bP
 split
 · split<;>simp [aR]
 · simp [aR]
 · split
   · exact h
   · simp only [aR] at h ⊢
     exact oZ h
 · exact h
theorem qo {n:Nat}:∀{xs:List AV} {aQ ts:aL},xs.all (aR n)=true→(bz aQ ts xs).1.all (aR n)=true
 | [],_,_,_=>rfl
 | x::xs,aQ,ts,h=>by
   simp only [List.all_cons,Bool.and_eq_true] at h
   simp only [bz,List.all_cons,yK h.1,Bool.true_and]
   exact qo h.2
theorem i7:∀{sh:Sh} {aQ ts:aL} {m:Nat→Option Nat} {tks:List Tk} (R:Nat→Option (Obj×Nat)),NS G aQ ts m tks →
   (∀s cells,sh[s]?=some (some cells)→cells.all bf=true∧∃o,R s=some o∧gT (num ns) G o.1 o.2 cells) →
   ∃m' tks',CW ns G m tks (bC aQ ts sh).2.1 (bC aQ ts sh).2.2 m' tks'∧(bC aQ ts sh).1.length=sh.length ∧
     ∀s cells',(bC aQ ts sh).1[s]?=some (some cells')→∃cells,sh[s]?=some (some cells)∧(∃o,R s=some o∧gT (num ns) (G.nM m' tks') o.1 o.2 cells')∧cells'.all bf=true∧∀n,cells.all (aR n)=true→cells'.all (aR n)=true
 | [],aQ,ts,m,tks,R,hN,_=>⟨m,tks,⟨hN,[],by simp⟩,rfl,fun s cells' h=>by simp [bC] at h⟩
 | none::sh,aQ,ts,m,tks,R,hN,h=>by
   obtain ⟨m1,t1,g1,g2,g3⟩:=i7 (sh:=sh) (fun s=>R (s+1)) hN (fun s cells hs=>h (s+1) cells (by simpa using hs))
   refine ⟨m1,t1,g1,by simp [bC,g2],fun s cells' hs=>?_⟩
   cases s with
   | zero=>simp [bC] at hs
   | succ s=>
     obtain ⟨cells,k1,k2⟩:=g3 s cells' (by simpa [bC] using hs)
     exact ⟨cells,by simpa using k1,k2⟩
 | some cs::sh,aQ,ts,m,tks,R,hN,h=>by
   obtain ⟨hl,o,hR,hr⟩:=h 0 cs rfl
   obtain ⟨m1,t1,g1,g2,g3⟩:∃m' tks',CW ns G m tks (bz aQ ts cs).2.1 (bz aQ ts cs).2.2 m' tks'∧gT (num ns) (G.nM m' tks') o.1 o.2 (bz aQ ts cs).1∧(bz aQ ts cs).1.all bf=true:=by
     rcases hr with ⟨c,t,vs,suf,ho,e3,e4,hr⟩ | ⟨es,clock,kvs,ho,rfl,hm⟩
     · obtain ⟨m1,t1,g1,g2,g3⟩:=kB hN hl hr
       exact ⟨m1,t1,g1,.inl ⟨c,t,vs,suf,ho,e3,e4,g2⟩,g3⟩
     · exact ⟨m,tks,⟨hN,[],by simp⟩,.inr ⟨es,clock,kvs,ho,rfl,hm⟩,rfl⟩
   obtain ⟨m2,t2,k1,k2,k3⟩:=i7 (sh:=sh) (fun s=>R (s+1)) g1.vO (fun s cells hs=>h (s+1) cells (by simpa using hs))
   refine ⟨m2,t2,⟨k1.vO,?_⟩,by simp [bC,k2],fun s cells' hs=>?_⟩
   · obtain ⟨a,ha⟩:=g1.ext
     obtain ⟨b,hb⟩:=k1.ext
     exact ⟨a++b,by rw [hb,ha,List.append_assoc]⟩
   · cases s with
     | zero=>
       simp only [bC,List.getElem?_cons_zero,Option.some.injEq] at hs
       subst hs
       exact ⟨cs,rfl,⟨o,hR,g2.mono k1.le⟩,g3,fun n hn=>qo hn⟩
     | succ s=>
       obtain ⟨cells,q1,q2⟩:=k3 s cells' (by simpa [bC] using hs)
       exact ⟨cells,by simpa using q1,q2⟩
def jL (G:Gh) (w:World) (s:Nat):Option (Obj×Nat):=(G.sm s).bind fun b=>(w.heap[b.1]?).map fun o=>(o,b.2)
theorem Inv.jL {mem:List (Nat×List AV)} {sh:Sh} {ah:aL} (hi:Inv (num ns) G w mem sh ah):∀s cells,sh[s]?=some (some cells)→cells.all bf=true∧∃o,Go.Ab.jL G w s=some o∧gT (num ns) G o.1 o.2 cells:=by
 intro s cells hs
 obtain ⟨b,e1,e2,e3,e4⟩:=hi.dE s cells hs
 obtain ⟨hr,o,hh,hrel⟩:=e2
 exact ⟨e3,(o,b.2),by simp [Go.Ab.jL,e1,hh],hrel⟩
theorem Inv.L1 {mem:List (Nat×List AV)} {sh:Sh} {ah:aL} (hi:Inv (num ns) G w mem sh ah) {sh':Sh} {G':Gh} (hsm:∀s,G'.sm s=G.sm s) (hrole:∀b s,G.role b=.shr s→G'.role b=.shr s)
   (h:∀s cells',sh'[s]?=some (some cells')→∃cells,sh[s]?=some (some cells)∧(∃o,Go.Ab.jL G w s=some o∧gT (num ns) G' o.1 o.2 cells')∧cells'.all bf=true∧∀n,cells.all (aR n)=true→cells'.all (aR n)=true) :
   ∀s cells,sh'[s]?=some (some cells)→∃b,G'.sm s=some b∧tF (num ns) G' w b (.shr s) cells∧cells.all d4=true∧cells.all (aR (s+1))=true:=by
 intro s cells' hs
 obtain ⟨cells,h1,⟨o,h2,h2'⟩,h3,h4⟩:=h s cells' hs
 obtain ⟨b,e1,e2,e3,e4⟩:=hi.dE s cells h1
 simp only [Go.Ab.jL,e1,Option.bind_some,Option.map_eq_some_iff] at h2
 obtain ⟨o',h5,rfl⟩:=h2
 exact ⟨b,by rw [hsm];exact e1,⟨hrole b.1 s e2.role,o',h5,h2'⟩,h3,h4 _ e4⟩
theorem mP {α:Type}:∀{l:List (Nat×α)} {t:Nat} {x:α},look l t=some x→(t,x)∈l
 | [],_,_,h=>by simp [look] at h
 | (s,y)::l,t,x,h=>by
   simp only [look] at h
   split at h
   · rename_i e;subst e;cases h;simp
   · exact List.mem_cons_of_mem _ (mP h)
theorem qp:∀{mem:List (Nat×List AV)} {aQ ts:aL} {d:Nat},(look mem d).isSome=true→(look (eO aQ ts mem).1 d).isSome=true
 | [],_,_,d,h=>by simp [look] at h
 | (s,y)::mem,aQ,ts,d,h=>by
   simp only [eO,look] at h ⊢
   split
   · rfl
   · rename_i hne
     rw [if_neg hne] at h
     exact qp h
theorem NS.start {mem:List (Nat×List AV)} {sh:Sh} {ah:aL} (hi:Inv (num ns) G w mem sh ah):NS G ah [] (fun _=>none) [] where
 ts:=rfl
 map:=by intro τ k h;simp at h
 inj:=by intro τ σ k h;simp at h
 free:=fun τ t h _=>hi.eZ τ t h
 used:=by intro τ t k _ h;simp at h
 cap:=by intro k t h;simp at h
theorem ep {live:List Nat} {env:List (Nat×AV)}:∀{l:List Nat} {p:Nat×AV},p∈bV live env l→look env p.1=some p.2∧d9 live p.2=true
 | [],p,h=>by simp [bV] at h
 | s::l,p,h=>by
   simp only [bV] at h
   split at h
   · rename_i u hu
     split at h
     · rename_i hk
       simp only [List.mem_cons] at h
       rcases h with rfl | h
       · exact ⟨hu,hk⟩
       · exact ep h
     · exact ep h
   · exact ep h
theorem hZ {mem:List (Nat×List AV)}:∀{l:List Nat} {p:Nat×List AV},p∈bW mem l→look mem p.1=some p.2∧p.1∈l
 | [],p,h=>by simp [bW] at h
 | s::l,p,h=>by
   simp only [bW] at h
   split at h
   · rename_i u hu
     simp only [List.mem_cons] at h
     rcases h with rfl | h
     · exact ⟨hu,by simp⟩
     · obtain ⟨h1,h2⟩:=hZ h;exact ⟨h1,by simp [h2]⟩
   · obtain ⟨h1,h2⟩:=hZ h;exact ⟨h1,by simp [h2]⟩
theorem gU.head {n0 N:Nat} {st:St} {a:Act} (h:gU (num ns) n0 N G st a w) (live:List Nat):∃G',gU (num ns) n0 N G' (norm (Go.Ab.restrict live st)) a w∧cm G w G' w:=by
 have h0:=h.restrict live
 have hi:=h0.inv
 have hE:∀p∈(Go.Ab.restrict live st).env,j_ p.2=true∧∃v,a.tmps[p.1]?=some v∧aC (num ns) (G.a9 live) p.2 v:=by
   intro p hp
   obtain ⟨h1,h2⟩:=ep hp
   obtain ⟨v,h3,h4⟩:=h.env.env p.1 p.2 h1
   refine ⟨?_,v,h3,vM h2 h4⟩
   cases hpx:p.2<;>rw [hpx] at h2<;>simp_all [j_,d9,bE]
 have hM:∀p∈(Go.Ab.restrict live st).mem,MV ns (G.a9 live) w p.1 p.2 (G.a9 live):=by
   intro p hp
   obtain ⟨h1,h2⟩:=hZ hp
   have h3:look (Go.Ab.restrict live st).mem p.1=some p.2:=by
     show look (bW st.mem live) p.1=some p.2
     rw [dF,if_pos h2,h1]
   obtain ⟨b,e1,e2,e3⟩:=hi.cS p.1 p.2 h3
   obtain ⟨hr,c,t,hh,hrel⟩:=e2
   exact ⟨b,c,t,e1,hr,hh,hrel,e3⟩
 obtain ⟨m1,t1,g1,g2⟩:=oX (NS.start hi) hE
 obtain ⟨m3,t3,k1,k2⟩:=oY (w:=w) g1.vO hM
 obtain ⟨m2,t2,q1,q2,q3⟩:=i7 (jL (G.a9 live) w) k1.vO hi.jL
 have hN:=q1.vO
 have hle3:=q1.le
 have hle:=Gh.le_trans k1.le q1.le
 have hrole:∀b r,(G.a9 live).role b=r→(∀τ,r≠.tok τ)→((G.a9 live).nM m2 t2).role b=r:=by
   intro b r hr hn
   show (match (G.a9 live).role b with | .tok τ=>(match m2 τ with | some k=>kp.tok k | none=>.dO) | r=>r)=r
   rw [hr]
   cases r with
   | tok τ=>exact absurd rfl (hn τ)
   | _=>rfl
 have hevo:cm G w ((G.a9 live).nM m2 t2) w:={
   size:=Nat.le_refl _,os:=rfl,tape:=rfl,output:=rfl,K:=bF.le_refl G.K,sm:=fun _ _ h=>h,
   dO:=fun b _ hr=>⟨hrole b _ hr (by simp),rfl⟩
   ik:=fun b τ _ hr=>by
     have hr':(G.a9 live).role b=.tok τ:=hr
     rw [jK hr']
     cases m2 τ with
     | none=>exact .inl rfl
     | some k=>exact .inr ⟨k,rfl⟩
   gr:=fun _ _ _ _ _ h=>h }
 refine ⟨(G.a9 live).nM m2 t2,⟨⟨h.env.size,fun t x hx=>?_⟩,?_,h.marks.yq hevo rfl⟩,hevo⟩
 · obtain ⟨v,h1,h2⟩:=g2 (t,x) (mP hx)
   exact ⟨v,h1,h2.mono hle⟩
 · constructor
   · exact hi.known
   · intro b o v hk
     rcases hi.bo b o v hk with h1 | ⟨τ,h1⟩
     · exact .inl (hrole b _ h1 (by simp))
     · rw [jK h1]
       cases m2 τ with
       | none=>exact .inl rfl
       | some k=>exact .inr ⟨k,rfl⟩
   · intro b hb;exact hrole b _ (hi.fresh b hb) (by simp)
   · intro d cells hd
     obtain ⟨b,c,t,h1,h2,h3,h4,h5⟩:=k2 (d,cells) (mP hd)
     exact ⟨b,h1,⟨hrole b _ h2 (by simp),c,t,h3,aA.mono hle3 h4⟩,h5⟩
   · intro d b hd
     exact qp (hi.gL d b hd)
   · exact hi.L1 (G':=(G.a9 live).nM m2 t2) (fun _=>rfl) (fun b s hr=>hrole b _ hr (by simp)) q3
   · intro s b hs
     have:=hi.eY s b hs
     have e:(norm (Go.Ab.restrict live st)).sh.length=(Go.Ab.restrict live st).sh.length:=q2
     omega
   · intro k n hn
     have hts:(norm (Go.Ab.restrict live st)).ah=t2.map (·.len):=hN.ts
     rw [hts,List.getElem?_map,Option.map_eq_some_iff] at hn
     obtain ⟨t,ht,rfl⟩:=hn
     refine ⟨t,ht,rfl,?_⟩
     rcases hN.cap k t ht with ⟨τ,hτ⟩ | hc
     · obtain ⟨t',h1,h2⟩:=hN.map τ k hτ
       rw [ht] at h2;cases h2
       obtain ⟨t'',e1,e2,e3⟩:=hi.dg τ _ (hi.eZ τ t h1)
       rw [h1] at e1;cases e1
       refine ⟨e3.cap,e3.zero,fun hlt=>?_⟩
       obtain ⟨b,o,c,ty,f1,f2,f3,f4,f5⟩:=e3.spare hlt
       refine ⟨b,o,c,ty,f1,?_,f3,f4,f5⟩
       rw [jK f2,hτ]
     · exact ⟨by omega,fun h=>by omega,fun h=>by omega⟩
   · intro k t ht
     have hts:(norm (Go.Ab.restrict live st)).ah=t2.map (·.len):=hN.ts
     rw [hts,List.getElem?_map]
     have ht':t2[k]?=some t:=ht
     rw [ht'];rfl
end
end Go.Ab
