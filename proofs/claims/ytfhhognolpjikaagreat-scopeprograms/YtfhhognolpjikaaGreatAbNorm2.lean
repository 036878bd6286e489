import Derived.Test.YtfhhognolpjikaaGreatAbNorm
/-
  Tokens named anew.
-/
set_option linter.unusedVariables false
set_option linter.unusedSimpArgs false
set_option maxRecDepth 100000
set_option maxHeartbeats 8000000
namespace Go.Ab
section
variable {ns:Names} {G:Gh} {w:World}
structure NS (G:Gh) (aW ts:aM) (m:Nat→Option Nat) (tks:List Tk):Prop where
 ts:ts=tks.map (·.len)
 map:∀τ k,m τ=some k→∃t,G.tk τ=some t∧tks[k]?=some t
 inj:∀τ σ k,m τ=some k→m σ=some k→τ=σ
 free:∀τ t,G.tk τ=some t→m τ=none→aW[τ]?=some t.len
 used:∀τ t k,G.tk τ=some t→m τ=some k→aW[τ]?=some (t.len+1)
 cap:∀k t,tks[k]?=some t→(∃τ,m τ=some k)∨t.cap=t.len
def Gh.nZ (G:Gh) (m:Nat→Option Nat) (tks:List Tk):Gh:=
 { G with tk:=fun k=>tks[k]?,role:=fun b=>match G.role b with | .tok τ=>(match m τ with | some k=>.tok k | none=>.dV) | r=>r }
theorem MM {m m':Nat→Option Nat} {tks ext:List Tk}:(G.nZ m tks).le (G.nZ m' (tks++ext)) where
 K:=bM.le_refl G.K
 pm:=fun _ _ h=>h
 sm:=fun _ _ h=>h
 tk:=fun k t h=>⟨t,by
   simp only [Gh.nZ] at h ⊢
   rw [List.getElem?_append_left (List.getElem?_eq_some_iff.1 h).1];exact h,Nat.le_refl _,fun _=>rfl⟩
theorem vW {ρ:cg} {m:Nat→Option Nat} {tks:List Tk} {x:AV} {v:Value} (hf:bK x=true) (h:aE ρ G x v):aE ρ (G.nZ m tks) x v:=
 fU (G:=G) (G':=G.nZ m tks) (bM.le_refl G.K) (fun _ _ h=>h) hf h
theorem jP {m:Nat→Option Nat} {tks:List Tk} {b τ:Nat} (h:G.role b=.tok τ):(G.nZ m tks).role b=match m τ with | some k=>.tok k | none=>.dV:=by
 show (match G.role b with | .tok τ=>(match m τ with | some k=>ku.tok k | none=>.dV) | r=>r)=_
 rw [h]
def kf:AV→Bool
 | .az .. | .own ..=>true
 | .agg cs=>fJ cs
 | v=>bK v
structure CV (ns:Names) (G:Gh) (m:Nat→Option Nat) (tks:List Tk) (old' ts':aM) (m':Nat→Option Nat) (tks':List Tk):Prop where
 vX:NS G old' ts' m' tks'
 ext:∃ext,tks'=tks++ext
theorem CV.le {m m':Nat→Option Nat} {tks tks':List Tk} {old' ts':aM} (h:CV ns G m tks old' ts' m' tks'):(G.nZ m tks).le (G.nZ m' tks'):=by
 obtain ⟨ext,e⟩:=h.ext
 subst e
 exact MM
theorem o9 {aW ts:aM} {m:Nat→Option Nat} {tks:List Tk} (hN:NS G aW ts m tks) {x:AV} {v:Value} (hx:gH x=true) (h:aE (num ns) G x v) :
   ∃m' tks',CV ns G m tks (dJ aW ts x).2.1 (dJ aW ts x).2.2 m' tks'∧aE (num ns) (G.nZ m' tks') (dJ aW ts x).1 v:=by
 have flat:bK x=true→dJ aW ts x=(x,aW,ts)→∃m' tks',CV ns G m tks (dJ aW ts x).2.1 (dJ aW ts x).2.2 m' tks'∧aE (num ns) (G.nZ m' tks') (dJ aW ts x).1 v:=by
   intro hf e
   rw [e]
   exact ⟨m,tks,⟨hN,[],by simp⟩,vW hf h⟩
 cases x with
 | own l τ=>
   simp only [aE] at h
   obtain ⟨t,e1,e2,e3,e4⟩:=h
   simp only [dJ]
   split
   · rename_i ho
     have hm:m τ=none:=by
       cases hm:m τ with
       | none=>rfl
       | some k=>
         have:=hN.used τ t k e1 hm
         rw [ho] at this
         simp at this
         omega
     have hlen:l.length=t.len:=by
       have:=hN.free τ t e1 hm
       rw [ho] at this
       simpa using this
     have hk:ts.length=tks.length:=by rw [hN.ts];simp
     refine ⟨fun σ=>if σ=τ then some tks.length else m σ,tks++[t],⟨⟨?_,?_,?_,?_,?_,?_⟩,[t],rfl⟩,?_⟩
     · rw [hN.ts,hlen];simp
     · intro σ k hk'
       split at hk'
       · rename_i e;subst e;simp at hk';subst hk';exact ⟨t,e1,by simp⟩
       · obtain ⟨t',g1,g2⟩:=hN.map σ k hk'
         exact ⟨t',g1,by rw [List.getElem?_append_left (List.getElem?_eq_some_iff.1 g2).1];exact g2⟩
     · intro σ σ' k h1 h2
       split at h1
       · rename_i e;subst e
         split at h2
         · rename_i e';exact e'.symm
         · simp at h1;subst h1
           obtain ⟨t',_,g2⟩:=hN.map σ' _ h2
           have:=(List.getElem?_eq_some_iff.1 g2).1
           omega
       · split at h2
         · rename_i e';subst e'
           simp at h2;subst h2
           obtain ⟨t',_,g2⟩:=hN.map σ _ h1
           have:=(List.getElem?_eq_some_iff.1 g2).1
           omega
         · exact hN.inj σ σ' k h1 h2
     · intro σ t' h1 h2
       split at h2
       · simp at h2
       · rename_i e
         rw [List.getElem?_set,if_neg (fun e'=>e e'.symm)]
         exact hN.free σ t' h1 h2
     · intro σ t' k h1 h2
       split at h2
       · rename_i e;subst e
         rw [e1] at h1;cases h1
         rw [List.getElem?_set,if_pos rfl,if_pos (List.getElem?_eq_some_iff.1 ho).1,hlen]
       · rename_i e
         rw [List.getElem?_set,if_neg (fun e'=>e e'.symm)]
         exact hN.used σ t' k h1 h2
     · intro k t' hk'
       rw [List.getElem?_append] at hk'
       split at hk'
       · rcases hN.cap k t' hk' with ⟨σ,hσ⟩ | hc
         · left
           refine ⟨σ,?_⟩
           rw [if_neg]
           · exact hσ
           · rintro rfl;rw [hm] at hσ;simp at hσ
         · exact .inr hc
       · rename_i hge
         left
         refine ⟨τ,?_⟩
         have:k=tks.length:=by
           have:=(List.getElem?_eq_some_iff.1 hk').1
           simp at this;omega
         simp [this]
     · simp only [aE]
       refine ⟨t,by simp [Gh.nZ,hk],by omega,e3,fun _=>e4 hlen⟩
   · exact ⟨m,tks,⟨hN,[],by simp⟩,by simp only [aE];exact e3⟩
 | _=>exact flat (by simpa [gH] using hx) rfl
theorem mY:∀{xs:List AV} {vs:List Value} {aW ts:aM} {m:Nat→Option Nat} {tks:List Tk},NS G aW ts m tks→fJ xs=true→aB (num ns) G xs vs →
   ∃m' tks',CV ns G m tks (cT aW ts xs).2.1 (cT aW ts xs).2.2 m' tks'∧aB (num ns) (G.nZ m' tks') (cT aW ts xs).1 vs
 | [],vs,aW,ts,m,tks,hN,_,h=>⟨m,tks,⟨hN,[],by simp⟩,by simpa only [cT,aB] using h⟩
 | x::xs,vs,aW,ts,m,tks,hN,hl,h=>by
   simp only [fJ,Bool.and_eq_true] at hl
   simp only [aB] at h
   obtain ⟨v,r,e,e1,e2⟩:=h
   subst e
   obtain ⟨m1,t1,g1,g2⟩:=o9 hN hl.1 e1
   obtain ⟨m2,t2,k1,k2⟩:=mY g1.vX hl.2 e2
   refine ⟨m2,t2,⟨k1.vX,?_⟩,?_⟩
   · obtain ⟨a,ha⟩:=g1.ext
     obtain ⟨b,hb⟩:=k1.ext
     exact ⟨a++b,by rw [hb,ha,List.append_assoc]⟩
   · simp only [cT,aB]
     exact ⟨v,r,rfl,g2.mono k1.le,k2⟩
theorem kE {aW ts:aM} {m:Nat→Option Nat} {tks:List Tk} (hN:NS G aW ts m tks) {x:AV} {v:Value} (hx:kf x=true) (h:aE (num ns) G x v) :
   ∃m' tks',CV ns G m tks (bS aW ts x).2.1 (bS aW ts x).2.2 m' tks'∧aE (num ns) (G.nZ m' tks') (bS aW ts x).1 v:=by
 have flat:bK x=true→bS aW ts x=(x,aW,ts)→∃m' tks',CV ns G m tks (bS aW ts x).2.1 (bS aW ts x).2.2 m' tks'∧aE (num ns) (G.nZ m' tks') (bS aW ts x).1 v:=by
   intro hf e
   rw [e]
   exact ⟨m,tks,⟨hN,[],by simp⟩,vW hf h⟩
 cases x with
 | own l τ=>exact o9 (x:=.own l τ) hN rfl h
 | bD l=>
   simp only [aE] at h
   obtain ⟨base,len,rfl,hsl⟩:=h
   have hk:ts.length=tks.length:=by rw [hN.ts];simp
   have hlen:=hsl.1
   obtain ⟨sz,hrow⟩:∃sz,l=[]∨∃b o,base=some ⟨b,o,none⟩∧Row G.K b o sz l:=by
     rcases hsl.2 with h1 | ⟨b,o,sz,e,hr⟩
     · exact ⟨0,.inl h1⟩
     · exact ⟨sz,.inr ⟨b,o,e,hr⟩⟩
   let t:Tk:=⟨base,len,len,sz⟩
   refine ⟨m,tks++[t],⟨⟨?_,?_,hN.inj,hN.free,hN.used,?_⟩,[t],rfl⟩,?_⟩
   · simp only [bS];rw [hN.ts];simp [t,hlen]
   · intro σ k hk'
     obtain ⟨t',g1,g2⟩:=hN.map σ k hk'
     exact ⟨t',g1,by rw [List.getElem?_append_left (List.getElem?_eq_some_iff.1 g2).1];exact g2⟩
   · intro k t' hk'
     rw [List.getElem?_append] at hk'
     split at hk'
     · exact hN.cap k t' hk'
     · right
       have:t'=t:=by
         have h1:=List.mem_of_getElem? hk'
         simpa using h1
       rw [this]
   · simp only [bS,aE]
     refine ⟨t,by simp [Gh.nZ,hk],by simp [t,hlen],cU.2 ⟨_,_,_,rfl,Nat.le_refl _,hsl⟩,fun _=>⟨rfl,hrow⟩⟩
 | az d o=>
   simp only [bS]
   exact ⟨m,tks,⟨hN,[],by simp⟩,by simp only [aE] at h ⊢;exact h⟩
 | pv p=>exact flat rfl rfl
 | un=>exact flat rfl rfl
 | a_ _ _=>exact flat rfl rfl
 | bu _ _ _ _=>exact flat rfl rfl
 | dz _=>exact flat rfl rfl
 | dw=>exact flat rfl rfl
 | fn _ _=>exact flat (by simpa [kf] using hx) rfl
 | agg cs=>
   by_cases hf:bK.dX cs=true
   · exact flat (by simpa [bK] using hf) (by simp only [bS];rw [if_pos hf])
   · simp only [aE] at h
     obtain ⟨vs,rfl,r⟩:=h
     obtain ⟨m',tks',g1,g2⟩:=mY hN (by simpa [kf] using hx) r
     have e:bS aW ts (.agg cs)=(.agg (cT aW ts cs).1,(cT aW ts cs).2.1,(cT aW ts cs).2.2):=by simp only [bS];rw [if_neg hf]
     rw [e]
     exact ⟨m',tks',g1,by simp only [aE];exact ⟨vs,rfl,g2⟩⟩
 | lL _=>exact flat (by simpa [kf] using hx) rfl
 | cv _=>exact flat rfl rfl
 | lZ _ _ _=>exact flat rfl rfl
 | du _=>simp only [aE] at h
theorem yL {x:AV} (h:bm x=true):kf x=true:=by
 rcases qy h with hf | ⟨l,τ,rfl⟩
 · cases x<;>simp_all [kf,bK,bm]
 · rfl
theorem yM {aW ts:aM} {x:AV} (h:bm x=true):bm (bS aW ts x).1=true:=by
 cases x with
 | own l τ=>simp only [bS];split<;>rfl
 | bD l=>rfl
 | agg _=>simp [bm] at h
 | _=>exact h
theorem kF:∀{xs:List AV} {vs:List Value} {aW ts:aM} {m:Nat→Option Nat} {tks:List Tk},NS G aW ts m tks→xs.all bm=true→aB (num ns) G xs vs →
   ∃m' tks',CV ns G m tks (bL aW ts xs).2.1 (bL aW ts xs).2.2 m' tks'∧aB (num ns) (G.nZ m' tks') (bL aW ts xs).1 vs∧(bL aW ts xs).1.all bm=true
 | [],vs,aW,ts,m,tks,hN,_,h=>⟨m,tks,⟨hN,[],by simp⟩,by simpa only [bL,aB] using h,rfl⟩
 | x::xs,vs,aW,ts,m,tks,hN,hl,h=>by
   simp only [List.all_cons,Bool.and_eq_true] at hl
   simp only [aB] at h
   obtain ⟨v,r,e,e1,e2⟩:=h
   subst e
   obtain ⟨m1,t1,g1,g2⟩:=kE hN (yL hl.1) e1
   obtain ⟨m2,t2,k1,k2,k3⟩:=kF g1.vX hl.2 e2
   refine ⟨m2,t2,⟨k1.vX,?_⟩,?_,?_⟩
   · obtain ⟨a,ha⟩:=g1.ext
     obtain ⟨b,hb⟩:=k1.ext
     exact ⟨a++b,by rw [hb,ha,List.append_assoc]⟩
   · simp only [bL,aB]
     exact ⟨v,r,rfl,g2.mono k1.le,k2⟩
   · simp only [bL,List.all_cons,k3,Bool.and_true]
     exact yM hl.1
theorem o_ {a:Act}:∀{env:List (Nat×AV)} {aW ts:aM} {m:Nat→Option Nat} {tks:List Tk},NS G aW ts m tks →
   (∀p∈env,kf p.2=true∧∃v,a.tmps[p.1]?=some v∧aE (num ns) G p.2 v) →
   ∃m' tks',CV ns G m tks (dB aW ts env).2.1 (dB aW ts env).2.2 m' tks'∧∀p∈(dB aW ts env).1,∃v,a.tmps[p.1]?=some v∧aE (num ns) (G.nZ m' tks') p.2 v
 | [],aW,ts,m,tks,hN,_=>⟨m,tks,⟨hN,[],by simp⟩,by simp [dB]⟩
 | (t,x)::env,aW,ts,m,tks,hN,h=>by
   obtain ⟨hx,v,hv,hr⟩:=h (t,x) (by simp)
   obtain ⟨m1,t1,g1,g2⟩:=kE hN hx hr
   obtain ⟨m2,t2,k1,k2⟩:=o_ (env:=env) (a:=a) g1.vX (fun p hp=>h p (by simp [hp]))
   refine ⟨m2,t2,⟨k1.vX,?_⟩,?_⟩
   · obtain ⟨a,ha⟩:=g1.ext
     obtain ⟨b,hb⟩:=k1.ext
     exact ⟨a++b,by rw [hb,ha,List.append_assoc]⟩
   · intro p hp
     simp only [dB,List.mem_cons] at hp
     rcases hp with rfl | hp
     · exact ⟨v,hv,g2.mono k1.le⟩
     · exact k2 p hp
def MN (ns:Names) (G:Gh) (w:World) (d:Nat) (cells:List AV) (G':Gh):Prop:=
 ∃b c t,G.pm d=some b∧G.role b=.mP d∧w.heap[b]?=some (.cells c t (0,0))∧aB (num ns) G' cells c.toList∧cells.all bm=true
theorem pa:∀{mem:List (Nat×List AV)} {aW ts:aM} {m:Nat→Option Nat} {tks:List Tk},NS G aW ts m tks →
   (∀p∈mem,MN ns G w p.1 p.2 G) →
   ∃m' tks',CV ns G m tks (eQ aW ts mem).2.1 (eQ aW ts mem).2.2 m' tks'∧∀p∈(eQ aW ts mem).1,MN ns G w p.1 p.2 (G.nZ m' tks')
 | [],aW,ts,m,tks,hN,_=>⟨m,tks,⟨hN,[],by simp⟩,by simp [eQ]⟩
 | (d,cells)::mem,aW,ts,m,tks,hN,h=>by
   obtain ⟨b,c,t,h1,h2,h3,h4,h5⟩:=h (d,cells) (by simp)
   obtain ⟨m1,t1,g1,g2,g3⟩:=kF hN h5 h4
   obtain ⟨m2,t2,k1,k2⟩:=pa (mem:=mem) g1.vX (fun p hp=>h p (by simp [hp]))
   refine ⟨m2,t2,⟨k1.vX,?_⟩,?_⟩
   · obtain ⟨a,ha⟩:=g1.ext
     obtain ⟨b,hb⟩:=k1.ext
     exact ⟨a++b,by rw [hb,ha,List.append_assoc]⟩
   · intro p hp
     simp only [eQ,List.mem_cons] at hp
     rcases hp with rfl | hp
     · exact ⟨b,c,t,h1,h2,h3,aB.mono k1.le g2,g3⟩
     · exact k2 p hp
theorem yN {aW ts:aM} {n:Nat} {x:AV} (h:aS n x=true):aS n (dJ aW ts x).1=true:=by
 unfold dJ
 split
 · split<;>simp [aS]
 · exact h
theorem pb {n:Nat}:∀{xs:List AV} {aW ts:aM},aS.cO n xs=true→aS.cO n (cT aW ts xs).1=true
 | [],_,_,_=>rfl
 | x::xs,aW,ts,h=>by
   simp only [aS.cO,Bool.and_eq_true] at h
   simp only [cT,aS.cO,yN h.1,Bool.true_and]
   exact pb h.2
theorem yP {aW ts:aM} {n:Nat} {x:AV} (h:aS n x=true):aS n (bS aW ts x).1=true:=by
 unfold bS
 split
 · split<;>simp [aS]
 · simp [aS]
 · split
   · exact h
   · simp only [aS] at h ⊢
     exact pb h
 · exact h
theorem qz {n:Nat}:∀{xs:List AV} {aW ts:aM},xs.all (aS n)=true→(bL aW ts xs).1.all (aS n)=true
 | [],_,_,_=>rfl
 | x::xs,aW,ts,h=>by
   simp only [List.all_cons,Bool.and_eq_true] at h
   simp only [bL,List.all_cons,yP h.1,Bool.true_and]
   exact qz h.2
theorem jd:∀{sh:Sh} {aW ts:aM} {m:Nat→Option Nat} {tks:List Tk} (R:Nat→Option (Obj×Nat)),NS G aW ts m tks →
   (∀s cells,sh[s]?=some (some cells)→cells.all bm=true∧∃o,R s=some o∧gW (num ns) G o.1 o.2 cells) →
   ∃m' tks',CV ns G m tks (b_ aW ts sh).2.1 (b_ aW ts sh).2.2 m' tks'∧(b_ aW ts sh).1.length=sh.length ∧
     ∀s cells',(b_ aW ts sh).1[s]?=some (some cells')→∃cells,sh[s]?=some (some cells)∧(∃o,R s=some o∧gW (num ns) (G.nZ m' tks') o.1 o.2 cells')∧cells'.all bm=true∧∀n,cells.all (aS n)=true→cells'.all (aS n)=true
 | [],aW,ts,m,tks,R,hN,_=>⟨m,tks,⟨hN,[],by simp⟩,rfl,fun s cells' h=>by simp [b_] at h⟩
 | none::sh,aW,ts,m,tks,R,hN,h=>by
   obtain ⟨m1,t1,g1,g2,g3⟩:=jd (sh:=sh) (fun s=>R (s+1)) hN (fun s cells hs=>h (s+1) cells (by simpa using hs))
   refine ⟨m1,t1,g1,by simp [b_,g2],fun s cells' hs=>?_⟩
   cases s with
   | zero=>simp [b_] at hs
   | succ s=>
     obtain ⟨cells,k1,k2⟩:=g3 s cells' (by simpa [b_] using hs)
     exact ⟨cells,by simpa using k1,k2⟩
 | some cs::sh,aW,ts,m,tks,R,hN,h=>by
   obtain ⟨hl,o,hR,hr⟩:=h 0 cs rfl
   obtain ⟨m1,t1,g1,g2,g3⟩:∃m' tks',CV ns G m tks (bL aW ts cs).2.1 (bL aW ts cs).2.2 m' tks'∧gW (num ns) (G.nZ m' tks') o.1 o.2 (bL aW ts cs).1∧(bL aW ts cs).1.all bm=true:=by
     rcases hr with ⟨c,t,vs,suf,ho,e3,e4,hr⟩ | ⟨es,clock,kvs,ho,rfl,hm⟩
     · obtain ⟨m1,t1,g1,g2,g3⟩:=kF hN hl hr
       exact ⟨m1,t1,g1,.inl ⟨c,t,vs,suf,ho,e3,e4,g2⟩,g3⟩
     · exact ⟨m,tks,⟨hN,[],by simp⟩,.inr ⟨es,clock,kvs,ho,rfl,hm⟩,rfl⟩
   obtain ⟨m2,t2,k1,k2,k3⟩:=jd (sh:=sh) (fun s=>R (s+1)) g1.vX (fun s cells hs=>h (s+1) cells (by simpa using hs))
   refine ⟨m2,t2,⟨k1.vX,?_⟩,by simp [b_,k2],fun s cells' hs=>?_⟩
   · obtain ⟨a,ha⟩:=g1.ext
     obtain ⟨b,hb⟩:=k1.ext
     exact ⟨a++b,by rw [hb,ha,List.append_assoc]⟩
   · cases s with
     | zero=>
       simp only [b_,List.getElem?_cons_zero,Option.some.injEq] at hs
       subst hs
       exact ⟨cs,rfl,⟨o,hR,g2.mono k1.le⟩,g3,fun n hn=>qz hn⟩
     | succ s=>
       obtain ⟨cells,q1,q2⟩:=k3 s cells' (by simpa [b_] using hs)
       exact ⟨cells,by simpa using q1,q2⟩
def jQ (G:Gh) (w:World) (s:Nat):Option (Obj×Nat):=(G.sm s).bind fun b=>(w.heap[b.1]?).map fun o=>(o,b.2)
theorem Inv.jQ {mem:List (Nat×List AV)} {sh:Sh} {ah:aM} (hi:Inv (num ns) G w mem sh ah):∀s cells,sh[s]?=some (some cells)→cells.all bm=true∧∃o,Go.Ab.jQ G w s=some o∧gW (num ns) G o.1 o.2 cells:=by
 intro s cells hs
 obtain ⟨b,e1,e2,e3,e4⟩:=hi.dN s cells hs
 obtain ⟨hr,o,hh,hrel⟩:=e2
 exact ⟨e3,(o,b.2),by simp [Go.Ab.jQ,e1,hh],hrel⟩
theorem Inv.LJ {mem:List (Nat×List AV)} {sh:Sh} {ah:aM} (hi:Inv (num ns) G w mem sh ah) {sh':Sh} {G':Gh} (hsm:∀s,G'.sm s=G.sm s) (hrole:∀b s,G.role b=.shr s→G'.role b=.shr s)
   (h:∀s cells',sh'[s]?=some (some cells')→∃cells,sh[s]?=some (some cells)∧(∃o,Go.Ab.jQ G w s=some o∧gW (num ns) G' o.1 o.2 cells')∧cells'.all bm=true∧∀n,cells.all (aS n)=true→cells'.all (aS n)=true) :
   ∀s cells,sh'[s]?=some (some cells)→∃b,G'.sm s=some b∧tM (num ns) G' w b (.shr s) cells∧cells.all d_=true∧cells.all (aS (s+1))=true:=by
 intro s cells' hs
 obtain ⟨cells,h1,⟨o,h2,h2'⟩,h3,h4⟩:=h s cells' hs
 obtain ⟨b,e1,e2,e3,e4⟩:=hi.dN s cells h1
 simp only [Go.Ab.jQ,e1,Option.bind_some,Option.map_eq_some_iff] at h2
 obtain ⟨o',h5,rfl⟩:=h2
 exact ⟨b,by rw [hsm];exact e1,⟨hrole b.1 s e2.role,o',h5,h2'⟩,h3,h4 _ e4⟩
theorem mZ {α:Type}:∀{l:List (Nat×α)} {t:Nat} {x:α},look l t=some x→(t,x)∈l
 | [],_,_,h=>by simp [look] at h
 | (s,y)::l,t,x,h=>by
   simp only [look] at h
   split at h
   · rename_i e;subst e;cases h;simp
   · exact List.mem_cons_of_mem _ (mZ h)
theorem qA:∀{mem:List (Nat×List AV)} {aW ts:aM} {d:Nat},(look mem d).isSome=true→(look (eQ aW ts mem).1 d).isSome=true
 | [],_,_,d,h=>by simp [look] at h
 | (s,y)::mem,aW,ts,d,h=>by
   simp only [eQ,look] at h ⊢
   split
   · rfl
   · rename_i hne
     rw [if_neg hne] at h
     exact qA h
theorem NS.start {mem:List (Nat×List AV)} {sh:Sh} {ah:aM} (hi:Inv (num ns) G w mem sh ah):NS G ah [] (fun _=>none) [] where
 ts:=rfl
 map:=by intro τ k h;simp at h
 inj:=by intro τ σ k h;simp at h
 free:=fun τ t h _=>hi.e8 τ t h
 used:=by intro τ t k _ h;simp at h
 cap:=by intro k t h;simp at h
theorem eC {live:List Nat} {env:List (Nat×AV)}:∀{l:List Nat} {p:Nat×AV},p∈bX live env l→look env p.1=some p.2∧eo live p.2=true
 | [],p,h=>by simp [bX] at h
 | s::l,p,h=>by
   simp only [bX] at h
   split at h
   · rename_i u hu
     split at h
     · rename_i hk
       simp only [List.mem_cons] at h
       rcases h with rfl | h
       · exact ⟨hu,hk⟩
       · exact eC h
     · exact eC h
   · exact eC h
theorem ie {mem:List (Nat×List AV)}:∀{l:List Nat} {p:Nat×List AV},p∈bY mem l→look mem p.1=some p.2∧p.1∈l
 | [],p,h=>by simp [bY] at h
 | s::l,p,h=>by
   simp only [bY] at h
   split at h
   · rename_i u hu
     simp only [List.mem_cons] at h
     rcases h with rfl | h
     · exact ⟨hu,by simp⟩
     · obtain ⟨h1,h2⟩:=ie h;exact ⟨h1,by simp [h2]⟩
   · obtain ⟨h1,h2⟩:=ie h;exact ⟨h1,by simp [h2]⟩
theorem gX.head {n0 N:Nat} {st:St} {a:Act} (h:gX (num ns) n0 N G st a w) (live:List Nat):∃G',gX (num ns) n0 N G' (norm (Go.Ab.restrict live st)) a w∧cu G w G' w:=by
 have h0:=h.restrict live
 have hi:=h0.inv
 have hE:∀p∈(Go.Ab.restrict live st).env,kf p.2=true∧∃v,a.tmps[p.1]?=some v∧aE (num ns) (G.bg live) p.2 v:=by
   intro p hp
   obtain ⟨h1,h2⟩:=eC hp
   obtain ⟨v,h3,h4⟩:=h.env.env p.1 p.2 h1
   refine ⟨?_,v,h3,vV h2 h4⟩
   cases hpx:p.2<;>rw [hpx] at h2<;>simp_all [kf,eo,bK]
 have hM:∀p∈(Go.Ab.restrict live st).mem,MN ns (G.bg live) w p.1 p.2 (G.bg live):=by
   intro p hp
   obtain ⟨h1,h2⟩:=ie hp
   have h3:look (Go.Ab.restrict live st).mem p.1=some p.2:=by
     show look (bY st.mem live) p.1=some p.2
     rw [dO,if_pos h2,h1]
   obtain ⟨b,e1,e2,e3⟩:=hi.da p.1 p.2 h3
   obtain ⟨hr,c,t,hh,hrel⟩:=e2
   exact ⟨b,c,t,e1,hr,hh,hrel,e3⟩
 obtain ⟨m1,t1,g1,g2⟩:=o_ (NS.start hi) hE
 obtain ⟨m3,t3,k1,k2⟩:=pa (w:=w) g1.vX hM
 obtain ⟨m2,t2,q1,q2,q3⟩:=jd (jQ (G.bg live) w) k1.vX hi.jQ
 have hN:=q1.vX
 have hle3:=q1.le
 have hle:=Gh.le_trans k1.le q1.le
 have hrole:∀b r,(G.bg live).role b=r→(∀τ,r≠.tok τ)→((G.bg live).nZ m2 t2).role b=r:=by
   intro b r hr hn
   show (match (G.bg live).role b with | .tok τ=>(match m2 τ with | some k=>ku.tok k | none=>.dV) | r=>r)=r
   rw [hr]
   cases r with
   | tok τ=>exact absurd rfl (hn τ)
   | _=>rfl
 have hevo:cu G w ((G.bg live).nZ m2 t2) w:={
   size:=Nat.le_refl _,os:=rfl,tape:=rfl,output:=rfl,K:=bM.le_refl G.K,sm:=fun _ _ h=>h,
   dV:=fun b _ hr=>⟨hrole b _ hr (by simp),rfl⟩
   ir:=fun b τ _ hr=>by
     have hr':(G.bg live).role b=.tok τ:=hr
     rw [jP hr']
     cases m2 τ with
     | none=>exact .inl rfl
     | some k=>exact .inr ⟨k,rfl⟩
   gB:=fun _ _ _ _ _ h=>h }
 refine ⟨(G.bg live).nZ m2 t2,⟨⟨h.env.size,fun t x hx=>?_⟩,?_,h.marks.yx hevo rfl⟩,hevo⟩
 · obtain ⟨v,h1,h2⟩:=g2 (t,x) (mZ hx)
   exact ⟨v,h1,h2.mono hle⟩
 · constructor
   · exact hi.known
   · intro b o v hk
     rcases hi.bt b o v hk with h1 | ⟨τ,h1⟩
     · exact .inl (hrole b _ h1 (by simp))
     · rw [jP h1]
       cases m2 τ with
       | none=>exact .inl rfl
       | some k=>exact .inr ⟨k,rfl⟩
   · intro b hb;exact hrole b _ (hi.fresh b hb) (by simp)
   · intro d cells hd
     obtain ⟨b,c,t,h1,h2,h3,h4,h5⟩:=k2 (d,cells) (mZ hd)
     exact ⟨b,h1,⟨hrole b _ h2 (by simp),c,t,h3,aB.mono hle3 h4⟩,h5⟩
   · intro d b hd
     exact qA (hi.gN d b hd)
   · exact hi.LJ (G':=(G.bg live).nZ m2 t2) (fun _=>rfl) (fun b s hr=>hrole b _ hr (by simp)) q3
   · intro s b hs
     have:=hi.eZ s b hs
     have e:(norm (Go.Ab.restrict live st)).sh.length=(Go.Ab.restrict live st).sh.length:=q2
     omega
   · intro k n hn
     have hts:(norm (Go.Ab.restrict live st)).ah=t2.map (·.len):=hN.ts
     rw [hts,List.getElem?_map,Option.map_eq_some_iff] at hn
     obtain ⟨t,ht,rfl⟩:=hn
     refine ⟨t,ht,rfl,?_⟩
     rcases hN.cap k t ht with ⟨τ,hτ⟩ | hc
     · obtain ⟨t',h1,h2⟩:=hN.map τ k hτ
       rw [ht] at h2;cases h2
       obtain ⟨t'',e1,e2,e3⟩:=hi.dp τ _ (hi.e8 τ t h1)
       rw [h1] at e1;cases e1
       refine ⟨e3.cap,e3.zero,fun hlt=>?_⟩
       obtain ⟨b,o,c,ty,f1,f2,f3,f4,f5⟩:=e3.spare hlt
       refine ⟨b,o,c,ty,f1,?_,f3,f4,f5⟩
       rw [jP f2,hτ]
     · exact ⟨by omega,fun h=>by omega,fun h=>by omega⟩
   · intro k t ht
     have hts:(norm (Go.Ab.restrict live st)).ah=t2.map (·.len):=hN.ts
     rw [hts,List.getElem?_map]
     have ht':t2[k]?=some t:=ht
     rw [ht'];rfl
end
end Go.Ab
