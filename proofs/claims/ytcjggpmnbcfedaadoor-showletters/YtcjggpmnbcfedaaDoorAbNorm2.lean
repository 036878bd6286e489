import Derived.Test.YtcjggpmnbcfedaaDoorAbNorm
/-
  Tokens named anew.
-/
set_option linter.unusedVariables false
set_option linter.unusedSimpArgs false
set_option linter.unnecessarySimpa false
set_option maxRecDepth 100000
set_option maxHeartbeats 8000000
namespace Go.Ab
section
variable {ns:Names} {G:Gh} {w:World}
structure NS (G:Gh) (az ts:al) (m:Nat→Option Nat) (tks:List Tk):Prop where
 ts:ts=tks.map (·.len)
 map:∀τ k,m τ=some k→∃t,G.tk τ=some t∧tks[k]?=some t
 inj:∀τ σ k,m τ=some k→m σ=some k→τ=σ
 free:∀τ t,G.tk τ=some t→m τ=none→az[τ]?=some t.len
 used:∀τ t k,G.tk τ=some t→m τ=some k→az[τ]?=some (t.len+1)
 cap:∀k t,tks[k]?=some t→(∃τ,m τ=some k)∨(t.cap=t.len∧t.own=false)
def Gh.ix (G:Gh) (m:Nat→Option Nat) (tks:List Tk):Gh:=
 { G with tk:=fun k=>tks[k]?,role:=fun b=>match G.role b with | .tok τ=>(match m τ with | some k=>.tok k | none=>.b_) | r=>r }
theorem AH {m m':Nat→Option Nat} {tks ext:List Tk}:(G.ix m tks).le (G.ix m' (tks++ext)) where
 K:=aF.le_refl G.K
 pm:=fun _ _ h=>h
 sm:=fun _ _ h=>h
 tk:=fun k t h=>⟨t,by
   simp only [Gh.ix] at h ⊢
   rw [List.getElem?_append_left (List.getElem?_eq_some_iff.1 h).1];exact h,⟨Nat.le_refl _,Tk.dO _⟩,fun _=>rfl⟩
theorem pC {ρ:aX} {m:Nat→Option Nat} {tks:List Tk} {x:AV} {v:Value} (hf:a_ x=true) (h:ah ρ G x v):ah ρ (G.ix m tks) x v:=
 dI (G:=G) (G':=G.ix m tks) (aF.le_refl G.K) (fun _ _ h=>h) hf h
theorem gG {m:Nat→Option Nat} {tks:List Tk} {b τ:Nat} (h:G.role b=.tok τ):(G.ix m tks).role b=match m τ with | some k=>.tok k | none=>.b_:=by
 show (match G.role b with | .tok τ=>(match m τ with | some k=>h_.tok k | none=>.b_) | r=>r)=_
 rw [h]
def gU:AV→Bool
 | .bJ .. | .fk .. | .own ..=>true
 | .agg cs=>dC cs
 | v=>a_ v
structure uu (ns:Names) (G:Gh) (m:Nat→Option Nat) (tks:List Tk) (old' ts':al) (m':Nat→Option Nat) (tks':List Tk):Prop where
 pD:NS G old' ts' m' tks'
 ext:∃ext,tks'=tks++ext
theorem uu.le {m m':Nat→Option Nat} {tks tks':List Tk} {old' ts':al} (h:uu ns G m tks old' ts' m' tks'):(G.ix m tks).le (G.ix m' tks'):=by
 obtain ⟨ext,e⟩:=h.ext
 subst e
 exact AH
theorem kh {az ts:al} {m:Nat→Option Nat} {tks:List Tk} (hN:NS G az ts m tks) {x:AV} {v:Value} (hx:ft x=true) (h:ah (num ns) G x v) :
   ∃m' tks',uu ns G m tks (dM az ts x).2.1 (dM az ts x).2.2 m' tks'∧ah (num ns) (G.ix m' tks') (dM az ts x).1 v:=by
 have flat:a_ x=true→dM az ts x=(x,az,ts)→∃m' tks',uu ns G m tks (dM az ts x).2.1 (dM az ts x).2.2 m' tks'∧ah (num ns) (G.ix m' tks') (dM az ts x).1 v:=by
   intro hf e
   rw [e]
   exact ⟨m,tks,⟨hN,[],by simp⟩,pC hf h⟩
 cases x with
 | own l τ=>
   simp only [ah] at h
   obtain ⟨t,e1,e2,e3,e4⟩:=h
   simp only [dM]
   split
   · rename_i ho
     have hm:m τ=none:=by
       cases hm:m τ with
       | none=>rfl
       | some k=>
         have:=hN.used τ t k e1 hm
         rw [ho] at this
         simp at this
         omega
     have hlen:l.length=t.len:=by
       have:=hN.free τ t e1 hm
       rw [ho] at this
       simpa using this
     have hk:ts.length=tks.length:=by rw [hN.ts];simp
     refine ⟨fun σ=>if σ=τ then some tks.length else m σ,tks++[t],⟨⟨?_,?_,?_,?_,?_,?_⟩,[t],rfl⟩,?_⟩
     · rw [hN.ts,hlen];simp
     · intro σ k hk'
       split at hk'
       · rename_i e;subst e;simp at hk';subst hk';exact ⟨t,e1,by simp⟩
       · obtain ⟨t',g1,g2⟩:=hN.map σ k hk'
         exact ⟨t',g1,by rw [List.getElem?_append_left (List.getElem?_eq_some_iff.1 g2).1];exact g2⟩
     · intro σ σ' k h1 h2
       split at h1
       · rename_i e;subst e
         split at h2
         · rename_i e';exact e'.symm
         · simp at h1;subst h1
           obtain ⟨t',_,g2⟩:=hN.map σ' _ h2
           have:=(List.getElem?_eq_some_iff.1 g2).1
           omega
       · split at h2
         · rename_i e';subst e'
           simp at h2;subst h2
           obtain ⟨t',_,g2⟩:=hN.map σ _ h1
           have:=(List.getElem?_eq_some_iff.1 g2).1
           omega
         · exact hN.inj σ σ' k h1 h2
     · intro σ t' h1 h2
       split at h2
       · simp at h2
       · rename_i e
         rw [List.getElem?_set,if_neg (fun e'=>e e'.symm)]
         exact hN.free σ t' h1 h2
     · intro σ t' k h1 h2
       split at h2
       · rename_i e;subst e
         rw [e1] at h1;cases h1
         rw [List.getElem?_set,if_pos rfl,if_pos (List.getElem?_eq_some_iff.1 ho).1,hlen]
       · rename_i e
         rw [List.getElem?_set,if_neg (fun e'=>e e'.symm)]
         exact hN.used σ t' k h1 h2
     · intro k t' hk'
       rw [List.getElem?_append] at hk'
       split at hk'
       · rcases hN.cap k t' hk' with ⟨σ,hσ⟩ | hc
         · left
           refine ⟨σ,?_⟩
           rw [if_neg]
           · exact hσ
           · rintro rfl;rw [hm] at hσ;simp at hσ
         · exact .inr hc
       · rename_i hge
         left
         refine ⟨τ,?_⟩
         have:k=tks.length:=by
           have:=(List.getElem?_eq_some_iff.1 hk').1
           simp at this;omega
         simp [this]
     · simp only [ah]
       refine ⟨t,by simp [Gh.ix,hk],⟨by omega,e2.2⟩,e3,fun _=>e4 hlen⟩
   · exact ⟨m,tks,⟨hN,[],by simp⟩,by simp only [ah];exact e3⟩
 | _=>exact flat (by simpa [ft] using hx) rfl
theorem js:∀{xs:List AV} {vs:List Value} {az ts:al} {m:Nat→Option Nat} {tks:List Tk},NS G az ts m tks→dC xs=true→ae (num ns) G xs vs →
   ∃m' tks',uu ns G m tks (cf az ts xs).2.1 (cf az ts xs).2.2 m' tks'∧ae (num ns) (G.ix m' tks') (cf az ts xs).1 vs
 | [],vs,az,ts,m,tks,hN,_,h=>⟨m,tks,⟨hN,[],by simp⟩,by simpa only [cf,ae] using h⟩
 | x::xs,vs,az,ts,m,tks,hN,hl,h=>by
   simp only [dC,Bool.and_eq_true] at hl
   simp only [ae] at h
   obtain ⟨v,r,e,e1,e2⟩:=h
   subst e
   obtain ⟨m1,t1,g1,g2⟩:=kh hN hl.1 e1
   obtain ⟨m2,t2,k1,k2⟩:=js g1.pD hl.2 e2
   refine ⟨m2,t2,⟨k1.pD,?_⟩,?_⟩
   · obtain ⟨a,ha⟩:=g1.ext
     obtain ⟨b,hb⟩:=k1.ext
     exact ⟨a++b,by rw [hb,ha,List.append_assoc]⟩
   · simp only [cf,ae]
     exact ⟨v,r,rfl,g2.mono k1.le,k2⟩
theorem im {az ts:al} {m:Nat→Option Nat} {tks:List Tk} (hN:NS G az ts m tks) {x:AV} {v:Value} (hx:gU x=true) (h:ah (num ns) G x v) :
   ∃m' tks',uu ns G m tks (aW az ts x).2.1 (aW az ts x).2.2 m' tks'∧ah (num ns) (G.ix m' tks') (aW az ts x).1 v:=by
 have flat:a_ x=true→aW az ts x=(x,az,ts)→∃m' tks',uu ns G m tks (aW az ts x).2.1 (aW az ts x).2.2 m' tks'∧ah (num ns) (G.ix m' tks') (aW az ts x).1 v:=by
   intro hf e
   rw [e]
   exact ⟨m,tks,⟨hN,[],by simp⟩,pC hf h⟩
 cases x with
 | own l τ=>exact kh (x:=.own l τ) hN rfl h
 | cw l=>
   simp only [ah] at h
   obtain ⟨base,len,rfl,hsl⟩:=h
   have hk:ts.length=tks.length:=by rw [hN.ts];simp
   have hlen:=hsl.1
   obtain ⟨sz,hrow⟩:∃sz,l=[]∨∃b o,base=some ⟨b,o,none⟩∧Row G.K b o sz l:=by
     rcases hsl.2 with h1 | ⟨b,o,sz,e,hr⟩
     · exact ⟨0,.inl h1⟩
     · exact ⟨sz,.inr ⟨b,o,e,hr⟩⟩
   let t:Tk:=⟨base,len,len,sz,false⟩
   refine ⟨m,tks++[t],⟨⟨?_,?_,hN.inj,hN.free,hN.used,?_⟩,[t],rfl⟩,?_⟩
   · simp only [aW];rw [hN.ts];simp [t,hlen]
   · intro σ k hk'
     obtain ⟨t',g1,g2⟩:=hN.map σ k hk'
     exact ⟨t',g1,by rw [List.getElem?_append_left (List.getElem?_eq_some_iff.1 g2).1];exact g2⟩
   · intro k t' hk'
     rw [List.getElem?_append] at hk'
     split at hk'
     · exact hN.cap k t' hk'
     · right
       have:t'=t:=by
         have h1:=List.mem_of_getElem? hk'
         simpa using h1
       rw [this];exact ⟨rfl,rfl⟩
   · simp only [aW,ah]
     refine ⟨t,by simp [Gh.ix,hk],⟨by simp [t,hlen],t.kO⟩,aZ.2 ⟨_,_,_,rfl,Nat.le_refl _,hsl⟩,fun _=>⟨rfl,hrow⟩⟩
 | bJ d o=>
   simp only [aW]
   exact ⟨m,tks,⟨hN,[],by simp⟩,by simp only [ah] at h ⊢;exact h⟩
 | fk d o=>
   simp only [aW]
   exact ⟨m,tks,⟨hN,[],by simp⟩,by simp only [ah] at h ⊢;exact h⟩
 | pv p=>exact flat rfl rfl
 | un=>exact flat rfl rfl
 | a0 _ _=>exact flat rfl rfl
 | aU _ _ _ _=>exact flat rfl rfl
 | cj _=>exact flat rfl rfl
 | gm=>exact flat rfl rfl
 | fn _ _=>exact flat (by simpa [gU] using hx) rfl
 | agg cs=>
   by_cases hf:a_.eN cs=true
   · exact flat (by simpa [a_] using hf) (by simp only [aW];rw [if_pos hf])
   · simp only [ah] at h
     obtain ⟨vs,rfl,r⟩:=h
     obtain ⟨m',tks',g1,g2⟩:=js hN (by simpa [gU] using hx) r
     have e:aW az ts (.agg cs)=(.agg (cf az ts cs).1,(cf az ts cs).2.1,(cf az ts cs).2.2):=by simp only [aW];rw [if_neg hf]
     rw [e]
     exact ⟨m',tks',g1,by simp only [ah];exact ⟨vs,rfl,g2⟩⟩
 | j1 _=>exact flat (by simpa [gU] using hx) rfl
 | dK _=>exact flat rfl rfl
 | kB _ _ _=>exact flat rfl rfl
 | cz _=>simp only [ah] at h
theorem rk {x:AV} (h:aA x=true):gU x=true:=by
 rcases iV h with hf | ⟨l,τ,rfl⟩
 · cases x<;>simp_all [gU,a_,aA]
 · rfl
theorem rm {az ts:al} {x:AV} (h:aA x=true):aA (aW az ts x).1=true:=by
 cases x with
 | own l τ=>simp only [aW];split<;>rfl
 | cw l=>rfl
 | agg _=>simp [aA] at h
 | _=>exact h
theorem iq:∀{xs:List AV} {vs:List Value} {az ts:al} {m:Nat→Option Nat} {tks:List Tk},NS G az ts m tks→xs.all aA=true→ae (num ns) G xs vs →
   ∃m' tks',uu ns G m tks (aI az ts xs).2.1 (aI az ts xs).2.2 m' tks'∧ae (num ns) (G.ix m' tks') (aI az ts xs).1 vs∧(aI az ts xs).1.all aA=true
 | [],vs,az,ts,m,tks,hN,_,h=>⟨m,tks,⟨hN,[],by simp⟩,by simpa only [aI,ae] using h,rfl⟩
 | x::xs,vs,az,ts,m,tks,hN,hl,h=>by
   simp only [List.all_cons,Bool.and_eq_true] at hl
   simp only [ae] at h
   obtain ⟨v,r,e,e1,e2⟩:=h
   subst e
   obtain ⟨m1,t1,g1,g2⟩:=im hN (rk hl.1) e1
   obtain ⟨m2,t2,k1,k2,k3⟩:=iq g1.pD hl.2 e2
   refine ⟨m2,t2,⟨k1.pD,?_⟩,?_,?_⟩
   · obtain ⟨a,ha⟩:=g1.ext
     obtain ⟨b,hb⟩:=k1.ext
     exact ⟨a++b,by rw [hb,ha,List.append_assoc]⟩
   · simp only [aI,ae]
     exact ⟨v,r,rfl,g2.mono k1.le,k2⟩
   · simp only [aI,List.all_cons,k3,Bool.and_true]
     exact rm hl.1
theorem ki {a:Act}:∀{env:List (Nat×AV)} {az ts:al} {m:Nat→Option Nat} {tks:List Tk},NS G az ts m tks →
   (∀p∈env,gU p.2=true∧∃v,a.tmps[p.1]?=some v∧ah (num ns) G p.2 v) →
   ∃m' tks',uu ns G m tks (bS az ts env).2.1 (bS az ts env).2.2 m' tks'∧∀p∈(bS az ts env).1,∃v,a.tmps[p.1]?=some v∧ah (num ns) (G.ix m' tks') p.2 v
 | [],az,ts,m,tks,hN,_=>⟨m,tks,⟨hN,[],by simp⟩,by simp [bS]⟩
 | (t,x)::env,az,ts,m,tks,hN,h=>by
   obtain ⟨hx,v,hv,hr⟩:=h (t,x) (by simp)
   obtain ⟨m1,t1,g1,g2⟩:=im hN hx hr
   obtain ⟨m2,t2,k1,k2⟩:=ki (env:=env) (a:=a) g1.pD (fun p hp=>h p (by simp [hp]))
   refine ⟨m2,t2,⟨k1.pD,?_⟩,?_⟩
   · obtain ⟨a,ha⟩:=g1.ext
     obtain ⟨b,hb⟩:=k1.ext
     exact ⟨a++b,by rw [hb,ha,List.append_assoc]⟩
   · intro p hp
     simp only [bS,List.mem_cons] at hp
     rcases hp with rfl | hp
     · exact ⟨v,hv,g2.mono k1.le⟩
     · exact k2 p hp
def AI (ns:Names) (G:Gh) (w:World) (d:Nat) (cells:List AV) (G':Gh):Prop:=
 ∃b c t,G.pm d=some b∧G.role b=.gW d∧w.heap[b]?=some (.cells c t (0,0))∧ae (num ns) G' cells c.toList∧cells.all aA=true
theorem kj:∀{mem:List (Nat×List AV)} {az ts:al} {m:Nat→Option Nat} {tks:List Tk},NS G az ts m tks →
   (∀p∈mem,AI ns G w p.1 p.2 G) →
   ∃m' tks',uu ns G m tks (de az ts mem).2.1 (de az ts mem).2.2 m' tks'∧∀p∈(de az ts mem).1,AI ns G w p.1 p.2 (G.ix m' tks')
 | [],az,ts,m,tks,hN,_=>⟨m,tks,⟨hN,[],by simp⟩,by simp [de]⟩
 | (d,cells)::mem,az,ts,m,tks,hN,h=>by
   obtain ⟨b,c,t,h1,h2,h3,h4,h5⟩:=h (d,cells) (by simp)
   obtain ⟨m1,t1,g1,g2,g3⟩:=iq hN h5 h4
   obtain ⟨m2,t2,k1,k2⟩:=kj (mem:=mem) g1.pD (fun p hp=>h p (by simp [hp]))
   refine ⟨m2,t2,⟨k1.pD,?_⟩,?_⟩
   · obtain ⟨a,ha⟩:=g1.ext
     obtain ⟨b,hb⟩:=k1.ext
     exact ⟨a++b,by rw [hb,ha,List.append_assoc]⟩
   · intro p hp
     simp only [de,List.mem_cons] at hp
     rcases hp with rfl | hp
     · exact ⟨b,c,t,h1,h2,h3,ae.mono k1.le g2,g3⟩
     · exact k2 p hp
theorem rn {az ts:al} {n:Nat} {x:AV} (h:aq n x=true):aq n (dM az ts x).1=true:=by
 unfold dM
 split
 · split<;>simp [aq]
 · exact h
theorem kk {n:Nat}:∀{xs:List AV} {az ts:al},aq.bn n xs=true→aq.bn n (cf az ts xs).1=true
 | [],_,_,_=>rfl
 | x::xs,az,ts,h=>by
   simp only [aq.bn,Bool.and_eq_true] at h
   simp only [cf,aq.bn,rn h.1,Bool.true_and]
   exact kk h.2
theorem rp {az ts:al} {n:Nat} {x:AV} (h:aq n x=true):aq n (aW az ts x).1=true:=by
 unfold aW
 split
 · split<;>simp [aq]
 · simp [aq]
 · split
   · exact h
   · simp only [aq] at h ⊢
     exact kk h
 · exact h
theorem lD {n:Nat}:∀{xs:List AV} {az ts:al},xs.all (aq n)=true→(aI az ts xs).1.all (aq n)=true
 | [],_,_,_=>rfl
 | x::xs,az,ts,h=>by
   simp only [List.all_cons,Bool.and_eq_true] at h
   simp only [aI,List.all_cons,rp h.1,Bool.true_and]
   exact lD h.2
theorem fM:∀{sh:Sh} {az ts:al} {m:Nat→Option Nat} {tks:List Tk} (R:Nat→Option (Obj×Nat)),NS G az ts m tks →
   (∀s cells,sh[s]?=some (some cells)→cells.all aA=true∧∃o,R s=some o∧Holds (num ns) G o.1 o.2 cells) →
   ∃m' tks',uu ns G m tks (bK az ts sh).2.1 (bK az ts sh).2.2 m' tks'∧(bK az ts sh).1.length=sh.length ∧
     ∀s cells',(bK az ts sh).1[s]?=some (some cells')→∃cells,sh[s]?=some (some cells)∧(∃o,R s=some o∧Holds (num ns) (G.ix m' tks') o.1 o.2 cells')∧cells'.all aA=true∧∀n,cells.all (aq n)=true→cells'.all (aq n)=true
 | [],az,ts,m,tks,R,hN,_=>⟨m,tks,⟨hN,[],by simp⟩,rfl,fun s cells' h=>by simp [bK] at h⟩
 | none::sh,az,ts,m,tks,R,hN,h=>by
   obtain ⟨m1,t1,g1,g2,g3⟩:=fM (sh:=sh) (fun s=>R (s+1)) hN (fun s cells hs=>h (s+1) cells (by simpa using hs))
   refine ⟨m1,t1,g1,by simp [bK,g2],fun s cells' hs=>?_⟩
   cases s with
   | zero=>simp [bK] at hs
   | succ s=>
     obtain ⟨cells,k1,k2⟩:=g3 s cells' (by simpa [bK] using hs)
     exact ⟨cells,by simpa using k1,k2⟩
 | some cs::sh,az,ts,m,tks,R,hN,h=>by
   obtain ⟨hl,o,hR,hr⟩:=h 0 cs rfl
   obtain ⟨m1,t1,g1,g2,g3⟩:∃m' tks',uu ns G m tks (aI az ts cs).2.1 (aI az ts cs).2.2 m' tks'∧Holds (num ns) (G.ix m' tks') o.1 o.2 (aI az ts cs).1∧(aI az ts cs).1.all aA=true:=by
     rcases hr with ⟨c,t,vs,suf,ho,e3,e4,hr⟩ | ⟨es,clock,kvs,ho,rfl,hm⟩
     · obtain ⟨m1,t1,g1,g2,g3⟩:=iq hN hl hr
       exact ⟨m1,t1,g1,.inl ⟨c,t,vs,suf,ho,e3,e4,g2⟩,g3⟩
     · exact ⟨m,tks,⟨hN,[],by simp⟩,.inr ⟨es,clock,kvs,ho,rfl,hm⟩,rfl⟩
   obtain ⟨m2,t2,k1,k2,k3⟩:=fM (sh:=sh) (fun s=>R (s+1)) g1.pD (fun s cells hs=>h (s+1) cells (by simpa using hs))
   refine ⟨m2,t2,⟨k1.pD,?_⟩,by simp [bK,k2],fun s cells' hs=>?_⟩
   · obtain ⟨a,ha⟩:=g1.ext
     obtain ⟨b,hb⟩:=k1.ext
     exact ⟨a++b,by rw [hb,ha,List.append_assoc]⟩
   · cases s with
     | zero=>
       simp only [bK,List.getElem?_cons_zero,Option.some.injEq] at hs
       subst hs
       exact ⟨cs,rfl,⟨o,hR,g2.mono k1.le⟩,g3,fun n hn=>lD hn⟩
     | succ s=>
       obtain ⟨cells,q1,q2⟩:=k3 s cells' (by simpa [bK] using hs)
       exact ⟨cells,by simpa using q1,q2⟩
def gH (G:Gh) (w:World) (s:Nat):Option (Obj×Nat):=(G.sm s).bind fun b=>(w.heap[b.1]?).map fun o=>(o,b.2)
theorem Inv.gH {mem:List (Nat×List AV)} {sh:Sh} {aa:al} (hi:Inv (num ns) G w mem sh aa):∀s cells,sh[s]?=some (some cells)→cells.all aA=true∧∃o,Go.Ab.gH G w s=some o∧Holds (num ns) G o.1 o.2 cells:=by
 intro s cells hs
 obtain ⟨b,e1,e2,e3,e4⟩:=hi.bD s cells hs
 obtain ⟨hr,o,hh,hrel⟩:=e2
 exact ⟨e3,(o,b.2),by simp [Go.Ab.gH,e1,hh],hrel⟩
theorem Inv.Aj {mem:List (Nat×List AV)} {sh:Sh} {aa:al} (hi:Inv (num ns) G w mem sh aa) {sh':Sh} {G':Gh} (hsm:∀s,G'.sm s=G.sm s) (hrole:∀b s,G.role b=.shr s→G'.role b=.shr s)
   (h:∀s cells',sh'[s]?=some (some cells')→∃cells,sh[s]?=some (some cells)∧(∃o,Go.Ab.gH G w s=some o∧Holds (num ns) G' o.1 o.2 cells')∧cells'.all aA=true∧∀n,cells.all (aq n)=true→cells'.all (aq n)=true) :
   ∀s cells,sh'[s]?=some (some cells)→∃b,G'.sm s=some b∧nw (num ns) G' w b (.shr s) cells∧cells.all bm=true∧cells.all (aq (s+1))=true:=by
 intro s cells' hs
 obtain ⟨cells,h1,⟨o,h2,h2'⟩,h3,h4⟩:=h s cells' hs
 obtain ⟨b,e1,e2,e3,e4⟩:=hi.bD s cells h1
 simp only [Go.Ab.gH,e1,Option.bind_some,Option.map_eq_some_iff] at h2
 obtain ⟨o',h5,rfl⟩:=h2
 exact ⟨b,by rw [hsm];exact e1,⟨hrole b.1 s e2.role,o',h5,h2'⟩,h3,h4 _ e4⟩
theorem jt {α:Type}:∀{l:List (Nat×α)} {t:Nat} {x:α},look l t=some x→(t,x)∈l
 | [],_,_,h=>by simp [look] at h
 | (s,y)::l,t,x,h=>by
   simp only [look] at h
   split at h
   · rename_i e;subst e;cases h;simp
   · exact List.mem_cons_of_mem _ (jt h)
theorem lE:∀{mem:List (Nat×List AV)} {az ts:al} {d:Nat},(look mem d).isSome=true→(look (de az ts mem).1 d).isSome=true
 | [],_,_,d,h=>by simp [look] at h
 | (s,y)::mem,az,ts,d,h=>by
   simp only [de,look] at h ⊢
   split
   · rfl
   · rename_i hne
     rw [if_neg hne] at h
     exact lE h
theorem NS.start {mem:List (Nat×List AV)} {sh:Sh} {aa:al} (hi:Inv (num ns) G w mem sh aa):NS G aa [] (fun _=>none) [] where
 ts:=rfl
 map:=by intro τ k h;simp at h
 inj:=by intro τ σ k h;simp at h
 free:=fun τ t h _=>hi.cY τ t h
 used:=by intro τ t k _ h;simp at h
 cap:=by intro k t h;simp at h
theorem cP {live:List Nat} {env:List (Nat×AV)}:∀{l:List Nat} {p:Nat×AV},p∈aO live env l→look env p.1=some p.2∧cC live p.2=true
 | [],p,h=>by simp [aO] at h
 | s::l,p,h=>by
   simp only [aO] at h
   split at h
   · rename_i u hu
     split at h
     · rename_i hk
       simp only [List.mem_cons] at h
       rcases h with rfl | h
       · exact ⟨hu,hk⟩
       · exact cP h
     · exact cP h
   · exact cP h
theorem ez {mem:List (Nat×List AV)}:∀{l:List Nat} {p:Nat×List AV},p∈aT mem l→look mem p.1=some p.2∧p.1∈l
 | [],p,h=>by simp [aT] at h
 | s::l,p,h=>by
   simp only [aT] at h
   split at h
   · rename_i u hu
     simp only [List.mem_cons] at h
     rcases h with rfl | h
     · exact ⟨hu,by simp⟩
     · obtain ⟨h1,h2⟩:=ez h;exact ⟨h1,by simp [h2]⟩
   · obtain ⟨h1,h2⟩:=ez h;exact ⟨h1,by simp [h2]⟩
theorem dt.head {n0 N:Nat} {st:St} {a:Act} (h:dt (num ns) n0 N G st a w) (live:List Nat):∃G',dt (num ns) n0 N G' (norm (Go.Ab.restrict live st)) a w∧aN G w G' w:=by
 have h0:=h.restrict live
 have hi:=h0.inv
 have hE:∀p∈(Go.Ab.restrict live st).env,gU p.2=true∧∃v,a.tmps[p.1]?=some v∧ah (num ns) (G.aw live) p.2 v:=by
   intro p hp
   obtain ⟨h1,h2⟩:=cP hp
   obtain ⟨v,h3,h4⟩:=h.env.env p.1 p.2 h1
   refine ⟨?_,v,h3,pB h2 h4⟩
   cases hpx:p.2<;>rw [hpx] at h2<;>simp_all [gU,cC,a_]
 have hM:∀p∈(Go.Ab.restrict live st).mem,AI ns (G.aw live) w p.1 p.2 (G.aw live):=by
   intro p hp
   obtain ⟨h1,h2⟩:=ez hp
   have h3:look (Go.Ab.restrict live st).mem p.1=some p.2:=by
     show look (aT st.mem live) p.1=some p.2
     rw [bY,if_pos h2,h1]
   obtain ⟨b,e1,e2,e3⟩:=hi.bp p.1 p.2 h3
   obtain ⟨hr,c,t,hh,hrel⟩:=e2
   exact ⟨b,c,t,e1,hr,hh,hrel,e3⟩
 obtain ⟨m1,t1,g1,g2⟩:=ki (NS.start hi) hE
 obtain ⟨m3,t3,k1,k2⟩:=kj (w:=w) g1.pD hM
 obtain ⟨m2,t2,q1,q2,q3⟩:=fM (gH (G.aw live) w) k1.pD hi.gH
 have hN:=q1.pD
 have hle3:=q1.le
 have hle:=Gh.le_trans k1.le q1.le
 have hrole:∀b r,(G.aw live).role b=r→(∀τ,r≠.tok τ)→((G.aw live).ix m2 t2).role b=r:=by
   intro b r hr hn
   show (match (G.aw live).role b with | .tok τ=>(match m2 τ with | some k=>h_.tok k | none=>.b_) | r=>r)=r
   rw [hr]
   cases r with
   | tok τ=>exact absurd rfl (hn τ)
   | _=>rfl
 have hevo:aN G w ((G.aw live).ix m2 t2) w:={
   size:=Nat.le_refl _,os:=rfl,tape:=rfl,output:=rfl,K:=aF.le_refl G.K,sm:=fun _ _ h=>h,
   b_:=fun b _ hr=>⟨hrole b _ hr (by simp),rfl⟩
   ew:=fun b τ _ hr=>by
     have hr':(G.aw live).role b=.tok τ:=hr
     rw [gG hr']
     cases m2 τ with
     | none=>exact .inl rfl
     | some k=>exact .inr ⟨k,rfl⟩
   dP:=fun _ _ _ _ _ h=>h }
 refine ⟨(G.aw live).ix m2 t2,⟨⟨h.env.size,fun t x hx=>?_⟩,?_,h.marks.mr hevo rfl⟩,hevo⟩
 · obtain ⟨v,h1,h2⟩:=g2 (t,x) (jt hx)
   exact ⟨v,h1,h2.mono hle⟩
 · constructor
   · exact hi.known
   · intro b o v hk
     rcases hi.aC b o v hk with h1 | ⟨τ,h1⟩
     · exact .inl (hrole b _ h1 (by simp))
     · rw [gG h1]
       cases m2 τ with
       | none=>exact .inl rfl
       | some k=>exact .inr ⟨k,rfl⟩
   · intro b hb;exact hrole b _ (hi.fresh b hb) (by simp)
   · intro d cells hd
     obtain ⟨b,c,t,h1,h2,h3,h4,h5⟩:=k2 (d,cells) (jt hd)
     exact ⟨b,h1,⟨hrole b _ h2 (by simp),c,t,h3,ae.mono hle3 h4⟩,h5⟩
   · intro d b hd
     exact lE (hi.dX d b hd)
   · exact hi.Aj (G':=(G.aw live).ix m2 t2) (fun _=>rfl) (fun b s hr=>hrole b _ hr (by simp)) q3
   · intro s b hs
     have:=hi.cN s b hs
     have e:(norm (Go.Ab.restrict live st)).sh.length=(Go.Ab.restrict live st).sh.length:=q2
     omega
   · intro k n hn
     have hts:(norm (Go.Ab.restrict live st)).aa=t2.map (·.len):=hN.ts
     rw [hts,List.getElem?_map,Option.map_eq_some_iff] at hn
     obtain ⟨t,ht,rfl⟩:=hn
     refine ⟨t,ht,rfl,?_⟩
     rcases hN.cap k t ht with ⟨τ,hτ⟩ | hc
     · obtain ⟨t',h1,h2⟩:=hN.map τ k hτ
       rw [ht] at h2;cases h2
       obtain ⟨t'',e1,e2,e3⟩:=hi.bE τ _ (hi.cY τ t h1)
       rw [h1] at e1;cases e1
       refine ⟨e3.cap,e3.zero,fun hlt=>?_⟩
       obtain ⟨b,o,c,ty,f1,f2,f3,f4,f5⟩:=e3.spare hlt
       refine ⟨b,o,c,ty,f1,?_,f3,f4,f5⟩
       rw [gG f2,hτ]
     · exact ⟨by omega,fun h=>by omega,fun h=>h.elim (fun h=>by omega) (fun h=>by rw [hc.2] at h;cases h)⟩
   · intro k t ht
     have hts:(norm (Go.Ab.restrict live st)).aa=t2.map (·.len):=hN.ts
     rw [hts,List.getElem?_map]
     have ht':t2[k]?=some t:=ht
     rw [ht'];rfl
   · exact fun b c hb=>⟨hrole b _ (hi.hP b c hb).1 (by simp),(hi.hP b c hb).2⟩
end
end Go.Ab
