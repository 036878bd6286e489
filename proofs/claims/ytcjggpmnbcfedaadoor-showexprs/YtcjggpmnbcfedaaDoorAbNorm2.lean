import Derived.Test.YtcjggpmnbcfedaaDoorAbNorm
/-
  Tokens named anew.
-/
set_option linter.unusedVariables false
set_option linter.unusedSimpArgs false
set_option maxRecDepth 100000
set_option maxHeartbeats 8000000
namespace Go.Ab
section
variable {ns:Names} {G:Gh} {w:World}
structure NS (G:Gh) (aC ts:au) (m:Nat→Option Nat) (tks:List Tk):Prop where
 ts:ts=tks.map (·.len)
 map:∀τ k,m τ=some k→∃t,G.tk τ=some t∧tks[k]?=some t
 inj:∀τ σ k,m τ=some k→m σ=some k→τ=σ
 free:∀τ t,G.tk τ=some t→m τ=none→aC[τ]?=some t.len
 used:∀τ t k,G.tk τ=some t→m τ=some k→aC[τ]?=some (t.len+1)
 cap:∀k t,tks[k]?=some t→(∃τ,m τ=some k)∨(t.cap=t.len∧t.own=false)
def Gh.kC (G:Gh) (m:Nat→Option Nat) (tks:List Tk):Gh:=
 { G with tk:=fun k=>tks[k]?,role:=fun b=>match G.role b with | .tok τ=>(match m τ with | some k=>.tok k | none=>.cX) | r=>r }
theorem DY {m m':Nat→Option Nat} {tks ext:List Tk}:(G.kC m tks).le (G.kC m' (tks++ext)) where
 K:=aU.le_refl G.K
 pm:=fun _ _ h=>h
 sm:=fun _ _ h=>h
 tk:=fun k t h=>⟨t,by
   simp only [Gh.kC] at h ⊢
   rw [List.getElem?_append_left (List.getElem?_eq_some_iff.1 h).1];exact h,⟨Nat.le_refl _,Tk.ew _⟩,fun _=>rfl⟩
theorem qq {ρ:bw} {m:Nat→Option Nat} {tks:List Tk} {x:AV} {v:Value} (hf:a7 x=true) (h:al ρ G x v):al ρ (G.kC m tks) x v:=
 eh (G:=G) (G':=G.kC m tks) (aU.le_refl G.K) (fun _ _ h=>h) hf h
theorem hH {m:Nat→Option Nat} {tks:List Tk} {b τ:Nat} (h:G.role b=.tok τ):(G.kC m tks).role b=match m τ with | some k=>.tok k | none=>.cX:=by
 show (match G.role b with | .tok τ=>(match m τ with | some k=>iB.tok k | none=>.cX) | r=>r)=_
 rw [h]
def iq:AV→Bool
 | .bt .. | .own ..=>true
 | .agg cs=>ef cs
 | v=>a7 v
structure w0 (ns:Names) (G:Gh) (m:Nat→Option Nat) (tks:List Tk) (old' ts':au) (m':Nat→Option Nat) (tks':List Tk):Prop where
 qt:NS G old' ts' m' tks'
 ext:∃ext,tks'=tks++ext
theorem w0.le {m m':Nat→Option Nat} {tks tks':List Tk} {old' ts':au} (h:w0 ns G m tks old' ts' m' tks'):(G.kC m tks).le (G.kC m' tks'):=by
 obtain ⟨ext,e⟩:=h.ext
 subst e
 exact DY
theorem lq {aC ts:au} {m:Nat→Option Nat} {tks:List Tk} (hN:NS G aC ts m tks) {x:AV} {v:Value} (hx:eH x=true) (h:al (num ns) G x v) :
   ∃m' tks',w0 ns G m tks (cM aC ts x).2.1 (cM aC ts x).2.2 m' tks'∧al (num ns) (G.kC m' tks') (cM aC ts x).1 v:=by
 have flat:a7 x=true→cM aC ts x=(x,aC,ts)→∃m' tks',w0 ns G m tks (cM aC ts x).2.1 (cM aC ts x).2.2 m' tks'∧al (num ns) (G.kC m' tks') (cM aC ts x).1 v:=by
   intro hf e
   rw [e]
   exact ⟨m,tks,⟨hN,[],by simp⟩,qq hf h⟩
 cases x with
 | own l τ=>
   simp only [al] at h
   obtain ⟨t,e1,e2,e3,e4⟩:=h
   simp only [cM]
   split
   · rename_i ho
     have hm:m τ=none:=by
       cases hm:m τ with
       | none=>rfl
       | some k=>
         have:=hN.used τ t k e1 hm
         rw [ho] at this
         simp at this
         omega
     have hlen:l.length=t.len:=by
       have:=hN.free τ t e1 hm
       rw [ho] at this
       simpa using this
     have hk:ts.length=tks.length:=by rw [hN.ts];simp
     refine ⟨fun σ=>if σ=τ then some tks.length else m σ,tks++[t],⟨⟨?_,?_,?_,?_,?_,?_⟩,[t],rfl⟩,?_⟩
     · rw [hN.ts,hlen];simp
     · intro σ k hk'
       split at hk'
       · rename_i e;subst e;simp at hk';subst hk';exact ⟨t,e1,by simp⟩
       · obtain ⟨t',g1,g2⟩:=hN.map σ k hk'
         exact ⟨t',g1,by rw [List.getElem?_append_left (List.getElem?_eq_some_iff.1 g2).1];exact g2⟩
     · intro σ σ' k h1 h2
       split at h1
       · rename_i e;subst e
         split at h2
         · rename_i e';exact e'.symm
         · simp at h1;subst h1
           obtain ⟨t',_,g2⟩:=hN.map σ' _ h2
           have:=(List.getElem?_eq_some_iff.1 g2).1
           omega
       · split at h2
         · rename_i e';subst e'
           simp at h2;subst h2
           obtain ⟨t',_,g2⟩:=hN.map σ _ h1
           have:=(List.getElem?_eq_some_iff.1 g2).1
           omega
         · exact hN.inj σ σ' k h1 h2
     · intro σ t' h1 h2
       split at h2
       · simp at h2
       · rename_i e
         rw [List.getElem?_set,if_neg (fun e'=>e e'.symm)]
         exact hN.free σ t' h1 h2
     · intro σ t' k h1 h2
       split at h2
       · rename_i e;subst e
         rw [e1] at h1;cases h1
         rw [List.getElem?_set,if_pos rfl,if_pos (List.getElem?_eq_some_iff.1 ho).1,hlen]
       · rename_i e
         rw [List.getElem?_set,if_neg (fun e'=>e e'.symm)]
         exact hN.used σ t' k h1 h2
     · intro k t' hk'
       rw [List.getElem?_append] at hk'
       split at hk'
       · rcases hN.cap k t' hk' with ⟨σ,hσ⟩ | hc
         · left
           refine ⟨σ,?_⟩
           rw [if_neg]
           · exact hσ
           · rintro rfl;rw [hm] at hσ;simp at hσ
         · exact .inr hc
       · rename_i hge
         left
         refine ⟨τ,?_⟩
         have:k=tks.length:=by
           have:=(List.getElem?_eq_some_iff.1 hk').1
           simp at this;omega
         simp [this]
     · simp only [al]
       refine ⟨t,by simp [Gh.kC,hk],⟨by omega,e2.2⟩,e3,fun _=>e4 hlen⟩
   · exact ⟨m,tks,⟨hN,[],by simp⟩,by simp only [al];exact e3⟩
 | _=>exact flat (by simpa [eH] using hx) rfl
theorem j8:∀{xs:List AV} {vs:List Value} {aC ts:au} {m:Nat→Option Nat} {tks:List Tk},NS G aC ts m tks→ef xs=true→ae (num ns) G xs vs →
   ∃m' tks',w0 ns G m tks (bT aC ts xs).2.1 (bT aC ts xs).2.2 m' tks'∧ae (num ns) (G.kC m' tks') (bT aC ts xs).1 vs
 | [],vs,aC,ts,m,tks,hN,_,h=>⟨m,tks,⟨hN,[],by simp⟩,by simpa only [bT,ae] using h⟩
 | x::xs,vs,aC,ts,m,tks,hN,hl,h=>by
   simp only [ef,Bool.and_eq_true] at hl
   simp only [ae] at h
   obtain ⟨v,r,e,e1,e2⟩:=h
   subst e
   obtain ⟨m1,t1,g1,g2⟩:=lq hN hl.1 e1
   obtain ⟨m2,t2,k1,k2⟩:=j8 g1.qt hl.2 e2
   refine ⟨m2,t2,⟨k1.qt,?_⟩,?_⟩
   · obtain ⟨a,ha⟩:=g1.ext
     obtain ⟨b,hb⟩:=k1.ext
     exact ⟨a++b,by rw [hb,ha,List.append_assoc]⟩
   · simp only [bT,ae]
     exact ⟨v,r,rfl,g2.mono k1.le,k2⟩
theorem iI {aC ts:au} {m:Nat→Option Nat} {tks:List Tk} (hN:NS G aC ts m tks) {x:AV} {v:Value} (hx:iq x=true) (h:al (num ns) G x v) :
   ∃m' tks',w0 ns G m tks (bd aC ts x).2.1 (bd aC ts x).2.2 m' tks'∧al (num ns) (G.kC m' tks') (bd aC ts x).1 v:=by
 have flat:a7 x=true→bd aC ts x=(x,aC,ts)→∃m' tks',w0 ns G m tks (bd aC ts x).2.1 (bd aC ts x).2.2 m' tks'∧al (num ns) (G.kC m' tks') (bd aC ts x).1 v:=by
   intro hf e
   rw [e]
   exact ⟨m,tks,⟨hN,[],by simp⟩,qq hf h⟩
 cases x with
 | own l τ=>exact lq (x:=.own l τ) hN rfl h
 | cg l=>
   simp only [al] at h
   obtain ⟨base,len,rfl,hsl⟩:=h
   have hk:ts.length=tks.length:=by rw [hN.ts];simp
   have hlen:=hsl.1
   obtain ⟨sz,hrow⟩:∃sz,l=[]∨∃b o,base=some ⟨b,o,none⟩∧Row G.K b o sz l:=by
     rcases hsl.2 with h1 | ⟨b,o,sz,e,hr⟩
     · exact ⟨0,.inl h1⟩
     · exact ⟨sz,.inr ⟨b,o,e,hr⟩⟩
   let t:Tk:=⟨base,len,len,sz,false⟩
   refine ⟨m,tks++[t],⟨⟨?_,?_,hN.inj,hN.free,hN.used,?_⟩,[t],rfl⟩,?_⟩
   · simp only [bd];rw [hN.ts];simp [t,hlen]
   · intro σ k hk'
     obtain ⟨t',g1,g2⟩:=hN.map σ k hk'
     exact ⟨t',g1,by rw [List.getElem?_append_left (List.getElem?_eq_some_iff.1 g2).1];exact g2⟩
   · intro k t' hk'
     rw [List.getElem?_append] at hk'
     split at hk'
     · exact hN.cap k t' hk'
     · right
       have:t'=t:=by
         have h1:=List.mem_of_getElem? hk'
         simpa using h1
       rw [this];exact ⟨rfl,rfl⟩
   · simp only [bd,al]
     refine ⟨t,by simp [Gh.kC,hk],⟨by simp [t,hlen],t.lT⟩,bu.2 ⟨_,_,_,rfl,Nat.le_refl _,hsl⟩,fun _=>⟨rfl,hrow⟩⟩
 | bt d o=>
   simp only [bd]
   exact ⟨m,tks,⟨hN,[],by simp⟩,by simp only [al] at h ⊢;exact h⟩
 | pv p=>exact flat rfl rfl
 | un=>exact flat rfl rfl
 | aT _ _=>exact flat rfl rfl
 | bh _ _ _ _=>exact flat rfl rfl
 | cC _=>exact flat rfl rfl
 | cz=>exact flat rfl rfl
 | fn _ _=>exact flat (by simpa [iq] using hx) rfl
 | agg cs=>
   by_cases hf:a7.dn cs=true
   · exact flat (by simpa [a7] using hf) (by simp only [bd];rw [if_pos hf])
   · simp only [al] at h
     obtain ⟨vs,rfl,r⟩:=h
     obtain ⟨m',tks',g1,g2⟩:=j8 hN (by simpa [iq] using hx) r
     have e:bd aC ts (.agg cs)=(.agg (bT aC ts cs).1,(bT aC ts cs).2.1,(bT aC ts cs).2.2):=by simp only [bd];rw [if_neg hf]
     rw [e]
     exact ⟨m',tks',g1,by simp only [al];exact ⟨vs,rfl,g2⟩⟩
 | jg _=>exact flat (by simpa [iq] using hx) rfl
 | bY _=>exact flat rfl rfl
 | jn _ _ _=>exact flat rfl rfl
 | cN _=>simp only [al] at h
theorem sK {x:AV} (h:aG x=true):iq x=true:=by
 rcases mj h with hf | ⟨l,τ,rfl⟩
 · cases x<;>simp_all [iq,a7,aG]
 · rfl
theorem sL {aC ts:au} {x:AV} (h:aG x=true):aG (bd aC ts x).1=true:=by
 cases x with
 | own l τ=>simp only [bd];split<;>rfl
 | cg l=>rfl
 | agg _=>simp [aG] at h
 | _=>exact h
theorem iJ:∀{xs:List AV} {vs:List Value} {aC ts:au} {m:Nat→Option Nat} {tks:List Tk},NS G aC ts m tks→xs.all aG=true→ae (num ns) G xs vs →
   ∃m' tks',w0 ns G m tks (aV aC ts xs).2.1 (aV aC ts xs).2.2 m' tks'∧ae (num ns) (G.kC m' tks') (aV aC ts xs).1 vs∧(aV aC ts xs).1.all aG=true
 | [],vs,aC,ts,m,tks,hN,_,h=>⟨m,tks,⟨hN,[],by simp⟩,by simpa only [aV,ae] using h,rfl⟩
 | x::xs,vs,aC,ts,m,tks,hN,hl,h=>by
   simp only [List.all_cons,Bool.and_eq_true] at hl
   simp only [ae] at h
   obtain ⟨v,r,e,e1,e2⟩:=h
   subst e
   obtain ⟨m1,t1,g1,g2⟩:=iI hN (sK hl.1) e1
   obtain ⟨m2,t2,k1,k2,k3⟩:=iJ g1.qt hl.2 e2
   refine ⟨m2,t2,⟨k1.qt,?_⟩,?_,?_⟩
   · obtain ⟨a,ha⟩:=g1.ext
     obtain ⟨b,hb⟩:=k1.ext
     exact ⟨a++b,by rw [hb,ha,List.append_assoc]⟩
   · simp only [aV,ae]
     exact ⟨v,r,rfl,g2.mono k1.le,k2⟩
   · simp only [aV,List.all_cons,k3,Bool.and_true]
     exact sL hl.1
theorem lr {a:Act}:∀{env:List (Nat×AV)} {aC ts:au} {m:Nat→Option Nat} {tks:List Tk},NS G aC ts m tks →
   (∀p∈env,iq p.2=true∧∃v,a.tmps[p.1]?=some v∧al (num ns) G p.2 v) →
   ∃m' tks',w0 ns G m tks (cE aC ts env).2.1 (cE aC ts env).2.2 m' tks'∧∀p∈(cE aC ts env).1,∃v,a.tmps[p.1]?=some v∧al (num ns) (G.kC m' tks') p.2 v
 | [],aC,ts,m,tks,hN,_=>⟨m,tks,⟨hN,[],by simp⟩,by simp [cE]⟩
 | (t,x)::env,aC,ts,m,tks,hN,h=>by
   obtain ⟨hx,v,hv,hr⟩:=h (t,x) (by simp)
   obtain ⟨m1,t1,g1,g2⟩:=iI hN hx hr
   obtain ⟨m2,t2,k1,k2⟩:=lr (env:=env) (a:=a) g1.qt (fun p hp=>h p (by simp [hp]))
   refine ⟨m2,t2,⟨k1.qt,?_⟩,?_⟩
   · obtain ⟨a,ha⟩:=g1.ext
     obtain ⟨b,hb⟩:=k1.ext
     exact ⟨a++b,by rw [hb,ha,List.append_assoc]⟩
   · intro p hp
     simp only [cE,List.mem_cons] at hp
     rcases hp with rfl | hp
     · exact ⟨v,hv,g2.mono k1.le⟩
     · exact k2 p hp
def DZ (ns:Names) (G:Gh) (w:World) (d:Nat) (cells:List AV) (G':Gh):Prop:=
 ∃b c t,G.pm d=some b∧G.role b=.jR d∧w.heap[b]?=some (.cells c t (0,0))∧ae (num ns) G' cells c.toList∧cells.all aG=true
theorem lx:∀{mem:List (Nat×List AV)} {aC ts:au} {m:Nat→Option Nat} {tks:List Tk},NS G aC ts m tks →
   (∀p∈mem,DZ ns G w p.1 p.2 G) →
   ∃m' tks',w0 ns G m tks (dI aC ts mem).2.1 (dI aC ts mem).2.2 m' tks'∧∀p∈(dI aC ts mem).1,DZ ns G w p.1 p.2 (G.kC m' tks')
 | [],aC,ts,m,tks,hN,_=>⟨m,tks,⟨hN,[],by simp⟩,by simp [dI]⟩
 | (d,cells)::mem,aC,ts,m,tks,hN,h=>by
   obtain ⟨b,c,t,h1,h2,h3,h4,h5⟩:=h (d,cells) (by simp)
   obtain ⟨m1,t1,g1,g2,g3⟩:=iJ hN h5 h4
   obtain ⟨m2,t2,k1,k2⟩:=lx (mem:=mem) g1.qt (fun p hp=>h p (by simp [hp]))
   refine ⟨m2,t2,⟨k1.qt,?_⟩,?_⟩
   · obtain ⟨a,ha⟩:=g1.ext
     obtain ⟨b,hb⟩:=k1.ext
     exact ⟨a++b,by rw [hb,ha,List.append_assoc]⟩
   · intro p hp
     simp only [dI,List.mem_cons] at hp
     rcases hp with rfl | hp
     · exact ⟨b,c,t,h1,h2,h3,ae.mono k1.le g2,g3⟩
     · exact k2 p hp
theorem sM {aC ts:au} {n:Nat} {x:AV} (h:aw n x=true):aw n (cM aC ts x).1=true:=by
 unfold cM
 split
 · split<;>simp [aw]
 · exact h
theorem ly {n:Nat}:∀{xs:List AV} {aC ts:au},aw.bR n xs=true→aw.bR n (bT aC ts xs).1=true
 | [],_,_,_=>rfl
 | x::xs,aC,ts,h=>by
   simp only [aw.bR,Bool.and_eq_true] at h
   simp only [bT,aw.bR,sM h.1,Bool.true_and]
   exact ly h.2
theorem sN {aC ts:au} {n:Nat} {x:AV} (h:aw n x=true):aw n (bd aC ts x).1=true:=by
 unfold bd
 split
 · split<;>simp [aw]
 · simp [aw]
 · split
   · exact h
   · simp only [aw] at h ⊢
     exact ly h
 · exact h
theorem ml {n:Nat}:∀{xs:List AV} {aC ts:au},xs.all (aw n)=true→(aV aC ts xs).1.all (aw n)=true
 | [],_,_,_=>rfl
 | x::xs,aC,ts,h=>by
   simp only [List.all_cons,Bool.and_eq_true] at h
   simp only [aV,List.all_cons,sN h.1,Bool.true_and]
   exact ml h.2
theorem gv:∀{sh:Sh} {aC ts:au} {m:Nat→Option Nat} {tks:List Tk} (R:Nat→Option (Obj×Nat)),NS G aC ts m tks →
   (∀s cells,sh[s]?=some (some cells)→cells.all aG=true∧∃o,R s=some o∧eT (num ns) G o.1 o.2 cells) →
   ∃m' tks',w0 ns G m tks (bQ aC ts sh).2.1 (bQ aC ts sh).2.2 m' tks'∧(bQ aC ts sh).1.length=sh.length ∧
     ∀s cells',(bQ aC ts sh).1[s]?=some (some cells')→∃cells,sh[s]?=some (some cells)∧(∃o,R s=some o∧eT (num ns) (G.kC m' tks') o.1 o.2 cells')∧cells'.all aG=true∧∀n,cells.all (aw n)=true→cells'.all (aw n)=true
 | [],aC,ts,m,tks,R,hN,_=>⟨m,tks,⟨hN,[],by simp⟩,rfl,fun s cells' h=>by simp [bQ] at h⟩
 | none::sh,aC,ts,m,tks,R,hN,h=>by
   obtain ⟨m1,t1,g1,g2,g3⟩:=gv (sh:=sh) (fun s=>R (s+1)) hN (fun s cells hs=>h (s+1) cells (by simpa using hs))
   refine ⟨m1,t1,g1,by simp [bQ,g2],fun s cells' hs=>?_⟩
   cases s with
   | zero=>simp [bQ] at hs
   | succ s=>
     obtain ⟨cells,k1,k2⟩:=g3 s cells' (by simpa [bQ] using hs)
     exact ⟨cells,by simpa using k1,k2⟩
 | some cs::sh,aC,ts,m,tks,R,hN,h=>by
   obtain ⟨hl,o,hR,hr⟩:=h 0 cs rfl
   obtain ⟨m1,t1,g1,g2,g3⟩:∃m' tks',w0 ns G m tks (aV aC ts cs).2.1 (aV aC ts cs).2.2 m' tks'∧eT (num ns) (G.kC m' tks') o.1 o.2 (aV aC ts cs).1∧(aV aC ts cs).1.all aG=true:=by
     rcases hr with ⟨c,t,vs,suf,ho,e3,e4,hr⟩ | ⟨es,clock,kvs,ho,rfl,hm⟩
     · obtain ⟨m1,t1,g1,g2,g3⟩:=iJ hN hl hr
       exact ⟨m1,t1,g1,.inl ⟨c,t,vs,suf,ho,e3,e4,g2⟩,g3⟩
     · exact ⟨m,tks,⟨hN,[],by simp⟩,.inr ⟨es,clock,kvs,ho,rfl,hm⟩,rfl⟩
   obtain ⟨m2,t2,k1,k2,k3⟩:=gv (sh:=sh) (fun s=>R (s+1)) g1.qt (fun s cells hs=>h (s+1) cells (by simpa using hs))
   refine ⟨m2,t2,⟨k1.qt,?_⟩,by simp [bQ,k2],fun s cells' hs=>?_⟩
   · obtain ⟨a,ha⟩:=g1.ext
     obtain ⟨b,hb⟩:=k1.ext
     exact ⟨a++b,by rw [hb,ha,List.append_assoc]⟩
   · cases s with
     | zero=>
       simp only [bQ,List.getElem?_cons_zero,Option.some.injEq] at hs
       subst hs
       exact ⟨cs,rfl,⟨o,hR,g2.mono k1.le⟩,g3,fun n hn=>ml hn⟩
     | succ s=>
       obtain ⟨cells,q1,q2⟩:=k3 s cells' (by simpa [bQ] using hs)
       exact ⟨cells,by simpa using q1,q2⟩
def hO (G:Gh) (w:World) (s:Nat):Option (Obj×Nat):=(G.sm s).bind fun b=>(w.heap[b.1]?).map fun o=>(o,b.2)
theorem Inv.hO {mem:List (Nat×List AV)} {sh:Sh} {aa:au} (hi:Inv (num ns) G w mem sh aa):∀s cells,sh[s]?=some (some cells)→cells.all aG=true∧∃o,Go.Ab.hO G w s=some o∧eT (num ns) G o.1 o.2 cells:=by
 intro s cells hs
 obtain ⟨b,e1,e2,e3,e4⟩:=hi.cL s cells hs
 obtain ⟨hr,o,hh,hrel⟩:=e2
 exact ⟨e3,(o,b.2),by simp [Go.Ab.hO,e1,hh],hrel⟩
theorem Inv.DF {mem:List (Nat×List AV)} {sh:Sh} {aa:au} (hi:Inv (num ns) G w mem sh aa) {sh':Sh} {G':Gh} (hsm:∀s,G'.sm s=G.sm s) (hrole:∀b s,G.role b=.shr s→G'.role b=.shr s)
   (h:∀s cells',sh'[s]?=some (some cells')→∃cells,sh[s]?=some (some cells)∧(∃o,Go.Ab.hO G w s=some o∧eT (num ns) G' o.1 o.2 cells')∧cells'.all aG=true∧∀n,cells.all (aw n)=true→cells'.all (aw n)=true) :
   ∀s cells,sh'[s]?=some (some cells)→∃b,G'.sm s=some b∧ot (num ns) G' w b (.shr s) cells∧cells.all cZ=true∧cells.all (aw (s+1))=true:=by
 intro s cells' hs
 obtain ⟨cells,h1,⟨o,h2,h2'⟩,h3,h4⟩:=h s cells' hs
 obtain ⟨b,e1,e2,e3,e4⟩:=hi.cL s cells h1
 simp only [Go.Ab.hO,e1,Option.bind_some,Option.map_eq_some_iff] at h2
 obtain ⟨o',h5,rfl⟩:=h2
 exact ⟨b,by rw [hsm];exact e1,⟨hrole b.1 s e2.role,o',h5,h2'⟩,h3,h4 _ e4⟩
theorem j9 {α:Type}:∀{l:List (Nat×α)} {t:Nat} {x:α},look l t=some x→(t,x)∈l
 | [],_,_,h=>by simp [look] at h
 | (s,y)::l,t,x,h=>by
   simp only [look] at h
   split at h
   · rename_i e;subst e;cases h;simp
   · exact List.mem_cons_of_mem _ (j9 h)
theorem mm:∀{mem:List (Nat×List AV)} {aC ts:au} {d:Nat},(look mem d).isSome=true→(look (dI aC ts mem).1 d).isSome=true
 | [],_,_,d,h=>by simp [look] at h
 | (s,y)::mem,aC,ts,d,h=>by
   simp only [dI,look] at h ⊢
   split
   · rfl
   · rename_i hne
     rw [if_neg hne] at h
     exact mm h
theorem NS.start {mem:List (Nat×List AV)} {sh:Sh} {aa:au} (hi:Inv (num ns) G w mem sh aa):NS G aa [] (fun _=>none) [] where
 ts:=rfl
 map:=by intro τ k h;simp at h
 inj:=by intro τ σ k h;simp at h
 free:=fun τ t h _=>hi.dL τ t h
 used:=by intro τ t k _ h;simp at h
 cap:=by intro k t h;simp at h
theorem dq {live:List Nat} {env:List (Nat×AV)}:∀{l:List Nat} {p:Nat×AV},p∈bm live env l→look env p.1=some p.2∧df live p.2=true
 | [],p,h=>by simp [bm] at h
 | s::l,p,h=>by
   simp only [bm] at h
   split at h
   · rename_i u hu
     split at h
     · rename_i hk
       simp only [List.mem_cons] at h
       rcases h with rfl | h
       · exact ⟨hu,hk⟩
       · exact dq h
     · exact dq h
   · exact dq h
theorem e7 {mem:List (Nat×List AV)}:∀{l:List Nat} {p:Nat×List AV},p∈bn mem l→look mem p.1=some p.2∧p.1∈l
 | [],p,h=>by simp [bn] at h
 | s::l,p,h=>by
   simp only [bn] at h
   split at h
   · rename_i u hu
     simp only [List.mem_cons] at h
     rcases h with rfl | h
     · exact ⟨hu,by simp⟩
     · obtain ⟨h1,h2⟩:=e7 h;exact ⟨h1,by simp [h2]⟩
   · obtain ⟨h1,h2⟩:=e7 h;exact ⟨h1,by simp [h2]⟩
theorem eU.head {n0 N:Nat} {st:St} {a:Act} (h:eU (num ns) n0 N G st a w) (live:List Nat):∃G',eU (num ns) n0 N G' (norm (Go.Ab.restrict live st)) a w∧bz G w G' w:=by
 have h0:=h.restrict live
 have hi:=h0.inv
 have hE:∀p∈(Go.Ab.restrict live st).env,iq p.2=true∧∃v,a.tmps[p.1]?=some v∧al (num ns) (G.aF live) p.2 v:=by
   intro p hp
   obtain ⟨h1,h2⟩:=dq hp
   obtain ⟨v,h3,h4⟩:=h.env.env p.1 p.2 h1
   refine ⟨?_,v,h3,qp h2 h4⟩
   cases hpx:p.2<;>rw [hpx] at h2<;>simp_all [iq,df,a7]
 have hM:∀p∈(Go.Ab.restrict live st).mem,DZ ns (G.aF live) w p.1 p.2 (G.aF live):=by
   intro p hp
   obtain ⟨h1,h2⟩:=e7 hp
   have h3:look (Go.Ab.restrict live st).mem p.1=some p.2:=by
     show look (bn st.mem live) p.1=some p.2
     rw [cQ,if_pos h2,h1]
   obtain ⟨b,e1,e2,e3⟩:=hi.bZ p.1 p.2 h3
   obtain ⟨hr,c,t,hh,hrel⟩:=e2
   exact ⟨b,c,t,e1,hr,hh,hrel,e3⟩
 obtain ⟨m1,t1,g1,g2⟩:=lr (NS.start hi) hE
 obtain ⟨m3,t3,k1,k2⟩:=lx (w:=w) g1.qt hM
 obtain ⟨m2,t2,q1,q2,q3⟩:=gv (hO (G.aF live) w) k1.qt hi.hO
 have hN:=q1.qt
 have hle3:=q1.le
 have hle:=Gh.le_trans k1.le q1.le
 have hrole:∀b r,(G.aF live).role b=r→(∀τ,r≠.tok τ)→((G.aF live).kC m2 t2).role b=r:=by
   intro b r hr hn
   show (match (G.aF live).role b with | .tok τ=>(match m2 τ with | some k=>iB.tok k | none=>.cX) | r=>r)=r
   rw [hr]
   cases r with
   | tok τ=>exact absurd rfl (hn τ)
   | _=>rfl
 have hevo:bz G w ((G.aF live).kC m2 t2) w:={
   size:=Nat.le_refl _,os:=rfl,tape:=rfl,output:=rfl,K:=aU.le_refl G.K,sm:=fun _ _ h=>h,
   cX:=fun b _ hr=>⟨hrole b _ hr (by simp),rfl⟩
   fe:=fun b τ _ hr=>by
     have hr':(G.aF live).role b=.tok τ:=hr
     rw [hH hr']
     cases m2 τ with
     | none=>exact .inl rfl
     | some k=>exact .inr ⟨k,rfl⟩
   eE:=fun _ _ _ _ _ h=>h }
 refine ⟨(G.aF live).kC m2 t2,⟨⟨h.env.size,fun t x hx=>?_⟩,?_,h.marks.sv hevo rfl⟩,hevo⟩
 · obtain ⟨v,h1,h2⟩:=g2 (t,x) (j9 hx)
   exact ⟨v,h1,h2.mono hle⟩
 · constructor
   · exact hi.known
   · intro b o v hk
     rcases hi.aM b o v hk with h1 | ⟨τ,h1⟩
     · exact .inl (hrole b _ h1 (by simp))
     · rw [hH h1]
       cases m2 τ with
       | none=>exact .inl rfl
       | some k=>exact .inr ⟨k,rfl⟩
   · intro b hb;exact hrole b _ (hi.fresh b hb) (by simp)
   · intro d cells hd
     obtain ⟨b,c,t,h1,h2,h3,h4,h5⟩:=k2 (d,cells) (j9 hd)
     exact ⟨b,h1,⟨hrole b _ h2 (by simp),c,t,h3,ae.mono hle3 h4⟩,h5⟩
   · intro d b hd
     exact mm (hi.eN d b hd)
   · exact hi.DF (G':=(G.aF live).kC m2 t2) (fun _=>rfl) (fun b s hr=>hrole b _ hr (by simp)) q3
   · intro s b hs
     have:=hi.dT s b hs
     have e:(norm (Go.Ab.restrict live st)).sh.length=(Go.Ab.restrict live st).sh.length:=q2
     omega
   · intro k n hn
     have hts:(norm (Go.Ab.restrict live st)).aa=t2.map (·.len):=hN.ts
     rw [hts,List.getElem?_map,Option.map_eq_some_iff] at hn
     obtain ⟨t,ht,rfl⟩:=hn
     refine ⟨t,ht,rfl,?_⟩
     rcases hN.cap k t ht with ⟨τ,hτ⟩ | hc
     · obtain ⟨t',h1,h2⟩:=hN.map τ k hτ
       rw [ht] at h2;cases h2
       obtain ⟨t'',e1,e2,e3⟩:=hi.cn τ _ (hi.dL τ t h1)
       rw [h1] at e1;cases e1
       refine ⟨e3.cap,e3.zero,fun hlt=>?_⟩
       obtain ⟨b,o,c,ty,f1,f2,f3,f4,f5⟩:=e3.spare hlt
       refine ⟨b,o,c,ty,f1,?_,f3,f4,f5⟩
       rw [hH f2,hτ]
     · exact ⟨by omega,fun h=>by omega,fun h=>h.elim (fun h=>by omega) (fun h=>by rw [hc.2] at h;cases h)⟩
   · intro k t ht
     have hts:(norm (Go.Ab.restrict live st)).aa=t2.map (·.len):=hN.ts
     rw [hts,List.getElem?_map]
     have ht':t2[k]?=some t:=ht
     rw [ht'];rfl
end
end Go.Ab
