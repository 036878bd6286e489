import Derived.Test.YtcjggpmnbcfedaaGreatDoorAbNorm
/-
  Tokens named anew.
-/
set_option linter.unusedVariables false
set_option linter.unusedSimpArgs false
set_option linter.unnecessarySimpa false
set_option maxRecDepth 100000
set_option maxHeartbeats 8000000
namespace Go.Ab
section
variable {ns:Names} {G:Gh} {w:World}
structure NS (G:Gh) (aQ ts:aH) (m:Nat→Option Nat) (tks:List Tk):Prop where
 ts:ts=tks.map (·.len)
 map:∀τ k,m τ=some k→∃t,G.tk τ=some t∧tks[k]?=some t
 inj:∀τ σ k,m τ=some k→m σ=some k→τ=σ
 free:∀τ t,G.tk τ=some t→m τ=none→aQ[τ]?=some t.len
 used:∀τ t k,G.tk τ=some t→m τ=some k→aQ[τ]?=some (t.len+1)
 cap:∀k t,tks[k]?=some t→(∃τ,m τ=some k)∨(t.cap=t.len∧t.own=false)
def Gh.mF (G:Gh) (m:Nat→Option Nat) (tks:List Tk):Gh:=
 { G with tk:=fun k=>tks[k]?,role:=fun b=>match G.role b with | .tok τ=>(match m τ with | some k=>.tok k | none=>.d_) | r=>r }
theorem PH {m m':Nat→Option Nat} {tks ext:List Tk}:(G.mF m tks).le (G.mF m' (tks++ext)) where
 K:=bB.le_refl G.K
 pm:=fun _ _ h=>h
 sm:=fun _ _ h=>h
 tk:=fun k t h=>⟨t,by
   simp only [Gh.mF] at h ⊢
   rw [List.getElem?_append_left (List.getElem?_eq_some_iff.1 h).1];exact h,⟨Nat.le_refl _,Tk.gZ _⟩,fun _=>rfl⟩
theorem yC {ρ:cr} {m:Nat→Option Nat} {tks:List Tk} {x:AV} {v:Value} (hf:bP x=true) (h:au ρ G x v):au ρ (G.mF m tks) x v:=
 gQ (G:=G) (G':=G.mF m tks) (bB.le_refl G.K) (fun _ _ h=>h) hf h
theorem kT {m:Nat→Option Nat} {tks:List Tk} {b τ:Nat} (h:G.role b=.tok τ):(G.mF m tks).role b=match m τ with | some k=>.tok k | none=>.d_:=by
 show (match G.role b with | .tok τ=>(match m τ with | some k=>lX.tok k | none=>.d_) | r=>r)=_
 rw [h]
def lD:AV→Bool
 | .aB .. | .ji .. | .own ..=>true
 | .agg cs=>fH cs
 | v=>bP v
structure FG (ns:Names) (G:Gh) (m:Nat→Option Nat) (tks:List Tk) (old' ts':aH) (m':Nat→Option Nat) (tks':List Tk):Prop where
 yD:NS G old' ts' m' tks'
 ext:∃ext,tks'=tks++ext
theorem FG.le {m m':Nat→Option Nat} {tks tks':List Tk} {old' ts':aH} (h:FG ns G m tks old' ts' m' tks'):(G.mF m tks).le (G.mF m' tks'):=by
 obtain ⟨ext,e⟩:=h.ext
 subst e
 exact PH
theorem qE {aQ ts:aH} {m:Nat→Option Nat} {tks:List Tk} (hN:NS G aQ ts m tks) {x:AV} {v:Value} (hx:gi x=true) (h:au (num ns) G x v) :
   ∃m' tks',FG ns G m tks (d4 aQ ts x).2.1 (d4 aQ ts x).2.2 m' tks'∧au (num ns) (G.mF m' tks') (d4 aQ ts x).1 v:=by
 have flat:bP x=true→d4 aQ ts x=(x,aQ,ts)→∃m' tks',FG ns G m tks (d4 aQ ts x).2.1 (d4 aQ ts x).2.2 m' tks'∧au (num ns) (G.mF m' tks') (d4 aQ ts x).1 v:=by
   intro hf e
   rw [e]
   exact ⟨m,tks,⟨hN,[],by simp⟩,yC hf h⟩
 cases x with
 | own l τ=>
   simp only [au] at h
   obtain ⟨t,e1,e2,e3,e4⟩:=h
   simp only [d4]
   split
   · rename_i ho
     have hm:m τ=none:=by
       cases hm:m τ with
       | none=>rfl
       | some k=>
         have:=hN.used τ t k e1 hm
         rw [ho] at this
         simp at this
         omega
     have hlen:l.length=t.len:=by
       have:=hN.free τ t e1 hm
       rw [ho] at this
       simpa using this
     have hk:ts.length=tks.length:=by rw [hN.ts];simp
     refine ⟨fun σ=>if σ=τ then some tks.length else m σ,tks++[t],⟨⟨?_,?_,?_,?_,?_,?_⟩,[t],rfl⟩,?_⟩
     · rw [hN.ts,hlen];simp
     · intro σ k hk'
       split at hk'
       · rename_i e;subst e;simp at hk';subst hk';exact ⟨t,e1,by simp⟩
       · obtain ⟨t',g1,g2⟩:=hN.map σ k hk'
         exact ⟨t',g1,by rw [List.getElem?_append_left (List.getElem?_eq_some_iff.1 g2).1];exact g2⟩
     · intro σ σ' k h1 h2
       split at h1
       · rename_i e;subst e
         split at h2
         · rename_i e';exact e'.symm
         · simp at h1;subst h1
           obtain ⟨t',_,g2⟩:=hN.map σ' _ h2
           have:=(List.getElem?_eq_some_iff.1 g2).1
           omega
       · split at h2
         · rename_i e';subst e'
           simp at h2;subst h2
           obtain ⟨t',_,g2⟩:=hN.map σ _ h1
           have:=(List.getElem?_eq_some_iff.1 g2).1
           omega
         · exact hN.inj σ σ' k h1 h2
     · intro σ t' h1 h2
       split at h2
       · simp at h2
       · rename_i e
         rw [List.getElem?_set,if_neg (fun e'=>e e'.symm)]
         exact hN.free σ t' h1 h2
     · intro σ t' k h1 h2
       split at h2
       · rename_i e;subst e
         rw [e1] at h1;cases h1
         rw [List.getElem?_set,if_pos rfl,if_pos (List.getElem?_eq_some_iff.1 ho).1,hlen]
       · rename_i e
         rw [List.getElem?_set,if_neg (fun e'=>e e'.symm)]
         exact hN.used σ t' k h1 h2
     · intro k t' hk'
       rw [List.getElem?_append] at hk'
       split at hk'
       · rcases hN.cap k t' hk' with ⟨σ,hσ⟩ | hc
         · left
           refine ⟨σ,?_⟩
           rw [if_neg]
           · exact hσ
           · rintro rfl;rw [hm] at hσ;simp at hσ
         · exact .inr hc
       · rename_i hge
         left
         refine ⟨τ,?_⟩
         have:k=tks.length:=by
           have:=(List.getElem?_eq_some_iff.1 hk').1
           simp at this;omega
         simp [this]
     · simp only [au]
       refine ⟨t,by simp [Gh.mF,hk],⟨by omega,e2.2⟩,e3,fun _=>e4 hlen⟩
   · exact ⟨m,tks,⟨hN,[],by simp⟩,by simp only [au];exact e3⟩
 | _=>exact flat (by simpa [gi] using hx) rfl
theorem oK:∀{xs:List AV} {vs:List Value} {aQ ts:aH} {m:Nat→Option Nat} {tks:List Tk},NS G aQ ts m tks→fH xs=true→aw (num ns) G xs vs →
   ∃m' tks',FG ns G m tks (dc aQ ts xs).2.1 (dc aQ ts xs).2.2 m' tks'∧aw (num ns) (G.mF m' tks') (dc aQ ts xs).1 vs
 | [],vs,aQ,ts,m,tks,hN,_,h=>⟨m,tks,⟨hN,[],by simp⟩,by simpa only [dc,aw] using h⟩
 | x::xs,vs,aQ,ts,m,tks,hN,hl,h=>by
   simp only [fH,Bool.and_eq_true] at hl
   simp only [aw] at h
   obtain ⟨v,r,e,e1,e2⟩:=h
   subst e
   obtain ⟨m1,t1,g1,g2⟩:=qE hN hl.1 e1
   obtain ⟨m2,t2,k1,k2⟩:=oK g1.yD hl.2 e2
   refine ⟨m2,t2,⟨k1.yD,?_⟩,?_⟩
   · obtain ⟨a,ha⟩:=g1.ext
     obtain ⟨b,hb⟩:=k1.ext
     exact ⟨a++b,by rw [hb,ha,List.append_assoc]⟩
   · simp only [dc,aw]
     exact ⟨v,r,rfl,g2.mono k1.le,k2⟩
theorem l8 {aQ ts:aH} {m:Nat→Option Nat} {tks:List Tk} (hN:NS G aQ ts m tks) {x:AV} {v:Value} (hx:lD x=true) (h:au (num ns) G x v) :
   ∃m' tks',FG ns G m tks (bX aQ ts x).2.1 (bX aQ ts x).2.2 m' tks'∧au (num ns) (G.mF m' tks') (bX aQ ts x).1 v:=by
 have flat:bP x=true→bX aQ ts x=(x,aQ,ts)→∃m' tks',FG ns G m tks (bX aQ ts x).2.1 (bX aQ ts x).2.2 m' tks'∧au (num ns) (G.mF m' tks') (bX aQ ts x).1 v:=by
   intro hf e
   rw [e]
   exact ⟨m,tks,⟨hN,[],by simp⟩,yC hf h⟩
 cases x with
 | own l τ=>exact qE (x:=.own l τ) hN rfl h
 | bJ l=>
   simp only [au] at h
   obtain ⟨base,len,rfl,hsl⟩:=h
   have hk:ts.length=tks.length:=by rw [hN.ts];simp
   have hlen:=hsl.1
   obtain ⟨sz,hrow⟩:∃sz,l=[]∨∃b o,base=some ⟨b,o,none⟩∧Row G.K b o sz l:=by
     rcases hsl.2 with h1 | ⟨b,o,sz,e,hr⟩
     · exact ⟨0,.inl h1⟩
     · exact ⟨sz,.inr ⟨b,o,e,hr⟩⟩
   let t:Tk:=⟨base,len,len,sz,false⟩
   refine ⟨m,tks++[t],⟨⟨?_,?_,hN.inj,hN.free,hN.used,?_⟩,[t],rfl⟩,?_⟩
   · simp only [bX];rw [hN.ts];simp [t,hlen]
   · intro σ k hk'
     obtain ⟨t',g1,g2⟩:=hN.map σ k hk'
     exact ⟨t',g1,by rw [List.getElem?_append_left (List.getElem?_eq_some_iff.1 g2).1];exact g2⟩
   · intro k t' hk'
     rw [List.getElem?_append] at hk'
     split at hk'
     · exact hN.cap k t' hk'
     · right
       have:t'=t:=by
         have h1:=List.mem_of_getElem? hk'
         simpa using h1
       rw [this];exact ⟨rfl,rfl⟩
   · simp only [bX,au]
     refine ⟨t,by simp [Gh.mF,hk],⟨by simp [t,hlen],t.rp⟩,cC.2 ⟨_,_,_,rfl,Nat.le_refl _,hsl⟩,fun _=>⟨rfl,hrow⟩⟩
 | aB d o=>
   simp only [bX]
   exact ⟨m,tks,⟨hN,[],by simp⟩,by simp only [au] at h ⊢;exact h⟩
 | ji d o=>
   simp only [bX]
   exact ⟨m,tks,⟨hN,[],by simp⟩,by simp only [au] at h ⊢;exact h⟩
 | pv p=>exact flat rfl rfl
 | un=>exact flat rfl rfl
 | aZ _ _=>exact flat rfl rfl
 | bz _ _ _ _=>exact flat rfl rfl
 | dG _=>exact flat rfl rfl
 | dS=>exact flat rfl rfl
 | fn _ _=>exact flat (by simpa [lD] using hx) rfl
 | agg cs=>
   by_cases hf:bP.eW cs=true
   · exact flat (by simpa [bP] using hf) (by simp only [bX];rw [if_pos hf])
   · simp only [au] at h
     obtain ⟨vs,rfl,r⟩:=h
     obtain ⟨m',tks',g1,g2⟩:=oK hN (by simpa [lD] using hx) r
     have e:bX aQ ts (.agg cs)=(.agg (dc aQ ts cs).1,(dc aQ ts cs).2.1,(dc aQ ts cs).2.2):=by simp only [bX];rw [if_neg hf]
     rw [e]
     exact ⟨m',tks',g1,by simp only [au];exact ⟨vs,rfl,g2⟩⟩
 | nf _=>exact flat (by simpa [lD] using hx) rfl
 | dj _=>exact flat rfl rfl
 | nv _ _ _=>exact flat rfl rfl
 | dQ _=>simp only [au] at h
theorem Bh {x:AV} (h:bm x=true):lD x=true:=by
 rcases nG h with hf | ⟨l,τ,rfl⟩
 · cases x<;>simp_all [lD,bP,bm]
 · rfl
theorem Bi {aQ ts:aH} {x:AV} (h:bm x=true):bm (bX aQ ts x).1=true:=by
 cases x with
 | own l τ=>simp only [bX];split<;>rfl
 | bJ l=>rfl
 | agg _=>simp [bm] at h
 | _=>exact h
theorem l9:∀{xs:List AV} {vs:List Value} {aQ ts:aH} {m:Nat→Option Nat} {tks:List Tk},NS G aQ ts m tks→xs.all bm=true→aw (num ns) G xs vs →
   ∃m' tks',FG ns G m tks (bI aQ ts xs).2.1 (bI aQ ts xs).2.2 m' tks'∧aw (num ns) (G.mF m' tks') (bI aQ ts xs).1 vs∧(bI aQ ts xs).1.all bm=true
 | [],vs,aQ,ts,m,tks,hN,_,h=>⟨m,tks,⟨hN,[],by simp⟩,by simpa only [bI,aw] using h,rfl⟩
 | x::xs,vs,aQ,ts,m,tks,hN,hl,h=>by
   simp only [List.all_cons,Bool.and_eq_true] at hl
   simp only [aw] at h
   obtain ⟨v,r,e,e1,e2⟩:=h
   subst e
   obtain ⟨m1,t1,g1,g2⟩:=l8 hN (Bh hl.1) e1
   obtain ⟨m2,t2,k1,k2,k3⟩:=l9 g1.yD hl.2 e2
   refine ⟨m2,t2,⟨k1.yD,?_⟩,?_,?_⟩
   · obtain ⟨a,ha⟩:=g1.ext
     obtain ⟨b,hb⟩:=k1.ext
     exact ⟨a++b,by rw [hb,ha,List.append_assoc]⟩
   · simp only [bI,aw]
     exact ⟨v,r,rfl,g2.mono k1.le,k2⟩
   · simp only [bI,List.all_cons,k3,Bool.and_true]
     exact Bi hl.1
theorem qF {a:Act}:∀{env:List (Nat×AV)} {aQ ts:aH} {m:Nat→Option Nat} {tks:List Tk},NS G aQ ts m tks →
   (∀p∈env,lD p.2=true∧∃v,a.tmps[p.1]?=some v∧au (num ns) G p.2 v) →
   ∃m' tks',FG ns G m tks (dU aQ ts env).2.1 (dU aQ ts env).2.2 m' tks'∧∀p∈(dU aQ ts env).1,∃v,a.tmps[p.1]?=some v∧au (num ns) (G.mF m' tks') p.2 v
 | [],aQ,ts,m,tks,hN,_=>⟨m,tks,⟨hN,[],by simp⟩,by simp [dU]⟩
 | (t,x)::env,aQ,ts,m,tks,hN,h=>by
   obtain ⟨hx,v,hv,hr⟩:=h (t,x) (by simp)
   obtain ⟨m1,t1,g1,g2⟩:=l8 hN hx hr
   obtain ⟨m2,t2,k1,k2⟩:=qF (env:=env) (a:=a) g1.yD (fun p hp=>h p (by simp [hp]))
   refine ⟨m2,t2,⟨k1.yD,?_⟩,?_⟩
   · obtain ⟨a,ha⟩:=g1.ext
     obtain ⟨b,hb⟩:=k1.ext
     exact ⟨a++b,by rw [hb,ha,List.append_assoc]⟩
   · intro p hp
     simp only [dU,List.mem_cons] at hp
     rcases hp with rfl | hp
     · exact ⟨v,hv,g2.mono k1.le⟩
     · exact k2 p hp
def PI (ns:Names) (G:Gh) (w:World) (d:Nat) (cells:List AV) (G':Gh):Prop:=
 ∃b c t,G.pm d=some b∧G.role b=.lK d∧w.heap[b]?=some (.cells c t (0,0))∧aw (num ns) G' cells c.toList∧cells.all bm=true
theorem qG:∀{mem:List (Nat×List AV)} {aQ ts:aH} {m:Nat→Option Nat} {tks:List Tk},NS G aQ ts m tks →
   (∀p∈mem,PI ns G w p.1 p.2 G) →
   ∃m' tks',FG ns G m tks (fM aQ ts mem).2.1 (fM aQ ts mem).2.2 m' tks'∧∀p∈(fM aQ ts mem).1,PI ns G w p.1 p.2 (G.mF m' tks')
 | [],aQ,ts,m,tks,hN,_=>⟨m,tks,⟨hN,[],by simp⟩,by simp [fM]⟩
 | (d,cells)::mem,aQ,ts,m,tks,hN,h=>by
   obtain ⟨b,c,t,h1,h2,h3,h4,h5⟩:=h (d,cells) (by simp)
   obtain ⟨m1,t1,g1,g2,g3⟩:=l9 hN h5 h4
   obtain ⟨m2,t2,k1,k2⟩:=qG (mem:=mem) g1.yD (fun p hp=>h p (by simp [hp]))
   refine ⟨m2,t2,⟨k1.yD,?_⟩,?_⟩
   · obtain ⟨a,ha⟩:=g1.ext
     obtain ⟨b,hb⟩:=k1.ext
     exact ⟨a++b,by rw [hb,ha,List.append_assoc]⟩
   · intro p hp
     simp only [fM,List.mem_cons] at hp
     rcases hp with rfl | hp
     · exact ⟨b,c,t,h1,h2,h3,aw.mono k1.le g2,g3⟩
     · exact k2 p hp
theorem Bj {aQ ts:aH} {n:Nat} {x:AV} (h:aM n x=true):aM n (d4 aQ ts x).1=true:=by
 unfold d4
 split
 · split<;>simp [aM]
 · exact h
theorem qH {n:Nat}:∀{xs:List AV} {aQ ts:aH},aM.cU n xs=true→aM.cU n (dc aQ ts xs).1=true
 | [],_,_,_=>rfl
 | x::xs,aQ,ts,h=>by
   simp only [aM.cU,Bool.and_eq_true] at h
   simp only [dc,aM.cU,Bj h.1,Bool.true_and]
   exact qH h.2
theorem Bk {aQ ts:aH} {n:Nat} {x:AV} (h:aM n x=true):aM n (bX aQ ts x).1=true:=by
 unfold bX
 split
 · split<;>simp [aM]
 · simp [aM]
 · split
   · exact h
   · simp only [aM] at h ⊢
     exact qH h
 · exact h
theorem sq {n:Nat}:∀{xs:List AV} {aQ ts:aH},xs.all (aM n)=true→(bI aQ ts xs).1.all (aM n)=true
 | [],_,_,_=>rfl
 | x::xs,aQ,ts,h=>by
   simp only [List.all_cons,Bool.and_eq_true] at h
   simp only [bI,List.all_cons,Bk h.1,Bool.true_and]
   exact sq h.2
theorem jU:∀{sh:Sh} {aQ ts:aH} {m:Nat→Option Nat} {tks:List Tk} (R:Nat→Option (Obj×Nat)),NS G aQ ts m tks →
   (∀s cells,sh[s]?=some (some cells)→cells.all bm=true∧∃o,R s=some o∧iu (num ns) G o.1 o.2 cells) →
   ∃m' tks',FG ns G m tks (cf aQ ts sh).2.1 (cf aQ ts sh).2.2 m' tks'∧(cf aQ ts sh).1.length=sh.length ∧
     ∀s cells',(cf aQ ts sh).1[s]?=some (some cells')→∃cells,sh[s]?=some (some cells)∧(∃o,R s=some o∧iu (num ns) (G.mF m' tks') o.1 o.2 cells')∧cells'.all bm=true∧∀n,cells.all (aM n)=true→cells'.all (aM n)=true
 | [],aQ,ts,m,tks,R,hN,_=>⟨m,tks,⟨hN,[],by simp⟩,rfl,fun s cells' h=>by simp [cf] at h⟩
 | none::sh,aQ,ts,m,tks,R,hN,h=>by
   obtain ⟨m1,t1,g1,g2,g3⟩:=jU (sh:=sh) (fun s=>R (s+1)) hN (fun s cells hs=>h (s+1) cells (by simpa using hs))
   refine ⟨m1,t1,g1,by simp [cf,g2],fun s cells' hs=>?_⟩
   cases s with
   | zero=>simp [cf] at hs
   | succ s=>
     obtain ⟨cells,k1,k2⟩:=g3 s cells' (by simpa [cf] using hs)
     exact ⟨cells,by simpa using k1,k2⟩
 | some cs::sh,aQ,ts,m,tks,R,hN,h=>by
   obtain ⟨hl,o,hR,hr⟩:=h 0 cs rfl
   obtain ⟨m1,t1,g1,g2,g3⟩:∃m' tks',FG ns G m tks (bI aQ ts cs).2.1 (bI aQ ts cs).2.2 m' tks'∧iu (num ns) (G.mF m' tks') o.1 o.2 (bI aQ ts cs).1∧(bI aQ ts cs).1.all bm=true:=by
     rcases hr with ⟨c,t,vs,suf,ho,e3,e4,hr⟩ | ⟨es,clock,kvs,ho,rfl,hm⟩
     · obtain ⟨m1,t1,g1,g2,g3⟩:=l9 hN hl hr
       exact ⟨m1,t1,g1,.inl ⟨c,t,vs,suf,ho,e3,e4,g2⟩,g3⟩
     · exact ⟨m,tks,⟨hN,[],by simp⟩,.inr ⟨es,clock,kvs,ho,rfl,hm⟩,rfl⟩
   obtain ⟨m2,t2,k1,k2,k3⟩:=jU (sh:=sh) (fun s=>R (s+1)) g1.yD (fun s cells hs=>h (s+1) cells (by simpa using hs))
   refine ⟨m2,t2,⟨k1.yD,?_⟩,by simp [cf,k2],fun s cells' hs=>?_⟩
   · obtain ⟨a,ha⟩:=g1.ext
     obtain ⟨b,hb⟩:=k1.ext
     exact ⟨a++b,by rw [hb,ha,List.append_assoc]⟩
   · cases s with
     | zero=>
       simp only [cf,List.getElem?_cons_zero,Option.some.injEq] at hs
       subst hs
       exact ⟨cs,rfl,⟨o,hR,g2.mono k1.le⟩,g3,fun n hn=>sq hn⟩
     | succ s=>
       obtain ⟨cells,q1,q2⟩:=k3 s cells' (by simpa [cf] using hs)
       exact ⟨cells,by simpa using q1,q2⟩
def kU (G:Gh) (w:World) (s:Nat):Option (Obj×Nat):=(G.sm s).bind fun b=>(w.heap[b.1]?).map fun o=>(o,b.2)
theorem Inv.kU {mem:List (Nat×List AV)} {sh:Sh} {ae:aH} (hi:Inv (num ns) G w mem sh ae):∀s cells,sh[s]?=some (some cells)→cells.all bm=true∧∃o,Go.Ab.kU G w s=some o∧iu (num ns) G o.1 o.2 cells:=by
 intro s cells hs
 obtain ⟨b,e1,e2,e3,e4⟩:=hi.dp s cells hs
 obtain ⟨hr,o,hh,hrel⟩:=e2
 exact ⟨e3,(o,b.2),by simp [Go.Ab.kU,e1,hh],hrel⟩
theorem Inv.OO {mem:List (Nat×List AV)} {sh:Sh} {ae:aH} (hi:Inv (num ns) G w mem sh ae) {sh':Sh} {G':Gh} (hsm:∀s,G'.sm s=G.sm s) (hrole:∀b s,G.role b=.shr s→G'.role b=.shr s)
   (h:∀s cells',sh'[s]?=some (some cells')→∃cells,sh[s]?=some (some cells)∧(∃o,Go.Ab.kU G w s=some o∧iu (num ns) G' o.1 o.2 cells')∧cells'.all bm=true∧∀n,cells.all (aM n)=true→cells'.all (aM n)=true) :
   ∀s cells,sh'[s]?=some (some cells)→∃b,G'.sm s=some b∧vZ (num ns) G' w b (.shr s) cells∧cells.all dv=true∧cells.all (aM (s+1))=true:=by
 intro s cells' hs
 obtain ⟨cells,h1,⟨o,h2,h2'⟩,h3,h4⟩:=h s cells' hs
 obtain ⟨b,e1,e2,e3,e4⟩:=hi.dp s cells h1
 simp only [Go.Ab.kU,e1,Option.bind_some,Option.map_eq_some_iff] at h2
 obtain ⟨o',h5,rfl⟩:=h2
 exact ⟨b,by rw [hsm];exact e1,⟨hrole b.1 s e2.role,o',h5,h2'⟩,h3,h4 _ e4⟩
theorem oL {α:Type}:∀{l:List (Nat×α)} {t:Nat} {x:α},look l t=some x→(t,x)∈l
 | [],_,_,h=>by simp [look] at h
 | (s,y)::l,t,x,h=>by
   simp only [look] at h
   split at h
   · rename_i e;subst e;cases h;simp
   · exact List.mem_cons_of_mem _ (oL h)
theorem sr:∀{mem:List (Nat×List AV)} {aQ ts:aH} {d:Nat},(look mem d).isSome=true→(look (fM aQ ts mem).1 d).isSome=true
 | [],_,_,d,h=>by simp [look] at h
 | (s,y)::mem,aQ,ts,d,h=>by
   simp only [fM,look] at h ⊢
   split
   · rfl
   · rename_i hne
     rw [if_neg hne] at h
     exact sr h
theorem NS.start {mem:List (Nat×List AV)} {sh:Sh} {ae:aH} (hi:Inv (num ns) G w mem sh ae):NS G ae [] (fun _=>none) [] where
 ts:=rfl
 map:=by intro τ k h;simp at h
 inj:=by intro τ σ k h;simp at h
 free:=fun τ t h _=>hi.fo τ t h
 used:=by intro τ t k _ h;simp at h
 cap:=by intro k t h;simp at h
theorem eY {live:List Nat} {env:List (Nat×AV)}:∀{l:List Nat} {p:Nat×AV},p∈ca live env l→look env p.1=some p.2∧dR live p.2=true
 | [],p,h=>by simp [ca] at h
 | s::l,p,h=>by
   simp only [ca] at h
   split at h
   · rename_i u hu
     split at h
     · rename_i hk
       simp only [List.mem_cons] at h
       rcases h with rfl | h
       · exact ⟨hu,hk⟩
       · exact eY h
     · exact eY h
   · exact eY h
theorem iU {mem:List (Nat×List AV)}:∀{l:List Nat} {p:Nat×List AV},p∈cg mem l→look mem p.1=some p.2∧p.1∈l
 | [],p,h=>by simp [cg] at h
 | s::l,p,h=>by
   simp only [cg] at h
   split at h
   · rename_i u hu
     simp only [List.mem_cons] at h
     rcases h with rfl | h
     · exact ⟨hu,by simp⟩
     · obtain ⟨h1,h2⟩:=iU h;exact ⟨h1,by simp [h2]⟩
   · obtain ⟨h1,h2⟩:=iU h;exact ⟨h1,by simp [h2]⟩
theorem fZ.head {n0 N:Nat} {st:St} {a:Act} (h:fZ (num ns) n0 N G st a w) (live:List Nat):∃G',fZ (num ns) n0 N G' (norm (Go.Ab.restrict live st)) a w∧bZ G w G' w:=by
 have h0:=h.restrict live
 have hi:=h0.inv
 have hE:∀p∈(Go.Ab.restrict live st).env,lD p.2=true∧∃v,a.tmps[p.1]?=some v∧au (num ns) (G.bl live) p.2 v:=by
   intro p hp
   obtain ⟨h1,h2⟩:=eY hp
   obtain ⟨v,h3,h4⟩:=h.env.env p.1 p.2 h1
   refine ⟨?_,v,h3,yB h2 h4⟩
   cases hpx:p.2<;>rw [hpx] at h2<;>simp_all [lD,dR,bP]
 have hM:∀p∈(Go.Ab.restrict live st).mem,PI ns (G.bl live) w p.1 p.2 (G.bl live):=by
   intro p hp
   obtain ⟨h1,h2⟩:=iU hp
   have h3:look (Go.Ab.restrict live st).mem p.1=some p.2:=by
     show look (cg st.mem live) p.1=some p.2
     rw [d6,if_pos h2,h1]
   obtain ⟨b,e1,e2,e3⟩:=hi.cW p.1 p.2 h3
   obtain ⟨hr,c,t,hh,hrel⟩:=e2
   exact ⟨b,c,t,e1,hr,hh,hrel,e3⟩
 obtain ⟨m1,t1,g1,g2⟩:=qF (NS.start hi) hE
 obtain ⟨m3,t3,k1,k2⟩:=qG (w:=w) g1.yD hM
 obtain ⟨m2,t2,q1,q2,q3⟩:=jU (kU (G.bl live) w) k1.yD hi.kU
 have hN:=q1.yD
 have hle3:=q1.le
 have hle:=Gh.le_trans k1.le q1.le
 have hrole:∀b r,(G.bl live).role b=r→(∀τ,r≠.tok τ)→((G.bl live).mF m2 t2).role b=r:=by
   intro b r hr hn
   show (match (G.bl live).role b with | .tok τ=>(match m2 τ with | some k=>lX.tok k | none=>.d_) | r=>r)=r
   rw [hr]
   cases r with
   | tok τ=>exact absurd rfl (hn τ)
   | _=>rfl
 have hevo:bZ G w ((G.bl live).mF m2 t2) w:={
   size:=Nat.le_refl _,os:=rfl,tape:=rfl,output:=rfl,K:=bB.le_refl G.K,sm:=fun _ _ h=>h,
   d_:=fun b _ hr=>⟨hrole b _ hr (by simp),rfl⟩
   iT:=fun b τ _ hr=>by
     have hr':(G.bl live).role b=.tok τ:=hr
     rw [kT hr']
     cases m2 τ with
     | none=>exact .inl rfl
     | some k=>exact .inr ⟨k,rfl⟩
   hH:=fun _ _ _ _ _ h=>h }
 refine ⟨(G.bl live).mF m2 t2,⟨⟨h.env.size,fun t x hx=>?_⟩,?_,h.marks.oo hevo rfl⟩,hevo⟩
 · obtain ⟨v,h1,h2⟩:=g2 (t,x) (oL hx)
   exact ⟨v,h1,h2.mono hle⟩
 · constructor
   · exact hi.known
   · intro b o v hk
     rcases hi.bt b o v hk with h1 | ⟨τ,h1⟩
     · exact .inl (hrole b _ h1 (by simp))
     · rw [kT h1]
       cases m2 τ with
       | none=>exact .inl rfl
       | some k=>exact .inr ⟨k,rfl⟩
   · intro b hb;exact hrole b _ (hi.fresh b hb) (by simp)
   · intro d cells hd
     obtain ⟨b,c,t,h1,h2,h3,h4,h5⟩:=k2 (d,cells) (oL hd)
     exact ⟨b,h1,⟨hrole b _ h2 (by simp),c,t,h3,aw.mono hle3 h4⟩,h5⟩
   · intro d b hd
     exact sr (hi.g_ d b hd)
   · exact hi.OO (G':=(G.bl live).mF m2 t2) (fun _=>rfl) (fun b s hr=>hrole b _ hr (by simp)) q3
   · intro s b hs
     have:=hi.eR s b hs
     have e:(norm (Go.Ab.restrict live st)).sh.length=(Go.Ab.restrict live st).sh.length:=q2
     omega
   · intro k n hn
     have hts:(norm (Go.Ab.restrict live st)).ae=t2.map (·.len):=hN.ts
     rw [hts,List.getElem?_map,Option.map_eq_some_iff] at hn
     obtain ⟨t,ht,rfl⟩:=hn
     refine ⟨t,ht,rfl,?_⟩
     rcases hN.cap k t ht with ⟨τ,hτ⟩ | hc
     · obtain ⟨t',h1,h2⟩:=hN.map τ k hτ
       rw [ht] at h2;cases h2
       obtain ⟨t'',e1,e2,e3⟩:=hi.di τ _ (hi.fo τ t h1)
       rw [h1] at e1;cases e1
       refine ⟨e3.cap,e3.zero,fun hlt=>?_⟩
       obtain ⟨b,o,c,ty,f1,f2,f3,f4,f5⟩:=e3.spare hlt
       refine ⟨b,o,c,ty,f1,?_,f3,f4,f5⟩
       rw [kT f2,hτ]
     · exact ⟨by omega,fun h=>by omega,fun h=>h.elim (fun h=>by omega) (fun h=>by rw [hc.2] at h;cases h)⟩
   · intro k t ht
     have hts:(norm (Go.Ab.restrict live st)).ae=t2.map (·.len):=hN.ts
     rw [hts,List.getElem?_map]
     have ht':t2[k]?=some t:=ht
     rw [ht'];rfl
end
end Go.Ab
