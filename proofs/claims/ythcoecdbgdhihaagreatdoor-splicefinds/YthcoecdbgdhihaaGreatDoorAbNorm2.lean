import Derived.Test.YthcoecdbgdhihaaGreatDoorAbNorm
/-
  Tokens named anew.
-/
set_option linter.unusedVariables false
set_option linter.unusedSimpArgs false
set_option linter.unnecessarySimpa false
set_option maxRecDepth 100000
set_option maxHeartbeats 8000000
namespace Go.Ab
section
variable {ns:Names} {G:Gh} {w:World}
structure NS (G:Gh) (bh ts:aN) (m:Nat→Option Nat) (tks:List Tk):Prop where
 ts:ts=tks.map (·.len)
 map:∀τ k,m τ=some k→∃t,G.tk τ=some t∧tks[k]?=some t
 inj:∀τ σ k,m τ=some k→m σ=some k→τ=σ
 free:∀τ t,G.tk τ=some t→m τ=none→bh[τ]?=some t.len
 used:∀τ t k,G.tk τ=some t→m τ=some k→bh[τ]?=some (t.len+1)
 cap:∀k t,tks[k]?=some t→(∃τ,m τ=some k)∨(t.cap=t.len∧t.own=false)
def Gh.kU (G:Gh) (m:Nat→Option Nat) (tks:List Tk):Gh:=
 { G with tk:=fun k=>tks[k]?,role:=fun b=>match G.role b with | .tok τ=>(match m τ with | some k=>.tok k | none=>.eA) | r=>r }
theorem LF {m m':Nat→Option Nat} {tks ext:List Tk}:(G.kU m tks).le (G.kU m' (tks++ext)) where
 K:=bE.le_refl G.K
 pm:=fun _ _ h=>h
 sm:=fun _ _ h=>h
 tk:=fun k t h=>⟨t,by
   simp only [Gh.kU] at h ⊢
   rw [List.getElem?_append_left (List.getElem?_eq_some_iff.1 h).1];exact h,⟨Nat.le_refl _,Tk.gH _⟩,fun _=>rfl⟩
theorem wP {ρ:cx} {m:Nat→Option Nat} {tks:List Tk} {x:AV} {v:Value} (hf:cy x=true) (h:aC ρ G x v):aC ρ (G.kU m tks) x v:=
 iQ (G:=G) (G':=G.kU m tks) (bE.le_refl G.K) (fun _ _ h=>h) hf h
theorem kg {m:Nat→Option Nat} {tks:List Tk} {b τ:Nat} (h:G.role b=.tok τ):(G.kU m tks).role b=match m τ with | some k=>.tok k | none=>.eA:=by
 show (match G.role b with | .tok τ=>(match m τ with | some k=>la.tok k | none=>.eA) | r=>r)=_
 rw [h]
def kG:AV→Bool
 | .aG .. | .jK .. | .own ..=>true
 | .agg cs=>fD cs
 | v=>cy v
structure C7 (ns:Names) (G:Gh) (m:Nat→Option Nat) (tks:List Tk) (old' ts':aN) (m':Nat→Option Nat) (tks':List Tk):Prop where
 wQ:NS G old' ts' m' tks'
 ext:∃ext,tks'=tks++ext
theorem C7.le {m m':Nat→Option Nat} {tks tks':List Tk} {old' ts':aN} (h:C7 ns G m tks old' ts' m' tks'):(G.kU m tks).le (G.kU m' tks'):=by
 obtain ⟨ext,e⟩:=h.ext
 subst e
 exact LF
theorem pg {bh ts:aN} {m:Nat→Option Nat} {tks:List Tk} (hN:NS G bh ts m tks) {x:AV} {v:Value} (hx:jl x=true) (h:aC (num ns) G x v) :
   ∃m' tks',C7 ns G m tks (gG bh ts x).2.1 (gG bh ts x).2.2 m' tks'∧aC (num ns) (G.kU m' tks') (gG bh ts x).1 v:=by
 have flat:cy x=true→gG bh ts x=(x,bh,ts)→∃m' tks',C7 ns G m tks (gG bh ts x).2.1 (gG bh ts x).2.2 m' tks'∧aC (num ns) (G.kU m' tks') (gG bh ts x).1 v:=by
   intro hf e
   rw [e]
   exact ⟨m,tks,⟨hN,[],by simp⟩,wP hf h⟩
 cases x with
 | own l τ=>
   simp only [aC] at h
   obtain ⟨t,e1,e2,e3,e4⟩:=h
   simp only [gG]
   split
   · rename_i ho
     have hm:m τ=none:=by
       cases hm:m τ with
       | none=>rfl
       | some k=>
         have:=hN.used τ t k e1 hm
         rw [ho] at this
         simp at this
         omega
     have hlen:l.length=t.len:=by
       have:=hN.free τ t e1 hm
       rw [ho] at this
       simpa using this
     have hk:ts.length=tks.length:=by rw [hN.ts];simp
     refine ⟨fun σ=>if σ=τ then some tks.length else m σ,tks++[t],⟨⟨?_,?_,?_,?_,?_,?_⟩,[t],rfl⟩,?_⟩
     · rw [hN.ts,hlen];simp
     · intro σ k hk'
       split at hk'
       · rename_i e;subst e;simp at hk';subst hk';exact ⟨t,e1,by simp⟩
       · obtain ⟨t',g1,g2⟩:=hN.map σ k hk'
         exact ⟨t',g1,by rw [List.getElem?_append_left (List.getElem?_eq_some_iff.1 g2).1];exact g2⟩
     · intro σ σ' k h1 h2
       split at h1
       · rename_i e;subst e
         split at h2
         · rename_i e';exact e'.symm
         · simp at h1;subst h1
           obtain ⟨t',_,g2⟩:=hN.map σ' _ h2
           have:=(List.getElem?_eq_some_iff.1 g2).1
           omega
       · split at h2
         · rename_i e';subst e'
           simp at h2;subst h2
           obtain ⟨t',_,g2⟩:=hN.map σ _ h1
           have:=(List.getElem?_eq_some_iff.1 g2).1
           omega
         · exact hN.inj σ σ' k h1 h2
     · intro σ t' h1 h2
       split at h2
       · simp at h2
       · rename_i e
         rw [List.getElem?_set,if_neg (fun e'=>e e'.symm)]
         exact hN.free σ t' h1 h2
     · intro σ t' k h1 h2
       split at h2
       · rename_i e;subst e
         rw [e1] at h1;cases h1
         rw [List.getElem?_set,if_pos rfl,if_pos (List.getElem?_eq_some_iff.1 ho).1,hlen]
       · rename_i e
         rw [List.getElem?_set,if_neg (fun e'=>e e'.symm)]
         exact hN.used σ t' k h1 h2
     · intro k t' hk'
       rw [List.getElem?_append] at hk'
       split at hk'
       · rcases hN.cap k t' hk' with ⟨σ,hσ⟩ | hc
         · left
           refine ⟨σ,?_⟩
           rw [if_neg]
           · exact hσ
           · rintro rfl;rw [hm] at hσ;simp at hσ
         · exact .inr hc
       · rename_i hge
         left
         refine ⟨τ,?_⟩
         have:k=tks.length:=by
           have:=(List.getElem?_eq_some_iff.1 hk').1
           simp at this;omega
         simp [this]
     · simp only [aC]
       refine ⟨t,by simp [Gh.kU,hk],⟨by omega,e2.2⟩,e3,fun _=>e4 hlen⟩
   · exact ⟨m,tks,⟨hN,[],by simp⟩,by simp only [aC];exact e3⟩
 | _=>exact flat (by simpa [jl] using hx) rfl
theorem ni:∀{xs:List AV} {vs:List Value} {bh ts:aN} {m:Nat→Option Nat} {tks:List Tk},NS G bh ts m tks→fD xs=true→az (num ns) G xs vs →
   ∃m' tks',C7 ns G m tks (d6 bh ts xs).2.1 (d6 bh ts xs).2.2 m' tks'∧az (num ns) (G.kU m' tks') (d6 bh ts xs).1 vs
 | [],vs,bh,ts,m,tks,hN,_,h=>⟨m,tks,⟨hN,[],by simp⟩,by simpa only [d6,az] using h⟩
 | x::xs,vs,bh,ts,m,tks,hN,hl,h=>by
   simp only [fD,Bool.and_eq_true] at hl
   simp only [az] at h
   obtain ⟨v,r,e,e1,e2⟩:=h
   subst e
   obtain ⟨m1,t1,g1,g2⟩:=pg hN hl.1 e1
   obtain ⟨m2,t2,k1,k2⟩:=ni g1.wQ hl.2 e2
   refine ⟨m2,t2,⟨k1.wQ,?_⟩,?_⟩
   · obtain ⟨a,ha⟩:=g1.ext
     obtain ⟨b,hb⟩:=k1.ext
     exact ⟨a++b,by rw [hb,ha,List.append_assoc]⟩
   · simp only [d6,az]
     exact ⟨v,r,rfl,g2.mono k1.le,k2⟩
theorem lj {bh ts:aN} {m:Nat→Option Nat} {tks:List Tk} (hN:NS G bh ts m tks) {x:AV} {v:Value} (hx:kG x=true) (h:aC (num ns) G x v) :
   ∃m' tks',C7 ns G m tks (cf bh ts x).2.1 (cf bh ts x).2.2 m' tks'∧aC (num ns) (G.kU m' tks') (cf bh ts x).1 v:=by
 have flat:cy x=true→cf bh ts x=(x,bh,ts)→∃m' tks',C7 ns G m tks (cf bh ts x).2.1 (cf bh ts x).2.2 m' tks'∧aC (num ns) (G.kU m' tks') (cf bh ts x).1 v:=by
   intro hf e
   rw [e]
   exact ⟨m,tks,⟨hN,[],by simp⟩,wP hf h⟩
 cases x with
 | own l τ=>exact pg (x:=.own l τ) hN rfl h
 | bN l=>
   simp only [aC] at h
   obtain ⟨base,len,rfl,hsl⟩:=h
   have hk:ts.length=tks.length:=by rw [hN.ts];simp
   have hlen:=hsl.1
   obtain ⟨sz,hrow⟩:∃sz,l=[]∨∃b o,base=some ⟨b,o,none⟩∧Row G.K b o sz l:=by
     rcases hsl.2 with h1 | ⟨b,o,sz,e,hr⟩
     · exact ⟨0,.inl h1⟩
     · exact ⟨sz,.inr ⟨b,o,e,hr⟩⟩
   let t:Tk:=⟨base,len,len,sz,false⟩
   refine ⟨m,tks++[t],⟨⟨?_,?_,hN.inj,hN.free,hN.used,?_⟩,[t],rfl⟩,?_⟩
   · simp only [cf];rw [hN.ts];simp [t,hlen]
   · intro σ k hk'
     obtain ⟨t',g1,g2⟩:=hN.map σ k hk'
     exact ⟨t',g1,by rw [List.getElem?_append_left (List.getElem?_eq_some_iff.1 g2).1];exact g2⟩
   · intro k t' hk'
     rw [List.getElem?_append] at hk'
     split at hk'
     · exact hN.cap k t' hk'
     · right
       have:t'=t:=by
         have h1:=List.mem_of_getElem? hk'
         simpa using h1
       rw [this];exact ⟨rfl,rfl⟩
   · simp only [cf,aC]
     refine ⟨t,by simp [Gh.kU,hk],⟨by simp [t,hlen],t.p6⟩,cJ.2 ⟨_,_,_,rfl,Nat.le_refl _,hsl⟩,fun _=>⟨rfl,hrow⟩⟩
 | aG d o=>
   simp only [cf]
   exact ⟨m,tks,⟨hN,[],by simp⟩,by simp only [aC] at h ⊢;exact h⟩
 | jK d o=>
   simp only [cf]
   exact ⟨m,tks,⟨hN,[],by simp⟩,by simp only [aC] at h ⊢;exact h⟩
 | pv p=>exact flat rfl rfl
 | un=>exact flat rfl rfl
 | bu _ _=>exact flat rfl rfl
 | bI _ _ _ _=>exact flat rfl rfl
 | fR _=>exact flat rfl rfl
 | jI=>exact flat rfl rfl
 | fn _ _=>exact flat (by simpa [kG] using hx) rfl
 | agg cs=>
   by_cases hf:cy.gr cs=true
   · exact flat (by simpa [cy] using hf) (by simp only [cf];rw [if_pos hf])
   · simp only [aC] at h
     obtain ⟨vs,rfl,r⟩:=h
     obtain ⟨m',tks',g1,g2⟩:=ni hN (by simpa [kG] using hx) r
     have e:cf bh ts (.agg cs)=(.agg (d6 bh ts cs).1,(d6 bh ts cs).2.1,(d6 bh ts cs).2.2):=by simp only [cf];rw [if_neg hf]
     rw [e]
     exact ⟨m',tks',g1,by simp only [aC];exact ⟨vs,rfl,g2⟩⟩
 | oP _=>exact flat (by simpa [kG] using hx) rfl
 | jJ _=>exact flat rfl rfl
 | pN _ _ _=>exact flat rfl rfl
 | fo _=>simp only [aC] at h
theorem zn {x:AV} (h:bp x=true):kG x=true:=by
 rcases mF h with hf | ⟨l,τ,rfl⟩
 · cases x<;>simp_all [kG,cy,bp]
 · rfl
theorem zo {bh ts:aN} {x:AV} (h:bp x=true):bp (cf bh ts x).1=true:=by
 cases x with
 | own l τ=>simp only [cf];split<;>rfl
 | bN l=>rfl
 | agg _=>simp [bp] at h
 | _=>exact h
theorem ll:∀{xs:List AV} {vs:List Value} {bh ts:aN} {m:Nat→Option Nat} {tks:List Tk},NS G bh ts m tks→xs.all bp=true→az (num ns) G xs vs →
   ∃m' tks',C7 ns G m tks (bQ bh ts xs).2.1 (bQ bh ts xs).2.2 m' tks'∧az (num ns) (G.kU m' tks') (bQ bh ts xs).1 vs∧(bQ bh ts xs).1.all bp=true
 | [],vs,bh,ts,m,tks,hN,_,h=>⟨m,tks,⟨hN,[],by simp⟩,by simpa only [bQ,az] using h,rfl⟩
 | x::xs,vs,bh,ts,m,tks,hN,hl,h=>by
   simp only [List.all_cons,Bool.and_eq_true] at hl
   simp only [az] at h
   obtain ⟨v,r,e,e1,e2⟩:=h
   subst e
   obtain ⟨m1,t1,g1,g2⟩:=lj hN (zn hl.1) e1
   obtain ⟨m2,t2,k1,k2,k3⟩:=ll g1.wQ hl.2 e2
   refine ⟨m2,t2,⟨k1.wQ,?_⟩,?_,?_⟩
   · obtain ⟨a,ha⟩:=g1.ext
     obtain ⟨b,hb⟩:=k1.ext
     exact ⟨a++b,by rw [hb,ha,List.append_assoc]⟩
   · simp only [bQ,az]
     exact ⟨v,r,rfl,g2.mono k1.le,k2⟩
   · simp only [bQ,List.all_cons,k3,Bool.and_true]
     exact zo hl.1
theorem ph {a:Act}:∀{env:List (Nat×AV)} {bh ts:aN} {m:Nat→Option Nat} {tks:List Tk},NS G bh ts m tks →
   (∀p∈env,kG p.2=true∧∃v,a.tmps[p.1]?=some v∧aC (num ns) G p.2 v) →
   ∃m' tks',C7 ns G m tks (dD bh ts env).2.1 (dD bh ts env).2.2 m' tks'∧∀p∈(dD bh ts env).1,∃v,a.tmps[p.1]?=some v∧aC (num ns) (G.kU m' tks') p.2 v
 | [],bh,ts,m,tks,hN,_=>⟨m,tks,⟨hN,[],by simp⟩,by simp [dD]⟩
 | (t,x)::env,bh,ts,m,tks,hN,h=>by
   obtain ⟨hx,v,hv,hr⟩:=h (t,x) (by simp)
   obtain ⟨m1,t1,g1,g2⟩:=lj hN hx hr
   obtain ⟨m2,t2,k1,k2⟩:=ph (env:=env) (a:=a) g1.wQ (fun p hp=>h p (by simp [hp]))
   refine ⟨m2,t2,⟨k1.wQ,?_⟩,?_⟩
   · obtain ⟨a,ha⟩:=g1.ext
     obtain ⟨b,hb⟩:=k1.ext
     exact ⟨a++b,by rw [hb,ha,List.append_assoc]⟩
   · intro p hp
     simp only [dD,List.mem_cons] at hp
     rcases hp with rfl | hp
     · exact ⟨v,hv,g2.mono k1.le⟩
     · exact k2 p hp
def LG (ns:Names) (G:Gh) (w:World) (d:Nat) (cells:List AV) (G':Gh):Prop:=
 ∃b c t,G.pm d=some b∧G.role b=.kK d∧w.heap[b]?=some (.cells c t (0,0))∧az (num ns) G' cells c.toList∧cells.all bp=true
theorem pj:∀{mem:List (Nat×List AV)} {bh ts:aN} {m:Nat→Option Nat} {tks:List Tk},NS G bh ts m tks →
   (∀p∈mem,LG ns G w p.1 p.2 G) →
   ∃m' tks',C7 ns G m tks (fc bh ts mem).2.1 (fc bh ts mem).2.2 m' tks'∧∀p∈(fc bh ts mem).1,LG ns G w p.1 p.2 (G.kU m' tks')
 | [],bh,ts,m,tks,hN,_=>⟨m,tks,⟨hN,[],by simp⟩,by simp [fc]⟩
 | (d,cells)::mem,bh,ts,m,tks,hN,h=>by
   obtain ⟨b,c,t,h1,h2,h3,h4,h5⟩:=h (d,cells) (by simp)
   obtain ⟨m1,t1,g1,g2,g3⟩:=ll hN h5 h4
   obtain ⟨m2,t2,k1,k2⟩:=pj (mem:=mem) g1.wQ (fun p hp=>h p (by simp [hp]))
   refine ⟨m2,t2,⟨k1.wQ,?_⟩,?_⟩
   · obtain ⟨a,ha⟩:=g1.ext
     obtain ⟨b,hb⟩:=k1.ext
     exact ⟨a++b,by rw [hb,ha,List.append_assoc]⟩
   · intro p hp
     simp only [fc,List.mem_cons] at hp
     rcases hp with rfl | hp
     · exact ⟨b,c,t,h1,h2,h3,az.mono k1.le g2,g3⟩
     · exact k2 p hp
theorem zp {bh ts:aN} {n:Nat} {x:AV} (h:aV n x=true):aV n (gG bh ts x).1=true:=by
 unfold gG
 split
 · split<;>simp [aV]
 · exact h
theorem pk {n:Nat}:∀{xs:List AV} {bh ts:aN},aV.cU n xs=true→aV.cU n (d6 bh ts xs).1=true
 | [],_,_,_=>rfl
 | x::xs,bh,ts,h=>by
   simp only [aV.cU,Bool.and_eq_true] at h
   simp only [d6,aV.cU,zp h.1,Bool.true_and]
   exact pk h.2
theorem zq {bh ts:aN} {n:Nat} {x:AV} (h:aV n x=true):aV n (cf bh ts x).1=true:=by
 unfold cf
 split
 · split<;>simp [aV]
 · simp [aV]
 · split
   · exact h
   · simp only [aV] at h ⊢
     exact pk h
 · exact h
theorem qR {n:Nat}:∀{xs:List AV} {bh ts:aN},xs.all (aV n)=true→(bQ bh ts xs).1.all (aV n)=true
 | [],_,_,_=>rfl
 | x::xs,bh,ts,h=>by
   simp only [List.all_cons,Bool.and_eq_true] at h
   simp only [bQ,List.all_cons,zq h.1,Bool.true_and]
   exact qR h.2
theorem jt:∀{sh:Sh} {bh ts:aN} {m:Nat→Option Nat} {tks:List Tk} (R:Nat→Option (Obj×Nat)),NS G bh ts m tks →
   (∀s cells,sh[s]?=some (some cells)→cells.all bp=true∧∃o,R s=some o∧Holds (num ns) G o.1 o.2 cells) →
   ∃m' tks',C7 ns G m tks (cm bh ts sh).2.1 (cm bh ts sh).2.2 m' tks'∧(cm bh ts sh).1.length=sh.length ∧
     ∀s cells',(cm bh ts sh).1[s]?=some (some cells')→∃cells,sh[s]?=some (some cells)∧(∃o,R s=some o∧Holds (num ns) (G.kU m' tks') o.1 o.2 cells')∧cells'.all bp=true∧∀n,cells.all (aV n)=true→cells'.all (aV n)=true
 | [],bh,ts,m,tks,R,hN,_=>⟨m,tks,⟨hN,[],by simp⟩,rfl,fun s cells' h=>by simp [cm] at h⟩
 | none::sh,bh,ts,m,tks,R,hN,h=>by
   obtain ⟨m1,t1,g1,g2,g3⟩:=jt (sh:=sh) (fun s=>R (s+1)) hN (fun s cells hs=>h (s+1) cells (by simpa using hs))
   refine ⟨m1,t1,g1,by simp [cm,g2],fun s cells' hs=>?_⟩
   cases s with
   | zero=>simp [cm] at hs
   | succ s=>
     obtain ⟨cells,k1,k2⟩:=g3 s cells' (by simpa [cm] using hs)
     exact ⟨cells,by simpa using k1,k2⟩
 | some cs::sh,bh,ts,m,tks,R,hN,h=>by
   obtain ⟨hl,o,hR,hr⟩:=h 0 cs rfl
   obtain ⟨m1,t1,g1,g2,g3⟩:∃m' tks',C7 ns G m tks (bQ bh ts cs).2.1 (bQ bh ts cs).2.2 m' tks'∧Holds (num ns) (G.kU m' tks') o.1 o.2 (bQ bh ts cs).1∧(bQ bh ts cs).1.all bp=true:=by
     rcases hr with ⟨c,t,vs,suf,ho,e3,e4,hr⟩ | ⟨es,clock,kvs,ho,rfl,hm⟩
     · obtain ⟨m1,t1,g1,g2,g3⟩:=ll hN hl hr
       exact ⟨m1,t1,g1,.inl ⟨c,t,vs,suf,ho,e3,e4,g2⟩,g3⟩
     · exact ⟨m,tks,⟨hN,[],by simp⟩,.inr ⟨es,clock,kvs,ho,rfl,hm⟩,rfl⟩
   obtain ⟨m2,t2,k1,k2,k3⟩:=jt (sh:=sh) (fun s=>R (s+1)) g1.wQ (fun s cells hs=>h (s+1) cells (by simpa using hs))
   refine ⟨m2,t2,⟨k1.wQ,?_⟩,by simp [cm,k2],fun s cells' hs=>?_⟩
   · obtain ⟨a,ha⟩:=g1.ext
     obtain ⟨b,hb⟩:=k1.ext
     exact ⟨a++b,by rw [hb,ha,List.append_assoc]⟩
   · cases s with
     | zero=>
       simp only [cm,List.getElem?_cons_zero,Option.some.injEq] at hs
       subst hs
       exact ⟨cs,rfl,⟨o,hR,g2.mono k1.le⟩,g3,fun n hn=>qR hn⟩
     | succ s=>
       obtain ⟨cells,q1,q2⟩:=k3 s cells' (by simpa [cm] using hs)
       exact ⟨cells,by simpa using q1,q2⟩
def kh (G:Gh) (w:World) (s:Nat):Option (Obj×Nat):=(G.sm s).bind fun b=>(w.heap[b.1]?).map fun o=>(o,b.2)
theorem Inv.kh {mem:List (Nat×List AV)} {sh:Sh} {ah:aN} (hi:Inv (num ns) G w mem sh ah):∀s cells,sh[s]?=some (some cells)→cells.all bp=true∧∃o,Go.Ab.kh G w s=some o∧Holds (num ns) G o.1 o.2 cells:=by
 intro s cells hs
 obtain ⟨b,e1,e2,e3,e4⟩:=hi.dM s cells hs
 obtain ⟨hr,o,hh,hrel⟩:=e2
 exact ⟨e3,(o,b.2),by simp [Go.Ab.kh,e1,hh],hrel⟩
theorem Inv.KE {mem:List (Nat×List AV)} {sh:Sh} {ah:aN} (hi:Inv (num ns) G w mem sh ah) {sh':Sh} {G':Gh} (hsm:∀s,G'.sm s=G.sm s) (hrole:∀b s,G.role b=.shr s→G'.role b=.shr s)
   (h:∀s cells',sh'[s]?=some (some cells')→∃cells,sh[s]?=some (some cells)∧(∃o,Go.Ab.kh G w s=some o∧Holds (num ns) G' o.1 o.2 cells')∧cells'.all bp=true∧∀n,cells.all (aV n)=true→cells'.all (aV n)=true) :
   ∀s cells,sh'[s]?=some (some cells)→∃b,G'.sm s=some b∧uA (num ns) G' w b (.shr s) cells∧cells.all dP=true∧cells.all (aV (s+1))=true:=by
 intro s cells' hs
 obtain ⟨cells,h1,⟨o,h2,h2'⟩,h3,h4⟩:=h s cells' hs
 obtain ⟨b,e1,e2,e3,e4⟩:=hi.dM s cells h1
 simp only [Go.Ab.kh,e1,Option.bind_some,Option.map_eq_some_iff] at h2
 obtain ⟨o',h5,rfl⟩:=h2
 exact ⟨b,by rw [hsm];exact e1,⟨hrole b.1 s e2.role,o',h5,h2'⟩,h3,h4 _ e4⟩
theorem qS {α:Type}:∀{l:List (Nat×α)} {t:Nat} {x:α},look l t=some x→(t,x)∈l
 | [],_,_,h=>by simp [look] at h
 | (s,y)::l,t,x,h=>by
   simp only [look] at h
   split at h
   · rename_i e;subst e;cases h;simp
   · exact List.mem_cons_of_mem _ (qS h)
theorem qT:∀{mem:List (Nat×List AV)} {bh ts:aN} {d:Nat},(look mem d).isSome=true→(look (fc bh ts mem).1 d).isSome=true
 | [],_,_,d,h=>by simp [look] at h
 | (s,y)::mem,bh,ts,d,h=>by
   simp only [fc,look] at h ⊢
   split
   · rfl
   · rename_i hne
     rw [if_neg hne] at h
     exact qT h
theorem NS.start {mem:List (Nat×List AV)} {sh:Sh} {ah:aN} (hi:Inv (num ns) G w mem sh ah):NS G ah [] (fun _=>none) [] where
 ts:=rfl
 map:=by intro τ k h;simp at h
 inj:=by intro τ σ k h;simp at h
 free:=fun τ t h _=>hi.eW τ t h
 used:=by intro τ t k _ h;simp at h
 cap:=by intro k t h;simp at h
theorem gj {live:List Nat} {env:List (Nat×AV)}:∀{l:List Nat} {p:Nat×AV},p∈ca live env l→look env p.1=some p.2∧ei live p.2=true
 | [],p,h=>by simp [ca] at h
 | s::l,p,h=>by
   simp only [ca] at h
   split at h
   · rename_i u hu
     split at h
     · rename_i hk
       simp only [List.mem_cons] at h
       rcases h with rfl | h
       · exact ⟨hu,hk⟩
       · exact gj h
     · exact gj h
   · exact gj h
theorem iE {mem:List (Nat×List AV)}:∀{l:List Nat} {p:Nat×List AV},p∈cg mem l→look mem p.1=some p.2∧p.1∈l
 | [],p,h=>by simp [cg] at h
 | s::l,p,h=>by
   simp only [cg] at h
   split at h
   · rename_i u hu
     simp only [List.mem_cons] at h
     rcases h with rfl | h
     · exact ⟨hu,by simp⟩
     · obtain ⟨h1,h2⟩:=iE h;exact ⟨h1,by simp [h2]⟩
   · obtain ⟨h1,h2⟩:=iE h;exact ⟨h1,by simp [h2]⟩
theorem gO.head {n0 N:Nat} {st:St} {a:Act} (h:gO (num ns) n0 N G st a w) (live:List Nat):∃G',gO (num ns) n0 N G' (norm (Go.Ab.restrict live st)) a w∧cp G w G' w:=by
 have h0:=h.restrict live
 have hi:=h0.inv
 have hE:∀p∈(Go.Ab.restrict live st).env,kG p.2=true∧∃v,a.tmps[p.1]?=some v∧aC (num ns) (G.bq live) p.2 v:=by
   intro p hp
   obtain ⟨h1,h2⟩:=gj hp
   obtain ⟨v,h3,h4⟩:=h.env.env p.1 p.2 h1
   refine ⟨?_,v,h3,wO h2 h4⟩
   cases hpx:p.2<;>rw [hpx] at h2<;>simp_all [kG,ei,cy]
 have hM:∀p∈(Go.Ab.restrict live st).mem,LG ns (G.bq live) w p.1 p.2 (G.bq live):=by
   intro p hp
   obtain ⟨h1,h2⟩:=iE hp
   have h3:look (Go.Ab.restrict live st).mem p.1=some p.2:=by
     show look (cg st.mem live) p.1=some p.2
     rw [dV,if_pos h2,h1]
   obtain ⟨b,e1,e2,e3⟩:=hi.dk p.1 p.2 h3
   obtain ⟨hr,c,t,hh,hrel⟩:=e2
   exact ⟨b,c,t,e1,hr,hh,hrel,e3⟩
 obtain ⟨m1,t1,g1,g2⟩:=ph (NS.start hi) hE
 obtain ⟨m3,t3,k1,k2⟩:=pj (w:=w) g1.wQ hM
 obtain ⟨m2,t2,q1,q2,q3⟩:=jt (kh (G.bq live) w) k1.wQ hi.kh
 have hN:=q1.wQ
 have hle3:=q1.le
 have hle:=Gh.le_trans k1.le q1.le
 have hrole:∀b r,(G.bq live).role b=r→(∀τ,r≠.tok τ)→((G.bq live).kU m2 t2).role b=r:=by
   intro b r hr hn
   show (match (G.bq live).role b with | .tok τ=>(match m2 τ with | some k=>la.tok k | none=>.eA) | r=>r)=r
   rw [hr]
   cases r with
   | tok τ=>exact absurd rfl (hn τ)
   | _=>rfl
 have hevo:cp G w ((G.bq live).kU m2 t2) w:={
   size:=Nat.le_refl _,os:=rfl,tape:=rfl,output:=rfl,K:=bE.le_refl G.K,sm:=fun _ _ h=>h,
   eA:=fun b _ hr=>⟨hrole b _ hr (by simp),rfl⟩
   iD:=fun b τ _ hr=>by
     have hr':(G.bq live).role b=.tok τ:=hr
     rw [kg hr']
     cases m2 τ with
     | none=>exact .inl rfl
     | some k=>exact .inr ⟨k,rfl⟩
   gJ:=fun _ _ _ _ _ h=>h }
 refine ⟨(G.bq live).kU m2 t2,⟨⟨h.env.size,fun t x hx=>?_⟩,?_,h.marks.oT hevo rfl⟩,hevo⟩
 · obtain ⟨v,h1,h2⟩:=g2 (t,x) (qS hx)
   exact ⟨v,h1,h2.mono hle⟩
 · constructor
   · exact hi.known
   · intro b o v hk
     rcases hi.bt b o v hk with h1 | ⟨τ,h1⟩
     · exact .inl (hrole b _ h1 (by simp))
     · rw [kg h1]
       cases m2 τ with
       | none=>exact .inl rfl
       | some k=>exact .inr ⟨k,rfl⟩
   · intro b hb;exact hrole b _ (hi.fresh b hb) (by simp)
   · intro d cells hd
     obtain ⟨b,c,t,h1,h2,h3,h4,h5⟩:=k2 (d,cells) (qS hd)
     exact ⟨b,h1,⟨hrole b _ h2 (by simp),c,t,h3,az.mono hle3 h4⟩,h5⟩
   · intro d b hd
     exact qT (hi.gI d b hd)
   · exact hi.KE (G':=(G.bq live).kU m2 t2) (fun _=>rfl) (fun b s hr=>hrole b _ hr (by simp)) q3
   · intro s b hs
     have:=hi.eE s b hs
     have e:(norm (Go.Ab.restrict live st)).sh.length=(Go.Ab.restrict live st).sh.length:=q2
     omega
   · intro k n hn
     have hts:(norm (Go.Ab.restrict live st)).ah=t2.map (·.len):=hN.ts
     rw [hts,List.getElem?_map,Option.map_eq_some_iff] at hn
     obtain ⟨t,ht,rfl⟩:=hn
     refine ⟨t,ht,rfl,?_⟩
     rcases hN.cap k t ht with ⟨τ,hτ⟩ | hc
     · obtain ⟨t',h1,h2⟩:=hN.map τ k hτ
       rw [ht] at h2;cases h2
       obtain ⟨t'',e1,e2,e3⟩:=hi.dE τ _ (hi.eW τ t h1)
       rw [h1] at e1;cases e1
       refine ⟨e3.cap,e3.zero,fun hlt=>?_⟩
       obtain ⟨b,o,c,ty,f1,f2,f3,f4,f5⟩:=e3.spare hlt
       refine ⟨b,o,c,ty,f1,?_,f3,f4,f5⟩
       rw [kg f2,hτ]
     · exact ⟨by omega,fun h=>by omega,fun h=>h.elim (fun h=>by omega) (fun h=>by rw [hc.2] at h;cases h)⟩
   · intro k t ht
     have hts:(norm (Go.Ab.restrict live st)).ah=t2.map (·.len):=hN.ts
     rw [hts,List.getElem?_map]
     have ht':t2[k]?=some t:=ht
     rw [ht'];rfl
   · exact fun b c hb=>⟨hrole b _ (hi.jM b c hb).1 (by simp),(hi.jM b c hb).2⟩
end
end Go.Ab
