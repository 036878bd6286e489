import Derived.Test.YtfhhognolpjikaaAbNorm
/-
  Tokens named anew.
-/
set_option linter.unusedVariables false
set_option linter.unusedSimpArgs false
set_option maxRecDepth 100000
set_option maxHeartbeats 8000000
namespace Go.Ab
section
variable {ns:Names} {G:Gh} {w:World}
structure NS (G:Gh) (aE ts:au) (m:Nat→Option Nat) (tks:List Tk):Prop where
 ts:ts=tks.map (·.len)
 map:∀τ k,m τ=some k→∃t,G.tk τ=some t∧tks[k]?=some t
 inj:∀τ σ k,m τ=some k→m σ=some k→τ=σ
 free:∀τ t,G.tk τ=some t→m τ=none→aE[τ]?=some t.len
 used:∀τ t k,G.tk τ=some t→m τ=some k→aE[τ]?=some (t.len+1)
 cap:∀k t,tks[k]?=some t→(∃τ,m τ=some k)∨(t.cap=t.len∧t.own=false)
def Gh.lf (G:Gh) (m:Nat→Option Nat) (tks:List Tk):Gh:=
 { G with tk:=fun k=>tks[k]?,role:=fun b=>match G.role b with | .tok τ=>(match m τ with | some k=>.tok k | none=>.dp) | r=>r }
theorem FA {m m':Nat→Option Nat} {tks ext:List Tk}:(G.lf m tks).le (G.lf m' (tks++ext)) where
 K:=bf.le_refl G.K
 pm:=fun _ _ h=>h
 sm:=fun _ _ h=>h
 tk:=fun k t h=>⟨t,by
   simp only [Gh.lf] at h ⊢
   rw [List.getElem?_append_left (List.getElem?_eq_some_iff.1 h).1];exact h,⟨Nat.le_refl _,Tk.eX _⟩,fun _=>rfl⟩
theorem qY {ρ:bI} {m:Nat→Option Nat} {tks:List Tk} {x:AV} {v:Value} (hf:bg x=true) (h:aq ρ G x v):aq ρ (G.lf m tks) x v:=
 eO (G:=G) (G':=G.lf m tks) (bf.le_refl G.K) (fun _ _ h=>h) hf h
theorem iD {m:Nat→Option Nat} {tks:List Tk} {b τ:Nat} (h:G.role b=.tok τ):(G.lf m tks).role b=match m τ with | some k=>.tok k | none=>.dp:=by
 show (match G.role b with | .tok τ=>(match m τ with | some k=>iX.tok k | none=>.dp) | r=>r)=_
 rw [h]
def iS:AV→Bool
 | .aT .. | .own ..=>true
 | .agg cs=>eJ cs
 | v=>bg v
structure xU (ns:Names) (G:Gh) (m:Nat→Option Nat) (tks:List Tk) (old' ts':au) (m':Nat→Option Nat) (tks':List Tk):Prop where
 qZ:NS G old' ts' m' tks'
 ext:∃ext,tks'=tks++ext
theorem xU.le {m m':Nat→Option Nat} {tks tks':List Tk} {old' ts':au} (h:xU ns G m tks old' ts' m' tks'):(G.lf m tks).le (G.lf m' tks'):=by
 obtain ⟨ext,e⟩:=h.ext
 subst e
 exact FA
theorem lX {aE ts:au} {m:Nat→Option Nat} {tks:List Tk} (hN:NS G aE ts m tks) {x:AV} {v:Value} (hx:fc x=true) (h:aq (num ns) G x v) :
   ∃m' tks',xU ns G m tks (c_ aE ts x).2.1 (c_ aE ts x).2.2 m' tks'∧aq (num ns) (G.lf m' tks') (c_ aE ts x).1 v:=by
 have flat:bg x=true→c_ aE ts x=(x,aE,ts)→∃m' tks',xU ns G m tks (c_ aE ts x).2.1 (c_ aE ts x).2.2 m' tks'∧aq (num ns) (G.lf m' tks') (c_ aE ts x).1 v:=by
   intro hf e
   rw [e]
   exact ⟨m,tks,⟨hN,[],by simp⟩,qY hf h⟩
 cases x with
 | own l τ=>
   simp only [aq] at h
   obtain ⟨t,e1,e2,e3,e4⟩:=h
   simp only [c_]
   split
   · rename_i ho
     have hm:m τ=none:=by
       cases hm:m τ with
       | none=>rfl
       | some k=>
         have:=hN.used τ t k e1 hm
         rw [ho] at this
         simp at this
         omega
     have hlen:l.length=t.len:=by
       have:=hN.free τ t e1 hm
       rw [ho] at this
       simpa using this
     have hk:ts.length=tks.length:=by rw [hN.ts];simp
     refine ⟨fun σ=>if σ=τ then some tks.length else m σ,tks++[t],⟨⟨?_,?_,?_,?_,?_,?_⟩,[t],rfl⟩,?_⟩
     · rw [hN.ts,hlen];simp
     · intro σ k hk'
       split at hk'
       · rename_i e;subst e;simp at hk';subst hk';exact ⟨t,e1,by simp⟩
       · obtain ⟨t',g1,g2⟩:=hN.map σ k hk'
         exact ⟨t',g1,by rw [List.getElem?_append_left (List.getElem?_eq_some_iff.1 g2).1];exact g2⟩
     · intro σ σ' k h1 h2
       split at h1
       · rename_i e;subst e
         split at h2
         · rename_i e';exact e'.symm
         · simp at h1;subst h1
           obtain ⟨t',_,g2⟩:=hN.map σ' _ h2
           have:=(List.getElem?_eq_some_iff.1 g2).1
           omega
       · split at h2
         · rename_i e';subst e'
           simp at h2;subst h2
           obtain ⟨t',_,g2⟩:=hN.map σ _ h1
           have:=(List.getElem?_eq_some_iff.1 g2).1
           omega
         · exact hN.inj σ σ' k h1 h2
     · intro σ t' h1 h2
       split at h2
       · simp at h2
       · rename_i e
         rw [List.getElem?_set,if_neg (fun e'=>e e'.symm)]
         exact hN.free σ t' h1 h2
     · intro σ t' k h1 h2
       split at h2
       · rename_i e;subst e
         rw [e1] at h1;cases h1
         rw [List.getElem?_set,if_pos rfl,if_pos (List.getElem?_eq_some_iff.1 ho).1,hlen]
       · rename_i e
         rw [List.getElem?_set,if_neg (fun e'=>e e'.symm)]
         exact hN.used σ t' k h1 h2
     · intro k t' hk'
       rw [List.getElem?_append] at hk'
       split at hk'
       · rcases hN.cap k t' hk' with ⟨σ,hσ⟩ | hc
         · left
           refine ⟨σ,?_⟩
           rw [if_neg]
           · exact hσ
           · rintro rfl;rw [hm] at hσ;simp at hσ
         · exact .inr hc
       · rename_i hge
         left
         refine ⟨τ,?_⟩
         have:k=tks.length:=by
           have:=(List.getElem?_eq_some_iff.1 hk').1
           simp at this;omega
         simp [this]
     · simp only [aq]
       refine ⟨t,by simp [Gh.lf,hk],⟨by omega,e2.2⟩,e3,fun _=>e4 hlen⟩
   · exact ⟨m,tks,⟨hN,[],by simp⟩,by simp only [aq];exact e3⟩
 | _=>exact flat (by simpa [fc] using hx) rfl
theorem kD:∀{xs:List AV} {vs:List Value} {aE ts:au} {m:Nat→Option Nat} {tks:List Tk},NS G aE ts m tks→eJ xs=true→al (num ns) G xs vs →
   ∃m' tks',xU ns G m tks (cb aE ts xs).2.1 (cb aE ts xs).2.2 m' tks'∧al (num ns) (G.lf m' tks') (cb aE ts xs).1 vs
 | [],vs,aE,ts,m,tks,hN,_,h=>⟨m,tks,⟨hN,[],by simp⟩,by simpa only [cb,al] using h⟩
 | x::xs,vs,aE,ts,m,tks,hN,hl,h=>by
   simp only [eJ,Bool.and_eq_true] at hl
   simp only [al] at h
   obtain ⟨v,r,e,e1,e2⟩:=h
   subst e
   obtain ⟨m1,t1,g1,g2⟩:=lX hN hl.1 e1
   obtain ⟨m2,t2,k1,k2⟩:=kD g1.qZ hl.2 e2
   refine ⟨m2,t2,⟨k1.qZ,?_⟩,?_⟩
   · obtain ⟨a,ha⟩:=g1.ext
     obtain ⟨b,hb⟩:=k1.ext
     exact ⟨a++b,by rw [hb,ha,List.append_assoc]⟩
   · simp only [cb,al]
     exact ⟨v,r,rfl,g2.mono k1.le,k2⟩
theorem ja {aE ts:au} {m:Nat→Option Nat} {tks:List Tk} (hN:NS G aE ts m tks) {x:AV} {v:Value} (hx:iS x=true) (h:aq (num ns) G x v) :
   ∃m' tks',xU ns G m tks (bt aE ts x).2.1 (bt aE ts x).2.2 m' tks'∧aq (num ns) (G.lf m' tks') (bt aE ts x).1 v:=by
 have flat:bg x=true→bt aE ts x=(x,aE,ts)→∃m' tks',xU ns G m tks (bt aE ts x).2.1 (bt aE ts x).2.2 m' tks'∧aq (num ns) (G.lf m' tks') (bt aE ts x).1 v:=by
   intro hf e
   rw [e]
   exact ⟨m,tks,⟨hN,[],by simp⟩,qY hf h⟩
 cases x with
 | own l τ=>exact lX (x:=.own l τ) hN rfl h
 | bR l=>
   simp only [aq] at h
   obtain ⟨base,len,rfl,hsl⟩:=h
   have hk:ts.length=tks.length:=by rw [hN.ts];simp
   have hlen:=hsl.1
   obtain ⟨sz,hrow⟩:∃sz,l=[]∨∃b o,base=some ⟨b,o,none⟩∧Row G.K b o sz l:=by
     rcases hsl.2 with h1 | ⟨b,o,sz,e,hr⟩
     · exact ⟨0,.inl h1⟩
     · exact ⟨sz,.inr ⟨b,o,e,hr⟩⟩
   let t:Tk:=⟨base,len,len,sz,false⟩
   refine ⟨m,tks++[t],⟨⟨?_,?_,hN.inj,hN.free,hN.used,?_⟩,[t],rfl⟩,?_⟩
   · simp only [bt];rw [hN.ts];simp [t,hlen]
   · intro σ k hk'
     obtain ⟨t',g1,g2⟩:=hN.map σ k hk'
     exact ⟨t',g1,by rw [List.getElem?_append_left (List.getElem?_eq_some_iff.1 g2).1];exact g2⟩
   · intro k t' hk'
     rw [List.getElem?_append] at hk'
     split at hk'
     · exact hN.cap k t' hk'
     · right
       have:t'=t:=by
         have h1:=List.mem_of_getElem? hk'
         simpa using h1
       rw [this];exact ⟨rfl,rfl⟩
   · simp only [bt,aq]
     refine ⟨t,by simp [Gh.lf,hk],⟨by simp [t,hlen],t.mA⟩,bO.2 ⟨_,_,_,rfl,Nat.le_refl _,hsl⟩,fun _=>⟨rfl,hrow⟩⟩
 | aT d o=>
   simp only [bt]
   exact ⟨m,tks,⟨hN,[],by simp⟩,by simp only [aq] at h ⊢;exact h⟩
 | pv p=>exact flat rfl rfl
 | un=>exact flat rfl rfl
 | ba _ _=>exact flat rfl rfl
 | bd _ _ _ _=>exact flat rfl rfl
 | cQ _=>exact flat rfl rfl
 | cM=>exact flat rfl rfl
 | fn _ _=>exact flat (by simpa [iS] using hx) rfl
 | agg cs=>
   by_cases hf:bg.dr cs=true
   · exact flat (by simpa [bg] using hf) (by simp only [bt];rw [if_pos hf])
   · simp only [aq] at h
     obtain ⟨vs,rfl,r⟩:=h
     obtain ⟨m',tks',g1,g2⟩:=kD hN (by simpa [iS] using hx) r
     have e:bt aE ts (.agg cs)=(.agg (cb aE ts cs).1,(cb aE ts cs).2.1,(cb aE ts cs).2.2):=by simp only [bt];rw [if_neg hf]
     rw [e]
     exact ⟨m',tks',g1,by simp only [aq];exact ⟨vs,rfl,g2⟩⟩
 | jH _=>exact flat (by simpa [iS] using hx) rfl
 | ck _=>exact flat rfl rfl
 | jS _ _ _=>exact flat rfl rfl
 | da _=>simp only [aq] at h
theorem tG {x:AV} (h:aP x=true):iS x=true:=by
 rcases mX h with hf | ⟨l,τ,rfl⟩
 · cases x<;>simp_all [iS,bg,aP]
 · rfl
theorem tH {aE ts:au} {x:AV} (h:aP x=true):aP (bt aE ts x).1=true:=by
 cases x with
 | own l τ=>simp only [bt];split<;>rfl
 | bR l=>rfl
 | agg _=>simp [aP] at h
 | _=>exact h
theorem jb:∀{xs:List AV} {vs:List Value} {aE ts:au} {m:Nat→Option Nat} {tks:List Tk},NS G aE ts m tks→xs.all aP=true→al (num ns) G xs vs →
   ∃m' tks',xU ns G m tks (bh aE ts xs).2.1 (bh aE ts xs).2.2 m' tks'∧al (num ns) (G.lf m' tks') (bh aE ts xs).1 vs∧(bh aE ts xs).1.all aP=true
 | [],vs,aE,ts,m,tks,hN,_,h=>⟨m,tks,⟨hN,[],by simp⟩,by simpa only [bh,al] using h,rfl⟩
 | x::xs,vs,aE,ts,m,tks,hN,hl,h=>by
   simp only [List.all_cons,Bool.and_eq_true] at hl
   simp only [al] at h
   obtain ⟨v,r,e,e1,e2⟩:=h
   subst e
   obtain ⟨m1,t1,g1,g2⟩:=ja hN (tG hl.1) e1
   obtain ⟨m2,t2,k1,k2,k3⟩:=jb g1.qZ hl.2 e2
   refine ⟨m2,t2,⟨k1.qZ,?_⟩,?_,?_⟩
   · obtain ⟨a,ha⟩:=g1.ext
     obtain ⟨b,hb⟩:=k1.ext
     exact ⟨a++b,by rw [hb,ha,List.append_assoc]⟩
   · simp only [bh,al]
     exact ⟨v,r,rfl,g2.mono k1.le,k2⟩
   · simp only [bh,List.all_cons,k3,Bool.and_true]
     exact tH hl.1
theorem lY {a:Act}:∀{env:List (Nat×AV)} {aE ts:au} {m:Nat→Option Nat} {tks:List Tk},NS G aE ts m tks →
   (∀p∈env,iS p.2=true∧∃v,a.tmps[p.1]?=some v∧aq (num ns) G p.2 v) →
   ∃m' tks',xU ns G m tks (cR aE ts env).2.1 (cR aE ts env).2.2 m' tks'∧∀p∈(cR aE ts env).1,∃v,a.tmps[p.1]?=some v∧aq (num ns) (G.lf m' tks') p.2 v
 | [],aE,ts,m,tks,hN,_=>⟨m,tks,⟨hN,[],by simp⟩,by simp [cR]⟩
 | (t,x)::env,aE,ts,m,tks,hN,h=>by
   obtain ⟨hx,v,hv,hr⟩:=h (t,x) (by simp)
   obtain ⟨m1,t1,g1,g2⟩:=ja hN hx hr
   obtain ⟨m2,t2,k1,k2⟩:=lY (env:=env) (a:=a) g1.qZ (fun p hp=>h p (by simp [hp]))
   refine ⟨m2,t2,⟨k1.qZ,?_⟩,?_⟩
   · obtain ⟨a,ha⟩:=g1.ext
     obtain ⟨b,hb⟩:=k1.ext
     exact ⟨a++b,by rw [hb,ha,List.append_assoc]⟩
   · intro p hp
     simp only [cR,List.mem_cons] at hp
     rcases hp with rfl | hp
     · exact ⟨v,hv,g2.mono k1.le⟩
     · exact k2 p hp
def FB (ns:Names) (G:Gh) (w:World) (d:Nat) (cells:List AV) (G':Gh):Prop:=
 ∃b c t,G.pm d=some b∧G.role b=.km d∧w.heap[b]?=some (.cells c t (0,0))∧al (num ns) G' cells c.toList∧cells.all aP=true
theorem lZ:∀{mem:List (Nat×List AV)} {aE ts:au} {m:Nat→Option Nat} {tks:List Tk},NS G aE ts m tks →
   (∀p∈mem,FB ns G w p.1 p.2 G) →
   ∃m' tks',xU ns G m tks (d7 aE ts mem).2.1 (d7 aE ts mem).2.2 m' tks'∧∀p∈(d7 aE ts mem).1,FB ns G w p.1 p.2 (G.lf m' tks')
 | [],aE,ts,m,tks,hN,_=>⟨m,tks,⟨hN,[],by simp⟩,by simp [d7]⟩
 | (d,cells)::mem,aE,ts,m,tks,hN,h=>by
   obtain ⟨b,c,t,h1,h2,h3,h4,h5⟩:=h (d,cells) (by simp)
   obtain ⟨m1,t1,g1,g2,g3⟩:=jb hN h5 h4
   obtain ⟨m2,t2,k1,k2⟩:=lZ (mem:=mem) g1.qZ (fun p hp=>h p (by simp [hp]))
   refine ⟨m2,t2,⟨k1.qZ,?_⟩,?_⟩
   · obtain ⟨a,ha⟩:=g1.ext
     obtain ⟨b,hb⟩:=k1.ext
     exact ⟨a++b,by rw [hb,ha,List.append_assoc]⟩
   · intro p hp
     simp only [d7,List.mem_cons] at hp
     rcases hp with rfl | hp
     · exact ⟨b,c,t,h1,h2,h3,al.mono k1.le g2,g3⟩
     · exact k2 p hp
theorem tI {aE ts:au} {n:Nat} {x:AV} (h:az n x=true):az n (c_ aE ts x).1=true:=by
 unfold c_
 split
 · split<;>simp [az]
 · exact h
theorem l0 {n:Nat}:∀{xs:List AV} {aE ts:au},az.bZ n xs=true→az.bZ n (cb aE ts xs).1=true
 | [],_,_,_=>rfl
 | x::xs,aE,ts,h=>by
   simp only [az.bZ,Bool.and_eq_true] at h
   simp only [cb,az.bZ,tI h.1,Bool.true_and]
   exact l0 h.2
theorem tJ {aE ts:au} {n:Nat} {x:AV} (h:az n x=true):az n (bt aE ts x).1=true:=by
 unfold bt
 split
 · split<;>simp [az]
 · simp [az]
 · split
   · exact h
   · simp only [az] at h ⊢
     exact l0 h
 · exact h
theorem mY {n:Nat}:∀{xs:List AV} {aE ts:au},xs.all (az n)=true→(bh aE ts xs).1.all (az n)=true
 | [],_,_,_=>rfl
 | x::xs,aE,ts,h=>by
   simp only [List.all_cons,Bool.and_eq_true] at h
   simp only [bh,List.all_cons,tJ h.1,Bool.true_and]
   exact mY h.2
theorem gW:∀{sh:Sh} {aE ts:au} {m:Nat→Option Nat} {tks:List Tk} (R:Nat→Option (Obj×Nat)),NS G aE ts m tks →
   (∀s cells,sh[s]?=some (some cells)→cells.all aP=true∧∃o,R s=some o∧fF (num ns) G o.1 o.2 cells) →
   ∃m' tks',xU ns G m tks (bE aE ts sh).2.1 (bE aE ts sh).2.2 m' tks'∧(bE aE ts sh).1.length=sh.length ∧
     ∀s cells',(bE aE ts sh).1[s]?=some (some cells')→∃cells,sh[s]?=some (some cells)∧(∃o,R s=some o∧fF (num ns) (G.lf m' tks') o.1 o.2 cells')∧cells'.all aP=true∧∀n,cells.all (az n)=true→cells'.all (az n)=true
 | [],aE,ts,m,tks,R,hN,_=>⟨m,tks,⟨hN,[],by simp⟩,rfl,fun s cells' h=>by simp [bE] at h⟩
 | none::sh,aE,ts,m,tks,R,hN,h=>by
   obtain ⟨m1,t1,g1,g2,g3⟩:=gW (sh:=sh) (fun s=>R (s+1)) hN (fun s cells hs=>h (s+1) cells (by simpa using hs))
   refine ⟨m1,t1,g1,by simp [bE,g2],fun s cells' hs=>?_⟩
   cases s with
   | zero=>simp [bE] at hs
   | succ s=>
     obtain ⟨cells,k1,k2⟩:=g3 s cells' (by simpa [bE] using hs)
     exact ⟨cells,by simpa using k1,k2⟩
 | some cs::sh,aE,ts,m,tks,R,hN,h=>by
   obtain ⟨hl,o,hR,hr⟩:=h 0 cs rfl
   obtain ⟨m1,t1,g1,g2,g3⟩:∃m' tks',xU ns G m tks (bh aE ts cs).2.1 (bh aE ts cs).2.2 m' tks'∧fF (num ns) (G.lf m' tks') o.1 o.2 (bh aE ts cs).1∧(bh aE ts cs).1.all aP=true:=by
     rcases hr with ⟨c,t,vs,suf,ho,e3,e4,hr⟩ | ⟨es,clock,kvs,ho,rfl,hm⟩
     · obtain ⟨m1,t1,g1,g2,g3⟩:=jb hN hl hr
       exact ⟨m1,t1,g1,.inl ⟨c,t,vs,suf,ho,e3,e4,g2⟩,g3⟩
     · exact ⟨m,tks,⟨hN,[],by simp⟩,.inr ⟨es,clock,kvs,ho,rfl,hm⟩,rfl⟩
   obtain ⟨m2,t2,k1,k2,k3⟩:=gW (sh:=sh) (fun s=>R (s+1)) g1.qZ (fun s cells hs=>h (s+1) cells (by simpa using hs))
   refine ⟨m2,t2,⟨k1.qZ,?_⟩,by simp [bE,k2],fun s cells' hs=>?_⟩
   · obtain ⟨a,ha⟩:=g1.ext
     obtain ⟨b,hb⟩:=k1.ext
     exact ⟨a++b,by rw [hb,ha,List.append_assoc]⟩
   · cases s with
     | zero=>
       simp only [bE,List.getElem?_cons_zero,Option.some.injEq] at hs
       subst hs
       exact ⟨cs,rfl,⟨o,hR,g2.mono k1.le⟩,g3,fun n hn=>mY hn⟩
     | succ s=>
       obtain ⟨cells,q1,q2⟩:=k3 s cells' (by simpa [bE] using hs)
       exact ⟨cells,by simpa using q1,q2⟩
def iE (G:Gh) (w:World) (s:Nat):Option (Obj×Nat):=(G.sm s).bind fun b=>(w.heap[b.1]?).map fun o=>(o,b.2)
theorem Inv.iE {mem:List (Nat×List AV)} {sh:Sh} {aa:au} (hi:Inv (num ns) G w mem sh aa):∀s cells,sh[s]?=some (some cells)→cells.all aP=true∧∃o,Go.Ab.iE G w s=some o∧fF (num ns) G o.1 o.2 cells:=by
 intro s cells hs
 obtain ⟨b,e1,e2,e3,e4⟩:=hi.cY s cells hs
 obtain ⟨hr,o,hh,hrel⟩:=e2
 exact ⟨e3,(o,b.2),by simp [Go.Ab.iE,e1,hh],hrel⟩
theorem Inv.EW {mem:List (Nat×List AV)} {sh:Sh} {aa:au} (hi:Inv (num ns) G w mem sh aa) {sh':Sh} {G':Gh} (hsm:∀s,G'.sm s=G.sm s) (hrole:∀b s,G.role b=.shr s→G'.role b=.shr s)
   (h:∀s cells',sh'[s]?=some (some cells')→∃cells,sh[s]?=some (some cells)∧(∃o,Go.Ab.iE G w s=some o∧fF (num ns) G' o.1 o.2 cells')∧cells'.all aP=true∧∀n,cells.all (az n)=true→cells'.all (az n)=true) :
   ∀s cells,sh'[s]?=some (some cells)→∃b,G'.sm s=some b∧pb (num ns) G' w b (.shr s) cells∧cells.all dq=true∧cells.all (az (s+1))=true:=by
 intro s cells' hs
 obtain ⟨cells,h1,⟨o,h2,h2'⟩,h3,h4⟩:=h s cells' hs
 obtain ⟨b,e1,e2,e3,e4⟩:=hi.cY s cells h1
 simp only [Go.Ab.iE,e1,Option.bind_some,Option.map_eq_some_iff] at h2
 obtain ⟨o',h5,rfl⟩:=h2
 exact ⟨b,by rw [hsm];exact e1,⟨hrole b.1 s e2.role,o',h5,h2'⟩,h3,h4 _ e4⟩
theorem kE {α:Type}:∀{l:List (Nat×α)} {t:Nat} {x:α},look l t=some x→(t,x)∈l
 | [],_,_,h=>by simp [look] at h
 | (s,y)::l,t,x,h=>by
   simp only [look] at h
   split at h
   · rename_i e;subst e;cases h;simp
   · exact List.mem_cons_of_mem _ (kE h)
theorem mZ:∀{mem:List (Nat×List AV)} {aE ts:au} {d:Nat},(look mem d).isSome=true→(look (d7 aE ts mem).1 d).isSome=true
 | [],_,_,d,h=>by simp [look] at h
 | (s,y)::mem,aE,ts,d,h=>by
   simp only [d7,look] at h ⊢
   split
   · rfl
   · rename_i hne
     rw [if_neg hne] at h
     exact mZ h
theorem NS.start {mem:List (Nat×List AV)} {sh:Sh} {aa:au} (hi:Inv (num ns) G w mem sh aa):NS G aa [] (fun _=>none) [] where
 ts:=rfl
 map:=by intro τ k h;simp at h
 inj:=by intro τ σ k h;simp at h
 free:=fun τ t h _=>hi.d_ τ t h
 used:=by intro τ t k _ h;simp at h
 cap:=by intro k t h;simp at h
theorem dR {live:List Nat} {env:List (Nat×AV)}:∀{l:List Nat} {p:Nat×AV},p∈bB live env l→look env p.1=some p.2∧dI live p.2=true
 | [],p,h=>by simp [bB] at h
 | s::l,p,h=>by
   simp only [bB] at h
   split at h
   · rename_i u hu
     split at h
     · rename_i hk
       simp only [List.mem_cons] at h
       rcases h with rfl | h
       · exact ⟨hu,hk⟩
       · exact dR h
     · exact dR h
   · exact dR h
theorem fW {mem:List (Nat×List AV)}:∀{l:List Nat} {p:Nat×List AV},p∈bC mem l→look mem p.1=some p.2∧p.1∈l
 | [],p,h=>by simp [bC] at h
 | s::l,p,h=>by
   simp only [bC] at h
   split at h
   · rename_i u hu
     simp only [List.mem_cons] at h
     rcases h with rfl | h
     · exact ⟨hu,by simp⟩
     · obtain ⟨h1,h2⟩:=fW h;exact ⟨h1,by simp [h2]⟩
   · obtain ⟨h1,h2⟩:=fW h;exact ⟨h1,by simp [h2]⟩
theorem fG.head {n0 N:Nat} {st:St} {a:Act} (h:fG (num ns) n0 N G st a w) (live:List Nat):∃G',fG (num ns) n0 N G' (norm (Go.Ab.restrict live st)) a w∧bJ G w G' w:=by
 have h0:=h.restrict live
 have hi:=h0.inv
 have hE:∀p∈(Go.Ab.restrict live st).env,iS p.2=true∧∃v,a.tmps[p.1]?=some v∧aq (num ns) (G.aM live) p.2 v:=by
   intro p hp
   obtain ⟨h1,h2⟩:=dR hp
   obtain ⟨v,h3,h4⟩:=h.env.env p.1 p.2 h1
   refine ⟨?_,v,h3,qX h2 h4⟩
   cases hpx:p.2<;>rw [hpx] at h2<;>simp_all [iS,dI,bg]
 have hM:∀p∈(Go.Ab.restrict live st).mem,FB ns (G.aM live) w p.1 p.2 (G.aM live):=by
   intro p hp
   obtain ⟨h1,h2⟩:=fW hp
   have h3:look (Go.Ab.restrict live st).mem p.1=some p.2:=by
     show look (bC st.mem live) p.1=some p.2
     rw [dd,if_pos h2,h1]
   obtain ⟨b,e1,e2,e3⟩:=hi.cm p.1 p.2 h3
   obtain ⟨hr,c,t,hh,hrel⟩:=e2
   exact ⟨b,c,t,e1,hr,hh,hrel,e3⟩
 obtain ⟨m1,t1,g1,g2⟩:=lY (NS.start hi) hE
 obtain ⟨m3,t3,k1,k2⟩:=lZ (w:=w) g1.qZ hM
 obtain ⟨m2,t2,q1,q2,q3⟩:=gW (iE (G.aM live) w) k1.qZ hi.iE
 have hN:=q1.qZ
 have hle3:=q1.le
 have hle:=Gh.le_trans k1.le q1.le
 have hrole:∀b r,(G.aM live).role b=r→(∀τ,r≠.tok τ)→((G.aM live).lf m2 t2).role b=r:=by
   intro b r hr hn
   show (match (G.aM live).role b with | .tok τ=>(match m2 τ with | some k=>iX.tok k | none=>.dp) | r=>r)=r
   rw [hr]
   cases r with
   | tok τ=>exact absurd rfl (hn τ)
   | _=>rfl
 have hevo:bJ G w ((G.aM live).lf m2 t2) w:={
   size:=Nat.le_refl _,os:=rfl,tape:=rfl,output:=rfl,K:=bf.le_refl G.K,sm:=fun _ _ h=>h,
   dp:=fun b _ hr=>⟨hrole b _ hr (by simp),rfl⟩
   ga:=fun b τ _ hr=>by
     have hr':(G.aM live).role b=.tok τ:=hr
     rw [iD hr']
     cases m2 τ with
     | none=>exact .inl rfl
     | some k=>exact .inr ⟨k,rfl⟩
   e_:=fun _ _ _ _ _ h=>h }
 refine ⟨(G.aM live).lf m2 t2,⟨⟨h.env.size,fun t x hx=>?_⟩,?_,h.marks.tl hevo rfl⟩,hevo⟩
 · obtain ⟨v,h1,h2⟩:=g2 (t,x) (kE hx)
   exact ⟨v,h1,h2.mono hle⟩
 · constructor
   · exact hi.known
   · intro b o v hk
     rcases hi.aY b o v hk with h1 | ⟨τ,h1⟩
     · exact .inl (hrole b _ h1 (by simp))
     · rw [iD h1]
       cases m2 τ with
       | none=>exact .inl rfl
       | some k=>exact .inr ⟨k,rfl⟩
   · intro b hb;exact hrole b _ (hi.fresh b hb) (by simp)
   · intro d cells hd
     obtain ⟨b,c,t,h1,h2,h3,h4,h5⟩:=k2 (d,cells) (kE hd)
     exact ⟨b,h1,⟨hrole b _ h2 (by simp),c,t,h3,al.mono hle3 h4⟩,h5⟩
   · intro d b hd
     exact mZ (hi.fp d b hd)
   · exact hi.EW (G':=(G.aM live).lf m2 t2) (fun _=>rfl) (fun b s hr=>hrole b _ hr (by simp)) q3
   · intro s b hs
     have:=hi.ek s b hs
     have e:(norm (Go.Ab.restrict live st)).sh.length=(Go.Ab.restrict live st).sh.length:=q2
     omega
   · intro k n hn
     have hts:(norm (Go.Ab.restrict live st)).aa=t2.map (·.len):=hN.ts
     rw [hts,List.getElem?_map,Option.map_eq_some_iff] at hn
     obtain ⟨t,ht,rfl⟩:=hn
     refine ⟨t,ht,rfl,?_⟩
     rcases hN.cap k t ht with ⟨τ,hτ⟩ | hc
     · obtain ⟨t',h1,h2⟩:=hN.map τ k hτ
       rw [ht] at h2;cases h2
       obtain ⟨t'',e1,e2,e3⟩:=hi.ct τ _ (hi.d_ τ t h1)
       rw [h1] at e1;cases e1
       refine ⟨e3.cap,e3.zero,fun hlt=>?_⟩
       obtain ⟨b,o,c,ty,f1,f2,f3,f4,f5⟩:=e3.spare hlt
       refine ⟨b,o,c,ty,f1,?_,f3,f4,f5⟩
       rw [iD f2,hτ]
     · exact ⟨by omega,fun h=>by omega,fun h=>h.elim (fun h=>by omega) (fun h=>by rw [hc.2] at h;cases h)⟩
   · intro k t ht
     have hts:(norm (Go.Ab.restrict live st)).aa=t2.map (·.len):=hN.ts
     rw [hts,List.getElem?_map]
     have ht':t2[k]?=some t:=ht
     rw [ht'];rfl
end
end Go.Ab
