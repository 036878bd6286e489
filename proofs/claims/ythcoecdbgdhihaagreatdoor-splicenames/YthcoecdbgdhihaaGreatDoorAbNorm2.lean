import Derived.Test.YthcoecdbgdhihaaGreatDoorAbNorm
/-
  Tokens named anew.
-/
set_option linter.unusedVariables false
set_option linter.unusedSimpArgs false
set_option linter.unnecessarySimpa false
set_option maxRecDepth 100000
set_option maxHeartbeats 8000000
namespace Go.Ab
section
variable {ns:Names} {G:Gh} {w:World}
structure NS (G:Gh) (aY ts:aN) (m:Nat→Option Nat) (tks:List Tk):Prop where
 ts:ts=tks.map (·.len)
 map:∀τ k,m τ=some k→∃t,G.tk τ=some t∧tks[k]?=some t
 inj:∀τ σ k,m τ=some k→m σ=some k→τ=σ
 free:∀τ t,G.tk τ=some t→m τ=none→aY[τ]?=some t.len
 used:∀τ t k,G.tk τ=some t→m τ=some k→aY[τ]?=some (t.len+1)
 cap:∀k t,tks[k]?=some t→(∃τ,m τ=some k)∨(t.cap=t.len∧t.own=false)
def Gh.lh (G:Gh) (m:Nat→Option Nat) (tks:List Tk):Gh:=
 { G with tk:=fun k=>tks[k]?,role:=fun b=>match G.role b with | .tok τ=>(match m τ with | some k=>.tok k | none=>.eE) | r=>r }
theorem Mx {m m':Nat→Option Nat} {tks ext:List Tk}:(G.lh m tks).le (G.lh m' (tks++ext)) where
 K:=bJ.le_refl G.K
 pm:=fun _ _ h=>h
 sm:=fun _ _ h=>h
 tk:=fun k t h=>⟨t,by
   simp only [Gh.lh] at h ⊢;rw [List.getElem?_append_left (List.getElem?_eq_some_iff.1 h).1];exact h,⟨Nat.le_refl _,Tk.gM _⟩,fun _=>rfl⟩
theorem xv {ρ:cy} {m:Nat→Option Nat} {tks:List Tk} {x:AV} {v:Value} (hf:cz x=true) (h:aC ρ G x v):aC ρ (G.lh m tks) x v:=
 iU (G:=G) (G':=G.lh m tks) (bJ.le_refl G.K) (fun _ _ h=>h) hf h
theorem kq {m:Nat→Option Nat} {tks:List Tk} {b τ:Nat} (h:G.role b=.tok τ):(G.lh m tks).role b=match m τ with | some k=>.tok k | none=>.eE:=by
 show (match G.role b with | .tok τ=>(match m τ with | some k=>lr.tok k | none=>.eE) | r=>r)=_;rw [h]
def kO:AV→Bool
 | .aG .. | .jP .. | .own ..=>true
 | .agg cs=>fR cs
 | v=>cz v
structure DJ (ns:Names) (G:Gh) (m:Nat→Option Nat) (tks:List Tk) (old' ts':aN) (m':Nat→Option Nat) (tks':List Tk):Prop where
 xx:NS G old' ts' m' tks'
 ext:∃ext,tks'=tks++ext
theorem DJ.le {m m':Nat→Option Nat} {tks tks':List Tk} {old' ts':aN} (h:DJ ns G m tks old' ts' m' tks'):(G.lh m tks).le (G.lh m' tks'):=by
 obtain ⟨ext,e⟩:=h.ext;subst e;exact Mx
theorem pK {aY ts:aN} {m:Nat→Option Nat} {tks:List Tk} (hN:NS G aY ts m tks) {x:AV} {v:Value} (hx:jr x=true) (h:aC (num ns) G x v) :
   ∃m' tks',DJ ns G m tks (gL aY ts x).2.1 (gL aY ts x).2.2 m' tks'∧aC (num ns) (G.lh m' tks') (gL aY ts x).1 v:=by
 have flat:cz x=true→gL aY ts x=(x,aY,ts)→∃m' tks',DJ ns G m tks (gL aY ts x).2.1 (gL aY ts x).2.2 m' tks'∧aC (num ns) (G.lh m' tks') (gL aY ts x).1 v:=by
   intro hf e;rw [e];exact ⟨m,tks,⟨hN,[],by simp⟩,xv hf h⟩
 cases x with
 | own l τ=>
   simp only [aC] at h;obtain ⟨t,e1,e2,e3,e4⟩:=h;simp only [gL];split
   · rename_i ho;have hm:m τ=none:=by
       cases hm:m τ with
       | none=>rfl
       | some k=>
         have:=hN.used τ t k e1 hm;rw [ho] at this;simp at this;omega
     have hlen:l.length=t.len:=by
       have:=hN.free τ t e1 hm;rw [ho] at this;simpa using this
     have hk:ts.length=tks.length:=(by rw [hN.ts];simp);refine ⟨fun σ=>if σ=τ then some tks.length else m σ,tks++[t],⟨⟨?_,?_,?_,?_,?_,?_⟩,[t],rfl⟩,?_⟩
     · rw [hN.ts,hlen];simp
     · intro σ k hk';split at hk'
       · rename_i e;subst e;simp at hk';subst hk';exact ⟨t,e1,by simp⟩
       · obtain ⟨t',g1,g2⟩:=hN.map σ k hk';exact ⟨t',g1,by rw [List.getElem?_append_left (List.getElem?_eq_some_iff.1 g2).1];exact g2⟩
     · intro σ σ' k h1 h2;split at h1
       · rename_i e;subst e;split at h2
         · rename_i e';exact e'.symm
         · simp at h1;subst h1;obtain ⟨t',_,g2⟩:=hN.map σ' _ h2;have:=(List.getElem?_eq_some_iff.1 g2).1;omega
       · split at h2
         · rename_i e';subst e';simp at h2;subst h2;obtain ⟨t',_,g2⟩:=hN.map σ _ h1;have:=(List.getElem?_eq_some_iff.1 g2).1;omega
         · exact hN.inj σ σ' k h1 h2
     · intro σ t' h1 h2;split at h2
       · simp at h2
       · rename_i e;rw [List.getElem?_set,if_neg (fun e'=>e e'.symm)];exact hN.free σ t' h1 h2
     · intro σ t' k h1 h2;split at h2
       · rename_i e;subst e;rw [e1] at h1;cases h1;rw [List.getElem?_set,if_pos rfl,if_pos (List.getElem?_eq_some_iff.1 ho).1,hlen]
       · rename_i e;rw [List.getElem?_set,if_neg (fun e'=>e e'.symm)];exact hN.used σ t' k h1 h2
     · intro k t' hk';rw [List.getElem?_append] at hk';split at hk'
       · rcases hN.cap k t' hk' with ⟨σ,hσ⟩ | hc
         · left;refine ⟨σ,?_⟩;rw [if_neg]
           · exact hσ
           · rintro rfl;rw [hm] at hσ;simp at hσ
         · exact .inr hc
       · rename_i hge;left;refine ⟨τ,?_⟩;have:k=tks.length:=by
           have:=(List.getElem?_eq_some_iff.1 hk').1;simp at this;omega
         simp [this]
     · simp only [aC];refine ⟨t,by simp [Gh.lh,hk],⟨by omega,e2.2⟩,e3,fun _=>e4 hlen⟩
   · exact ⟨m,tks,⟨hN,[],by simp⟩,by simp only [aC];exact e3⟩
 | _=>exact flat (by simpa [jr] using hx) rfl
theorem nF:∀{xs:List AV} {vs:List Value} {aY ts:aN} {m:Nat→Option Nat} {tks:List Tk},NS G aY ts m tks→fR xs=true→aB (num ns) G xs vs →
   ∃m' tks',DJ ns G m tks (d9 aY ts xs).2.1 (d9 aY ts xs).2.2 m' tks'∧aB (num ns) (G.lh m' tks') (d9 aY ts xs).1 vs
 | [],vs,aY,ts,m,tks,hN,_,h=>⟨m,tks,⟨hN,[],by simp⟩,by simpa only [d9,aB] using h⟩
 | x::xs,vs,aY,ts,m,tks,hN,hl,h=>by
   simp only [fR,Bool.and_eq_true] at hl;simp only [aB] at h;obtain ⟨v,r,e,e1,e2⟩:=h;subst e;obtain ⟨m1,t1,g1,g2⟩:=pK hN hl.1 e1;obtain ⟨m2,t2,k1,k2⟩:=nF g1.xx hl.2 e2;refine ⟨m2,t2,⟨k1.xx,?_⟩,?_⟩
   · obtain ⟨a,ha⟩:=g1.ext;obtain ⟨b,hb⟩:=k1.ext;exact ⟨a++b,by rw [hb,ha,List.append_assoc]⟩
   · simp only [d9,aB];exact ⟨v,r,rfl,g2.mono k1.le,k2⟩
theorem lA {aY ts:aN} {m:Nat→Option Nat} {tks:List Tk} (hN:NS G aY ts m tks) {x:AV} {v:Value} (hx:kO x=true) (h:aC (num ns) G x v) :
   ∃m' tks',DJ ns G m tks (cg aY ts x).2.1 (cg aY ts x).2.2 m' tks'∧aC (num ns) (G.lh m' tks') (cg aY ts x).1 v:=by
 have flat:cz x=true→cg aY ts x=(x,aY,ts)→∃m' tks',DJ ns G m tks (cg aY ts x).2.1 (cg aY ts x).2.2 m' tks'∧aC (num ns) (G.lh m' tks') (cg aY ts x).1 v:=by
   intro hf e;rw [e];exact ⟨m,tks,⟨hN,[],by simp⟩,xv hf h⟩
 cases x with
 | own l τ=>exact pK (x:=.own l τ) hN rfl h
 | bM l=>
   simp only [aC] at h;obtain ⟨base,len,rfl,hsl⟩:=h;have hk:ts.length=tks.length:=by rw [hN.ts];simp
   have hlen:=hsl.1;obtain ⟨sz,hrow⟩:∃sz,l=[]∨∃b o,base=some ⟨b,o,none⟩∧Row G.K b o sz l:=by
     rcases hsl.2 with h1 | ⟨b,o,sz,e,hr⟩
     · exact ⟨0,.inl h1⟩
     · exact ⟨sz,.inr ⟨b,o,e,hr⟩⟩
   let t:Tk:=⟨base,len,len,sz,false⟩
   refine ⟨m,tks++[t],⟨⟨?_,?_,hN.inj,hN.free,hN.used,?_⟩,[t],rfl⟩,?_⟩
   · simp only [cg];rw [hN.ts];simp [t,hlen]
   · intro σ k hk';obtain ⟨t',g1,g2⟩:=hN.map σ k hk';exact ⟨t',g1,by rw [List.getElem?_append_left (List.getElem?_eq_some_iff.1 g2).1];exact g2⟩
   · intro k t' hk';rw [List.getElem?_append] at hk';split at hk'
     · exact hN.cap k t' hk'
     · right;have:t'=t:=by
         have h1:=List.mem_of_getElem? hk';simpa using h1
       rw [this];exact ⟨rfl,rfl⟩
   · simp only [cg,aC];refine ⟨t,by simp [Gh.lh,hk],⟨by simp [t,hlen],t.qn⟩,cK.2 ⟨_,_,_,rfl,Nat.le_refl _,hsl⟩,fun _=>⟨rfl,hrow⟩⟩
 | aG d o=>
   simp only [cg];exact ⟨m,tks,⟨hN,[],by simp⟩,by simp only [aC] at h ⊢;exact h⟩
 | jP d o=>
   simp only [cg];exact ⟨m,tks,⟨hN,[],by simp⟩,by simp only [aC] at h ⊢;exact h⟩
 | pv p=>exact flat rfl rfl
 | un=>exact flat rfl rfl
 | br _ _=>exact flat rfl rfl
 | bE _ _ _ _=>exact flat rfl rfl
 | gf _=>exact flat rfl rfl
 | jN=>exact flat rfl rfl
 | fn _ _=>exact flat (by simpa [kO] using hx) rfl
 | agg cs=>
   by_cases hf:cz.gB cs=true
   · exact flat (by simpa [cz] using hf) (by simp only [cg];rw [if_pos hf])
   · simp only [aC] at h;obtain ⟨vs,rfl,r⟩:=h;obtain ⟨m',tks',g1,g2⟩:=nF hN (by simpa [kO] using hx) r;have e:cg aY ts (.agg cs)=(.agg (d9 aY ts cs).1,(d9 aY ts cs).2.1,(d9 aY ts cs).2.2):=by simp only [cg];rw [if_neg hf]
     rw [e];exact ⟨m',tks',g1,by simp only [aC];exact ⟨vs,rfl,g2⟩⟩
 | pg _=>exact flat (by simpa [kO] using hx) rfl
 | jO _=>exact flat rfl rfl
 | oA _ _ _=>exact flat rfl rfl
 | fF _=>simp only [aC] at h
theorem zZ {x:AV} (h:bp x=true):kO x=true:=by
 rcases mU h with hf | ⟨l,τ,rfl⟩
 · cases x<;>simp_all [kO,cz,bp]
 · rfl
theorem z5 {aY ts:aN} {x:AV} (h:bp x=true):bp (cg aY ts x).1=true:=by
 cases x with
 | own l τ=>simp only [cg];split<;>rfl
 | bM l=>rfl
 | agg _=>simp [bp] at h
 | _=>exact h
theorem lB:∀{xs:List AV} {vs:List Value} {aY ts:aN} {m:Nat→Option Nat} {tks:List Tk},NS G aY ts m tks→xs.all bp=true→aB (num ns) G xs vs →
   ∃m' tks',DJ ns G m tks (bP aY ts xs).2.1 (bP aY ts xs).2.2 m' tks'∧aB (num ns) (G.lh m' tks') (bP aY ts xs).1 vs∧(bP aY ts xs).1.all bp=true
 | [],vs,aY,ts,m,tks,hN,_,h=>⟨m,tks,⟨hN,[],by simp⟩,by simpa only [bP,aB] using h,rfl⟩
 | x::xs,vs,aY,ts,m,tks,hN,hl,h=>by
   simp only [List.all_cons,Bool.and_eq_true] at hl;simp only [aB] at h;obtain ⟨v,r,e,e1,e2⟩:=h;subst e;obtain ⟨m1,t1,g1,g2⟩:=lA hN (zZ hl.1) e1;obtain ⟨m2,t2,k1,k2,k3⟩:=lB g1.xx hl.2 e2;refine ⟨m2,t2,⟨k1.xx,?_⟩,?_,?_⟩
   · obtain ⟨a,ha⟩:=g1.ext;obtain ⟨b,hb⟩:=k1.ext;exact ⟨a++b,by rw [hb,ha,List.append_assoc]⟩
   · simp only [bP,aB];exact ⟨v,r,rfl,g2.mono k1.le,k2⟩
   · simp only [bP,List.all_cons,k3,Bool.and_true];exact z5 hl.1
theorem pL {a:Act}:∀{env:List (Nat×AV)} {aY ts:aN} {m:Nat→Option Nat} {tks:List Tk},NS G aY ts m tks →
   (∀p∈env,kO p.2=true∧∃v,a.tmps[p.1]?=some v∧aC (num ns) G p.2 v) →
   ∃m' tks',DJ ns G m tks (dH aY ts env).2.1 (dH aY ts env).2.2 m' tks'∧∀p∈(dH aY ts env).1,∃v,a.tmps[p.1]?=some v∧aC (num ns) (G.lh m' tks') p.2 v
 | [],aY,ts,m,tks,hN,_=>⟨m,tks,⟨hN,[],by simp⟩,by simp [dH]⟩
 | (t,x)::env,aY,ts,m,tks,hN,h=>by
   obtain ⟨hx,v,hv,hr⟩:=h (t,x) (by simp);obtain ⟨m1,t1,g1,g2⟩:=lA hN hx hr;obtain ⟨m2,t2,k1,k2⟩:=pL (env:=env) (a:=a) g1.xx (fun p hp=>h p (by simp [hp]));refine ⟨m2,t2,⟨k1.xx,?_⟩,?_⟩
   · obtain ⟨a,ha⟩:=g1.ext;obtain ⟨b,hb⟩:=k1.ext;exact ⟨a++b,by rw [hb,ha,List.append_assoc]⟩
   · intro p hp;simp only [dH,List.mem_cons] at hp;rcases hp with rfl | hp
     · exact ⟨v,hv,g2.mono k1.le⟩
     · exact k2 p hp
def My (ns:Names) (G:Gh) (w:World) (d:Nat) (cells:List AV) (G':Gh):Prop:=
 ∃b c t,G.pm d=some b∧G.role b=.kT d∧w.heap[b]?=some (.cells c t (0,0))∧aB (num ns) G' cells c.toList∧cells.all bp=true
theorem pM:∀{mem:List (Nat×List AV)} {aY ts:aN} {m:Nat→Option Nat} {tks:List Tk},NS G aY ts m tks →
   (∀p∈mem,My ns G w p.1 p.2 G) →
   ∃m' tks',DJ ns G m tks (fq aY ts mem).2.1 (fq aY ts mem).2.2 m' tks'∧∀p∈(fq aY ts mem).1,My ns G w p.1 p.2 (G.lh m' tks')
 | [],aY,ts,m,tks,hN,_=>⟨m,tks,⟨hN,[],by simp⟩,by simp [fq]⟩
 | (d,cells)::mem,aY,ts,m,tks,hN,h=>by
   obtain ⟨b,c,t,h1,h2,h3,h4,h5⟩:=h (d,cells) (by simp);obtain ⟨m1,t1,g1,g2,g3⟩:=lB hN h5 h4;obtain ⟨m2,t2,k1,k2⟩:=pM (mem:=mem) g1.xx (fun p hp=>h p (by simp [hp]));refine ⟨m2,t2,⟨k1.xx,?_⟩,?_⟩
   · obtain ⟨a,ha⟩:=g1.ext;obtain ⟨b,hb⟩:=k1.ext;exact ⟨a++b,by rw [hb,ha,List.append_assoc]⟩
   · intro p hp;simp only [fq,List.mem_cons] at hp;rcases hp with rfl | hp
     · exact ⟨b,c,t,h1,h2,h3,aB.mono k1.le g2,g3⟩
     · exact k2 p hp
theorem z6 {aY ts:aN} {n:Nat} {x:AV} (h:aW n x=true):aW n (gL aY ts x).1=true:=by
 unfold gL;split
 · split<;>simp [aW]
 · exact h
theorem pN {n:Nat}:∀{xs:List AV} {aY ts:aN},aW.cX n xs=true→aW.cX n (d9 aY ts xs).1=true
 | [],_,_,_=>rfl
 | x::xs,aY,ts,h=>by
   simp only [aW.cX,Bool.and_eq_true] at h;simp only [d9,aW.cX,z6 h.1,Bool.true_and];exact pN h.2
theorem z7 {aY ts:aN} {n:Nat} {x:AV} (h:aW n x=true):aW n (cg aY ts x).1=true:=by
 unfold cg;split
 · split<;>simp [aW]
 · simp [aW]
 · split
   · exact h
   · simp only [aW] at h ⊢;exact pN h
 · exact h
theorem rj {n:Nat}:∀{xs:List AV} {aY ts:aN},xs.all (aW n)=true→(bP aY ts xs).1.all (aW n)=true
 | [],_,_,_=>rfl
 | x::xs,aY,ts,h=>by
   simp only [List.all_cons,Bool.and_eq_true] at h;simp only [bP,List.all_cons,z7 h.1,Bool.true_and];exact rj h.2
theorem jz:∀{sh:Sh} {aY ts:aN} {m:Nat→Option Nat} {tks:List Tk} (R:Nat→Option (Obj×Nat)),NS G aY ts m tks →
   (∀s cells,sh[s]?=some (some cells)→cells.all bp=true∧∃o,R s=some o∧Holds (num ns) G o.1 o.2 cells) →
   ∃m' tks',DJ ns G m tks (bV aY ts sh).2.1 (bV aY ts sh).2.2 m' tks'∧(bV aY ts sh).1.length=sh.length ∧
     ∀s cells',(bV aY ts sh).1[s]?=some (some cells')→∃cells,sh[s]?=some (some cells)∧(∃o,R s=some o∧Holds (num ns) (G.lh m' tks') o.1 o.2 cells')∧cells'.all bp=true∧∀n,cells.all (aW n)=true→cells'.all (aW n)=true
 | [],aY,ts,m,tks,R,hN,_=>⟨m,tks,⟨hN,[],by simp⟩,rfl,fun s cells' h=>by simp [bV] at h⟩
 | none::sh,aY,ts,m,tks,R,hN,h=>by
   obtain ⟨m1,t1,g1,g2,g3⟩:=jz (sh:=sh) (fun s=>R (s+1)) hN (fun s cells hs=>h (s+1) cells (by simpa using hs));refine ⟨m1,t1,g1,by simp [bV,g2],fun s cells' hs=>?_⟩;cases s with
   | zero=>simp [bV] at hs
   | succ s=>
     obtain ⟨cells,k1,k2⟩:=g3 s cells' (by simpa [bV] using hs);exact ⟨cells,by simpa using k1,k2⟩
 | some cs::sh,aY,ts,m,tks,R,hN,h=>by
   obtain ⟨hl,o,hR,hr⟩:=h 0 cs rfl;obtain ⟨m1,t1,g1,g2,g3⟩:∃m' tks',DJ ns G m tks (bP aY ts cs).2.1 (bP aY ts cs).2.2 m' tks'∧Holds (num ns) (G.lh m' tks') o.1 o.2 (bP aY ts cs).1∧(bP aY ts cs).1.all bp=true:=by
     rcases hr with ⟨c,t,vs,suf,ho,e3,e4,hr⟩ | ⟨es,clock,kvs,ho,rfl,hm⟩
     · obtain ⟨m1,t1,g1,g2,g3⟩:=lB hN hl hr;exact ⟨m1,t1,g1,.inl ⟨c,t,vs,suf,ho,e3,e4,g2⟩,g3⟩
     · exact ⟨m,tks,⟨hN,[],by simp⟩,.inr ⟨es,clock,kvs,ho,rfl,hm⟩,rfl⟩
   obtain ⟨m2,t2,k1,k2,k3⟩:=jz (sh:=sh) (fun s=>R (s+1)) g1.xx (fun s cells hs=>h (s+1) cells (by simpa using hs));refine ⟨m2,t2,⟨k1.xx,?_⟩,by simp [bV,k2],fun s cells' hs=>?_⟩
   · obtain ⟨a,ha⟩:=g1.ext;obtain ⟨b,hb⟩:=k1.ext;exact ⟨a++b,by rw [hb,ha,List.append_assoc]⟩
   · cases s with
     | zero=>
       simp only [bV,List.getElem?_cons_zero,Option.some.injEq] at hs;subst hs;exact ⟨cs,rfl,⟨o,hR,g2.mono k1.le⟩,g3,fun n hn=>rj hn⟩
     | succ s=>
       obtain ⟨cells,q1,q2⟩:=k3 s cells' (by simpa [bV] using hs);exact ⟨cells,by simpa using q1,q2⟩
def kr (G:Gh) (w:World) (s:Nat):Option (Obj×Nat):=(G.sm s).bind fun b=>(w.heap[b.1]?).map fun o=>(o,b.2)
theorem Inv.kr {mem:List (Nat×List AV)} {sh:Sh} {ah:aN} (hi:Inv (num ns) G w mem sh ah):∀s cells,sh[s]?=some (some cells)→cells.all bp=true∧∃o,Go.Ab.kr G w s=some o∧Holds (num ns) G o.1 o.2 cells:=by
 intro s cells hs;obtain ⟨b,e1,e2,e3,e4⟩:=hi.dP s cells hs;obtain ⟨hr,o,hh,hrel⟩:=e2;exact ⟨e3,(o,b.2),by simp [Go.Ab.kr,e1,hh],hrel⟩
theorem Inv.LA {mem:List (Nat×List AV)} {sh:Sh} {ah:aN} (hi:Inv (num ns) G w mem sh ah) {sh':Sh} {G':Gh} (hsm:∀s,G'.sm s=G.sm s) (hrole:∀b s,G.role b=.shr s→G'.role b=.shr s)
   (h:∀s cells',sh'[s]?=some (some cells')→∃cells,sh[s]?=some (some cells)∧(∃o,Go.Ab.kr G w s=some o∧Holds (num ns) G' o.1 o.2 cells')∧cells'.all bp=true∧∀n,cells.all (aW n)=true→cells'.all (aW n)=true) :
   ∀s cells,sh'[s]?=some (some cells)→∃b,G'.sm s=some b∧uW (num ns) G' w b (.shr s) cells∧cells.all dS=true∧cells.all (aW (s+1))=true:=by
 intro s cells' hs;obtain ⟨cells,h1,⟨o,h2,h2'⟩,h3,h4⟩:=h s cells' hs;obtain ⟨b,e1,e2,e3,e4⟩:=hi.dP s cells h1;simp only [Go.Ab.kr,e1,Option.bind_some,Option.map_eq_some_iff] at h2;obtain ⟨o',h5,rfl⟩:=h2;exact ⟨b,by rw [hsm];exact e1,⟨hrole b.1 s e2.role,o',h5,h2'⟩,h3,h4 _ e4⟩
theorem rm {α:Type}:∀{l:List (Nat×α)} {t:Nat} {x:α},look l t=some x→(t,x)∈l
 | [],_,_,h=>by simp [look] at h
 | (s,y)::l,t,x,h=>by
   simp only [look] at h;split at h
   · rename_i e;subst e;cases h;simp
   · exact List.mem_cons_of_mem _ (rm h)
theorem rn:∀{mem:List (Nat×List AV)} {aY ts:aN} {d:Nat},(look mem d).isSome=true→(look (fq aY ts mem).1 d).isSome=true
 | [],_,_,d,h=>by simp [look] at h
 | (s,y)::mem,aY,ts,d,h=>by
   simp only [fq,look] at h ⊢;split
   · rfl
   · rename_i hne;rw [if_neg hne] at h;exact rn h
theorem NS.start {mem:List (Nat×List AV)} {sh:Sh} {ah:aN} (hi:Inv (num ns) G w mem sh ah):NS G ah [] (fun _=>none) [] where
 ts:=rfl
 map:=by intro τ k h;simp at h
 inj:=by intro τ σ k h;simp at h
 free:=fun τ t h _=>hi.fc τ t h
 used:=by intro τ t k _ h;simp at h
 cap:=by intro k t h;simp at h
theorem gr {live:List Nat} {env:List (Nat×AV)}:∀{l:List Nat} {p:Nat×AV},p∈cb live env l→look env p.1=some p.2∧en live p.2=true
 | [],p,h=>by simp [cb] at h
 | s::l,p,h=>by
   simp only [cb] at h;split at h
   · rename_i u hu;split at h
     · rename_i hk;simp only [List.mem_cons] at h;rcases h with rfl | h
       · exact ⟨hu,hk⟩
       · exact gr h
     · exact gr h
   · exact gr h
theorem iH {mem:List (Nat×List AV)}:∀{l:List Nat} {p:Nat×List AV},p∈ck mem l→look mem p.1=some p.2∧p.1∈l
 | [],p,h=>by simp [ck] at h
 | s::l,p,h=>by
   simp only [ck] at h;split at h
   · rename_i u hu;simp only [List.mem_cons] at h;rcases h with rfl | h
     · exact ⟨hu,by simp⟩
     · obtain ⟨h1,h2⟩:=iH h;exact ⟨h1,by simp [h2]⟩
   · obtain ⟨h1,h2⟩:=iH h;exact ⟨h1,by simp [h2]⟩
theorem gT.head {n0 N:Nat} {st:St} {a:Act} (h:gT (num ns) n0 N G st a w) (live:List Nat):∃G',gT (num ns) n0 N G' (norm (Go.Ab.restrict live st)) a w∧cq G w G' w:=by
 have h0:=h.restrict live;have hi:=h0.inv;have hE:∀p∈(Go.Ab.restrict live st).env,kO p.2=true∧∃v,a.tmps[p.1]?=some v∧aC (num ns) (G.bq live) p.2 v:=by
   intro p hp;obtain ⟨h1,h2⟩:=gr hp;obtain ⟨v,h3,h4⟩:=h.env.env p.1 p.2 h1;refine ⟨?_,v,h3,xu h2 h4⟩;cases hpx:p.2<;>rw [hpx] at h2<;>simp_all [kO,en,cz]
 have hM:∀p∈(Go.Ab.restrict live st).mem,My ns (G.bq live) w p.1 p.2 (G.bq live):=by
   intro p hp;obtain ⟨h1,h2⟩:=iH hp;have h3:look (Go.Ab.restrict live st).mem p.1=some p.2:=by
     show look (ck st.mem live) p.1=some p.2;rw [dY,if_pos h2,h1]
   obtain ⟨b,e1,e2,e3⟩:=hi.dq p.1 p.2 h3;obtain ⟨hr,c,t,hh,hrel⟩:=e2;exact ⟨b,c,t,e1,hr,hh,hrel,e3⟩
 obtain ⟨m1,t1,g1,g2⟩:=pL (NS.start hi) hE;obtain ⟨m3,t3,k1,k2⟩:=pM (w:=w) g1.xx hM;obtain ⟨m2,t2,q1,q2,q3⟩:=jz (kr (G.bq live) w) k1.xx hi.kr;have hN:=q1.xx;have hle3:=q1.le;have hle:=Gh.le_trans k1.le q1.le;have hrole:∀b r,(G.bq live).role b=r→(∀τ,r≠.tok τ)→((G.bq live).lh m2 t2).role b=r:=by
   intro b r hr hn;show (match (G.bq live).role b with | .tok τ=>(match m2 τ with | some k=>lr.tok k | none=>.eE) | r=>r)=r;rw [hr];cases r with
   | tok τ=>exact absurd rfl (hn τ)
   | _=>rfl
 have hevo:cq G w ((G.bq live).lh m2 t2) w:={
   size:=Nat.le_refl _,os:=rfl,tape:=rfl,output:=rfl,K:=bJ.le_refl G.K,sm:=fun _ _ h=>h,
   eE:=fun b _ hr=>⟨hrole b _ hr (by simp),rfl⟩
   iG:=fun b τ _ hr=>by
     have hr':(G.bq live).role b=.tok τ:=hr;rw [kq hr'];cases m2 τ with
     | none=>exact .inl rfl
     | some k=>exact .inr ⟨k,rfl⟩
   gO:=fun _ _ _ _ _ h=>h }
 refine ⟨(G.bq live).lh m2 t2,⟨⟨h.env.size,fun t x hx=>?_⟩,?_,h.marks.pn hevo rfl⟩,hevo⟩
 · obtain ⟨v,h1,h2⟩:=g2 (t,x) (rm hx);exact ⟨v,h1,h2.mono hle⟩
 · constructor
   · exact hi.known
   · intro b o v hk;rcases hi.bz b o v hk with h1 | ⟨τ,h1⟩
     · exact .inl (hrole b _ h1 (by simp))
     · rw [kq h1];cases m2 τ with
       | none=>exact .inl rfl
       | some k=>exact .inr ⟨k,rfl⟩
   · intro b hb;exact hrole b _ (hi.fresh b hb) (by simp)
   · intro d cells hd;obtain ⟨b,c,t,h1,h2,h3,h4,h5⟩:=k2 (d,cells) (rm hd);exact ⟨b,h1,⟨hrole b _ h2 (by simp),c,t,h3,aB.mono hle3 h4⟩,h5⟩
   · intro d b hd;exact rn (hi.gN d b hd)
   · exact hi.LA (G':=(G.bq live).lh m2 t2) (fun _=>rfl) (fun b s hr=>hrole b _ hr (by simp)) q3
   · intro s b hs;have:=hi.eJ s b hs;have e:(norm (Go.Ab.restrict live st)).sh.length=(Go.Ab.restrict live st).sh.length:=q2;omega
   · intro k n hn;have hts:(norm (Go.Ab.restrict live st)).ah=t2.map (·.len):=hN.ts;rw [hts,List.getElem?_map,Option.map_eq_some_iff] at hn;obtain ⟨t,ht,rfl⟩:=hn;refine ⟨t,ht,rfl,?_⟩;rcases hN.cap k t ht with ⟨τ,hτ⟩ | hc
     · obtain ⟨t',h1,h2⟩:=hN.map τ k hτ;rw [ht] at h2;cases h2;obtain ⟨t'',e1,e2,e3⟩:=hi.dI τ _ (hi.fc τ t h1);rw [h1] at e1;cases e1;refine ⟨e3.cap,e3.zero,fun hlt=>?_⟩;obtain ⟨b,o,c,ty,f1,f2,f3,f4,f5⟩:=e3.spare hlt;refine ⟨b,o,c,ty,f1,?_,f3,f4,f5⟩;rw [kq f2,hτ]
     · exact ⟨by omega,fun h=>by omega,fun h=>h.elim (fun h=>by omega) (fun h=>by rw [hc.2] at h;cases h)⟩
   · intro k t ht;have hts:(norm (Go.Ab.restrict live st)).ah=t2.map (·.len):=hN.ts;rw [hts,List.getElem?_map];have ht':t2[k]?=some t:=ht;rw [ht'];rfl
   · exact fun b c hb=>⟨hrole b _ (hi.jS b c hb).1 (by simp),(hi.jS b c hb).2⟩
end
end Go.Ab
