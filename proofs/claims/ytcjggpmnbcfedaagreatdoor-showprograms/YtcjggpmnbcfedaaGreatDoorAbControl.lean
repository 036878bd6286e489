import Derived.Test.YtcjggpmnbcfedaaGreatDoorAbBack
/-
  Code and functions: what the evaluator gives is what the model does.
-/
set_option linter.unusedVariables false
set_option linter.unusedSimpArgs false
set_option linter.unnecessarySimpa false
set_option maxRecDepth 100000
set_option maxHeartbeats 8000000
namespace Go.Ab
section
variable {n0:Nat} {P:Program} {ns:Names} {ro:Option Nat}
theorem qR {c:Code} {Q:Exit→Act→World→Prop} {f:St→Option (bo×St)} {pre:St→St} {N:Nat}
   (hpre:∀{st:St} {G:Gh} {a:Act} {w:World},fZ (num ns) n0 N G st a w→∃G',fZ (num ns) n0 N G' (pre st) a w∧bZ G w G' w)
   (hf:∀{st st':St} {e:bo} {G:Gh} {a:Act} {w:World} {Q:Exit→Act→World→Prop},f st=some (e,st')→fZ (num ns) n0 N G st a w →
     (∀G' a' w',fZ (num ns) n0 N G' st' a' w'→bZ G w G' w'→Q (iV e) a' w')→c.wpIn (qL ro) 0 P Q a w) :
   ∀(n:Nat) {st st':St} {e:bo} {G:Gh} {a:Act} {w:World},fQ f pre n st=some (e,st')→fZ (num ns) n0 N G st a w →
     (∀G' a' w',fZ (num ns) n0 N G' st' a' w'→bZ G w G' w'→Q (iV e) a' w')→Code.roundsIn (qL ro) 0 P c Q n a w
 | 0,st,st',e,G,a,w,h,_,_=>by simp [fQ] at h
 | n+1,st,st',e,G,a,w,h,hs,hq=>by
   rw [roundsIn_succ]
   obtain ⟨G0,hs0,he0⟩:=hpre hs
   simp only [fQ] at h
   split at h
   · rename_i st1 h1
     refine hf h1 hs0 fun G' a' w' hs' he'=>?_
     exact qR hpre hf n h hs' fun G'' a'' w'' hs'' he''=>hq G'' a'' w'' hs'' ((he0.trans he').trans he'')
   · rename_i r hr
     have hne:e≠.normal:=by
       rintro rfl
       exact hr st' h
     refine hf h hs0 fun G' a' w' hs' he'=>?_
     have:=hq G' a' w' hs' (he0.trans he')
     cases e with
     | normal=>exact absurd rfl hne
     | ret=>exact this
     | exit id=>exact this
theorem DM {N:Nat} {v:AV} {st:St} {G:Gh} {a:Act} {w:World} (h:fZ (num ns) n0 N G st a w):∃G',fZ (num ns) n0 N G' (A4 v st) a w∧bZ G w G' w:=by
 unfold A4
 split
 · rename_i st' d
   split
   · rename_i cs hcs
     split
     · rename_i ps hps
       obtain ⟨G1,k1,k2,k3,k4,k5⟩:=Inv.kill ([.agg cs].flatMap eP) h.inv
       obtain ⟨b,e1,⟨e2,c,t,e3,e4⟩,e5⟩:=h.inv.cW d cs hcs
       obtain ⟨b',f1,⟨f2,c',t',f3,f4⟩,f5⟩:=k1.cW d cs hcs
       have hb:b=b':=by have:=k2.pm d b e1;rw [f1] at this;simpa using this.symm
       subst hb
       have hcc:c=c':=by rw [e3] at f3;cases f3;rfl
       subst hcc
       have hrl:dP G1.K ps c.toList:=kR k2 k4 h.inv.sk (fun s hs=>by simpa using hs) hps e4
       have hlf:(ps.map AV.pv).all bm=true:=by
         rw [List.all_eq_true]
         intro x hx
         rw [List.mem_map] at hx
         obtain ⟨p,hp,rfl⟩:=hx
         have:=kA hrl p hp
         cases p<;>first | rfl | simp [eA] at this
       refine ⟨G1,⟨⟨h.env.size,fun t' x hx=>?_⟩,?_,h.marks.oo k3 rfl⟩,k3⟩
       · obtain ⟨u',g1,g2⟩:=h.env.env t' x hx
         exact ⟨u',g1,g2.mono k2⟩
       · refine ⟨k1.known,k1.bt,k1.fresh,?_,?_,k1.dp,k1.eR,k1.di,k1.fo⟩
         · intro d' cs' hd'
           by_cases hdd:d=d'
           · subst hdd
             rw [bG] at hd'
             cases hd'
             exact ⟨b,f1,⟨f2,c,t',f3,iI hrl⟩,hlf⟩
           · rw [bY _ _ _ _ hdd] at hd'
             exact k1.cW d' cs' hd'
         · intro d' b' hd'
           by_cases hdd:d=d'
           · subst hdd;rw [bG];rfl
           · rw [bY _ _ _ _ hdd];exact k1.g_ d' b' hd'
     · exact ⟨G,h,bZ.refl G w⟩
   · exact ⟨G,h,bZ.refl G w⟩
 · exact ⟨G,h,bZ.refl G w⟩
theorem jB {N:Nat}:∀{ts:List Nat} {st:St} {G:Gh} {a:Act} {w:World},fZ (num ns) n0 N G st a w→∃G',fZ (num ns) n0 N G' (lU ts st) a w∧bZ G w G' w
 | [],st,G,a,w,h=>⟨G,h,bZ.refl G w⟩
 | t::r,st,G,a,w,h=>by
   simp only [lU]
   split
   · rename_i v hv
     split
     · rename_i p hp
       obtain ⟨G1,k1,k2,k3,k4,k5⟩:=Inv.kill ([v].flatMap eP) h.inv
       obtain ⟨u,hu,hr⟩:=h.env.env t v hv
       have hrel:Rel G1.K p u:=sj k2 k4 h.inv.sk (fun s hs=>by simpa using hs) hp hr
       have h1:fZ (num ns) n0 N G1 { st with env:=dt st.env t (.pv p),sh:=dY st.sh [v] } a w:=by
         refine ⟨⟨h.env.size,fun t' x hx=>?_⟩,k1,h.marks.oo k3 rfl⟩
         by_cases ht:t'=t
         · subst ht
           rw [Ev.mS,if_pos rfl] at hx
           cases hx
           exact ⟨u,hu,by simpa only [au] using hrel⟩
         · rw [Ev.mS,if_neg ht] at hx
           obtain ⟨u',f1,f2⟩:=h.env.env t' x hx
           exact ⟨u',f1,f2.mono k2⟩
       obtain ⟨G2,h2,he⟩:=jB (ts:=r) h1
       exact ⟨G2,h2,k3.trans he⟩
     · obtain ⟨G1,h1,e1⟩:=DM (v:=v) h
       obtain ⟨G2,h2,e2⟩:=jB (ts:=r) h1
       exact ⟨G2,h2,e1.trans e2⟩
   · exact jB h
theorem mV {α:Type} {d:Nat}:∀{l:List (Nat×α)} {t:Nat},look (Fs d l) t=if t=d then none else look l t
 | [],t=>by simp [Fs,look]
 | (k,v)::r,t=>by
   simp only [Fs]
   by_cases hk:k=d
   · rw [if_pos hk,mV]
     by_cases ht:t=d
     · rw [if_pos ht,if_pos ht]
     · rw [if_neg ht,if_neg ht]
       simp only [look]
       rw [if_neg (by rintro rfl;exact ht hk)]
   · rw [if_neg hk]
     simp only [look]
     by_cases hkt:k=t
     · subst hkt;rw [if_pos rfl,if_neg hk,if_pos rfl]
     · rw [if_neg hkt,if_neg hkt,mV]
theorem pV {d s sz n:Nat} {ag:Bool} {env:List (Nat×AV)}:∀{l:List Nat} {t:Nat} {x:AV},look (Fq d s sz n ag env l) t=some x →
   ∃y,look env t=some y∧PC d s sz n ag y=some x
 | [],t,x,h=>by simp [Fq,look] at h
 | k::r,t,x,h=>by
   simp only [Fq] at h
   split at h
   · rename_i v hv
     simp only [look] at h
     split at h
     · rename_i e;subst e;cases h
       rw [Option.bind_eq_some_iff] at hv
       exact hv
     · exact pV h
   · exact pV h
def Gh.lS (G:Gh) (d b s n:Nat):Gh:=
 { G with role:=fun x=>if x=b then .shr s else G.role x,pm:=fun x=>if x=d then none else G.pm x,sm:=fun x=>if x=s then some (b,n) else G.sm x }
theorem Aa {ρ:cr} {G:Gh} {d b s n:Nat} (hs:G.sm s=none) {x:AV} {v:Value} (hf:gi x=true) (h:au ρ G x v):au ρ (G.lS d b s n) x v:=by
 refine uQ (G':=G.lS d b s n) (bB.le_refl G.K) (fun s' b' e=>?_) (fun _ _ e=>e) hf h
 simp only [Gh.lS]
 rw [if_neg (by rintro rfl;rw [hs] at e;cases e)]
 exact e
theorem Ac {x:AV} (h:bm x=true):gi x=true:=by
 rcases nG h with hf | ⟨l,τ,rfl⟩
 · cases x with
   | own l τ=>rfl
   | _=>simpa [gi] using hf
 · rfl
theorem oY:∀{xs:List AV},xs.all bm=true→fH xs=true
 | [],_=>rfl
 | x::xs,h=>by
   simp only [List.all_cons,Bool.and_eq_true] at h
   simp only [fH,Bool.and_eq_true]
   exact ⟨Ac h.1,oY h.2⟩
theorem pW {ρ:cr} {G:Gh} {d b s n:Nat} (hs:G.sm s=none) {xs:List AV} {vs:List Value} (hf:xs.all bm=true) (h:aw ρ G xs vs):aw ρ (G.lS d b s n) xs vs:=by
 refine jx (G':=G.lS d b s n) (bB.le_refl G.K) (fun s' b' e=>?_) (fun _ _ e=>e) (oY hf) h
 simp only [Gh.lS]
 rw [if_neg (by rintro rfl;rw [hs] at e;cases e)]
 exact e
theorem DN {N d sz:Nat} {ag:Bool} {st:St} {G:Gh} {a:Act} {w:World} (h:fZ (num ns) n0 N G st a w):∃G',fZ (num ns) n0 N G' (PD d sz ag st) a w∧bZ G w G' w:=by
 unfold PD
 split
 · rename_i cells hcs
   split
   · rename_i hok
     obtain ⟨hlf,hrf⟩:=hok
     obtain ⟨b,e1,⟨e2,c,t,e3,e4⟩,e5⟩:=h.inv.cW d cells hcs
     have hsm:G.sm st.sh.length=none:=by
       cases hx:G.sm st.sh.length with
       | none=>rfl
       | some b'=>have:=h.inv.eR _ _ hx;omega
     have hcl:c.size=cells.length:=by have:=e4.length;simpa using this
     have hbs:b<w.heap.size:=(Array.getElem?_eq_some_iff.1 e3).1
     have hevo:bZ G w (G.lS d b st.sh.length cells.length) w:=
       { size:=Nat.le_refl _,os:=rfl,tape:=rfl,output:=rfl,K:=bB.le_refl G.K
         sm:=fun s' b' e=>by
           simp only [Gh.lS]
           rw [if_neg (by rintro rfl;rw [hsm] at e;cases e)]
           exact e
         d_:=fun b' _ hr=>⟨by
           simp only [Gh.lS]
           rw [if_neg (by rintro rfl;rw [e2] at hr;cases hr)]
           exact hr,rfl⟩
         iT:=fun b' τ _ hr=>.inr ⟨τ,by
           simp only [Gh.lS]
           rw [if_neg (by rintro rfl;rw [e2] at hr;cases hr)]
           exact hr⟩
         hH:=fun _ _ _ _ _ hk=>hk }
     have hrole:∀b' r,G.role b'=r→r≠.lK d→(G.lS d b st.sh.length cells.length).role b'=r:=by
       intro b' r hr hn
       simp only [Gh.lS]
       rw [if_neg (by rintro rfl;rw [e2] at hr;exact hn hr.symm)]
       exact hr
     refine ⟨G.lS d b st.sh.length cells.length,⟨⟨h.env.size,fun t' x hx=>?_⟩,?_,h.marks.oo hevo rfl⟩,hevo⟩
     · obtain ⟨y,hy,hv⟩:=pV hx
       obtain ⟨u,g1,g2⟩:=h.env.env t' y hy
       refine ⟨u,g1,?_⟩
       have bl:dR [] y=true→x=y→au (num ns) (G.lS d b st.sh.length cells.length) x u:=by
         rintro hk rfl
         cases x with
         | own l τ=>exact Aa hsm rfl g2
         | agg cs=>
           simp only [au] at g2 ⊢
           obtain ⟨vs,q1,q2⟩:=g2
           refine ⟨vs,q1,jx (G':=G.lS d b st.sh.length cells.length) (bB.le_refl G.K) (fun s' b' e=>hevo.sm s' b' e) (fun _ _ e=>e) (by simpa [dR] using hk) q2⟩
         | aB _ _=>simp [dR] at hk
         | ji _ _=>simp [dR] at hk
         | _=>exact Aa hsm (by simpa [gi,dR] using hk) g2
       unfold PC at hv
       split at hv
       · rename_i d' o
         simp only [au] at g2
         obtain ⟨b',q1,q2⟩:=g2
         simp only [Option.some.injEq] at hv
         split at hv
         · rename_i hd
           subst hd hv
           rw [e1] at q1;cases q1
           simp only [au]
           exact ⟨(b,cells.length),by simp [Gh.lS],q2⟩
         · rename_i hd
           subst hv
           simp only [au]
           exact ⟨b',by simp only [Gh.lS];rw [if_neg hd];exact q1,q2⟩
       · rename_i d' m
         simp only [au] at g2
         obtain ⟨b',q1,q2⟩:=g2
         split at hv
         · rename_i hd
           subst hd
           simp only [Option.ite_none_right_eq_some,Option.some.injEq] at hv
           obtain ⟨hm,rfl⟩:=hv
           rw [e1] at q1;cases q1
           simp only [au]
           exact ⟨(b,cells.length),0,by simp [Gh.lS],q2,hm⟩
         · rename_i hd
           simp only [Option.some.injEq] at hv
           subst hv
           simp only [au]
           exact ⟨b',by simp only [Gh.lS];rw [if_neg hd];exact q1,q2⟩
       · simp only [Option.ite_none_right_eq_some,Option.some.injEq] at hv
         exact bl hv.1 hv.2.symm
     · have hi:=h.inv
       refine ⟨hi.known,?_,?_,?_,?_,?_,?_,?_,?_⟩
       · intro b' o v hk
         rcases hi.bt b' o v hk with hr | ⟨τ,hr⟩
         · exact .inl (hrole _ _ hr (by simp))
         · exact .inr ⟨τ,hrole _ _ hr (by simp)⟩
       · intro b' hb'
         exact hrole _ _ (hi.fresh b' hb') (by simp)
       · intro d' cs' hd'
         rw [mV] at hd'
         split at hd'
         · cases hd'
         · rename_i hdd
           obtain ⟨b',f1,⟨f2,c',t',f3,f4⟩,f5⟩:=hi.cW d' cs' hd'
           exact ⟨b',by simp only [Gh.lS];rw [if_neg hdd];exact f1,⟨hrole _ _ f2 (by simpa using hdd),c',t',f3,pW hsm f5 f4⟩,f5⟩
       · intro d' b' hd'
         simp only [Gh.lS] at hd'
         split at hd'
         · cases hd'
         · rename_i hdd
           rw [mV,if_neg hdd]
           exact hi.g_ d' b' hd'
       · intro s' cs' hs'
         rw [List.getElem?_append] at hs'
         split at hs'
         · rename_i hlt
           obtain ⟨b',f1,⟨f2,o,f3,f4⟩,f5,f6⟩:=hi.dp s' cs' hs'
           refine ⟨b',hevo.sm _ _ f1,⟨hrole _ _ f2 (by simp),o,f3,f4.to (bB.le_refl G.K) (fun _ e=>e) (fun vs r=>pW hsm (gI f5) r)⟩,f5,f6⟩
         · rename_i hlt
           have hs0:s'=st.sh.length:=by
             have:=(List.getElem?_eq_some_iff.1 hs').1
             simp at this
             omega
           subst hs0
           simp at hs'
           subst hs'
           refine ⟨(b,cells.length),by simp [Gh.lS],⟨by simp [Gh.lS],_,e3,?_⟩,hlf,hrf⟩
           have:=iu.full (t:=t) (pW (d:=d) (b:=b) (n:=cells.length) hsm (gI hlf) e4)
           rwa [hcl] at this
       · intro s' b' hs'
         simp only [Gh.lS] at hs'
         simp only [List.length_append,List.length_cons,List.length_nil]
         split at hs'
         · omega
         · have:=hi.eR s' b' hs';omega
       · intro τ n hn
         obtain ⟨t',f1,f2,f3⟩:=hi.di τ n hn
         refine ⟨t',f1,f2,f3.cap,f3.zero,fun hsp=>?_⟩
         obtain ⟨b',o,c',ty,q1,q2,q3⟩:=f3.spare hsp
         exact ⟨b',o,c',ty,q1,hrole _ _ q2 (by simp),q3⟩
       · exact hi.fo
   · exact ⟨G,h,bZ.refl G w⟩
 · exact ⟨G,h,bZ.refl G w⟩
theorem nU {N:Nat}:∀{ps:List (Nat×Nat×Bool)} {st:St} {G:Gh} {a:Act} {w:World},fZ (num ns) n0 N G st a w→∃G',fZ (num ns) n0 N G' (I8 ps st) a w∧bZ G w G' w
 | [],st,G,a,w,h=>⟨G,h,bZ.refl G w⟩
 | (d,sz,ag)::r,st,G,a,w,h=>by
   obtain ⟨G1,h1,e1⟩:=DN (d:=d) (sz:=sz) (ag:=ag) h
   obtain ⟨G2,h2,e2⟩:=nU (ps:=r) h1
   exact ⟨G2,h2,e1.trans e2⟩
theorem mW {b b':Nat}:∀{ts:List Nat} {env:List (Nat×AV)} {t:Nat} {x:AV},look (A5 b b' ts env) t=some x→look env t=some x∨∃z n ag,look env t=some (.bz b z n ag)∧x=.bz b' z n ag
 | [],env,t,x,h=>.inl h
 | u::r,env,t,x,h=>by
   simp only [A5] at h
   split at h
   · rename_i s z n ag hu
     split at h
     · rename_i hs
       subst hs
       rcases mW h with h1 | ⟨z',n',ag',h1,h2⟩
       · by_cases hut:u=t
         · subst hut
           rw [bG] at h1
           cases h1
           exact .inr ⟨z,n,ag,hu,rfl⟩
         · rw [bY _ _ _ _ hut] at h1
           exact .inl h1
       · by_cases hut:u=t
         · subst hut
           rw [bG] at h1
           cases h1
           exact .inr ⟨z,n,ag,hu,h2⟩
         · rw [bY _ _ _ _ hut] at h1
           exact .inr ⟨z',n',ag',h1,h2⟩
     · exact mW h
   · exact mW h
theorem DO {N:Nat} {ts:List Nat} {st:St} {G:Gh} {a:Act} {w:World} (h:fZ (num ns) n0 N G st a w):∃G',fZ (num ns) n0 N G' (I9 ts st) a w∧bZ G w G' w:=by
 unfold I9
 split
 · exact ⟨G,h,bZ.refl G w⟩
 · rename_i t r
   split
   · rename_i b z n ag hb
     split
     · rename_i cells hcs
       split
       · obtain ⟨blk,e1,_⟩:=h.inv.dp b cells hcs
         obtain ⟨g1,g2,g3⟩:=h.inv.iZ hcs e1
         refine ⟨_,⟨⟨h.env.size,fun t' x hx=>?_⟩,g1,h.marks.oo g3 rfl⟩,g3⟩
         rcases mW hx with h1 | ⟨z',n',ag',h1,rfl⟩
         · obtain ⟨v,q1,q2⟩:=h.env.env t' x h1
           exact ⟨v,q1,q2.mono g2⟩
         · obtain ⟨v,q1,q2⟩:=h.env.env t' _ h1
           refine ⟨v,q1,?_⟩
           simp only [au] at q2 ⊢
           obtain ⟨b',cap,f1,f2,f3⟩:=q2
           rw [e1] at f1;cases f1
           exact ⟨blk,cap,by simp [Gh.iZ],f2,f3⟩
       · exact ⟨G,h,bZ.refl G w⟩
     · exact ⟨G,h,bZ.refl G w⟩
   · exact ⟨G,h,bZ.refl G w⟩
theorem Ad:∀{ks:List Nat} {sh:Sh} {b:Nat},b∉ks→(kill sh ks)[b]?=sh[b]?
 | [],_,_,_=>rfl
 | k::ks,sh,b,h=>by
   simp only [List.mem_cons,not_or] at h
   have hk:kill sh (k::ks)=kill (sh.set k none) ks:=rfl
   rw [hk,Ad h.2,List.getElem?_set,if_neg (fun e=>h.1 e.symm)]
theorem iD {N:Nat}:∀{ts:List Nat} {st:St} {G:Gh} {a:Act} {w:World},fZ (num ns) n0 N G st a w→∃G',fZ (num ns) n0 N G' (oB ts st) a w∧bZ G w G' w
 | [],st,G,a,w,h=>⟨G,h,bZ.refl G w⟩
 | t::r,st,G,a,w,h=>by
   simp only [oB]
   split
   · rename_i b z n ag hb
     split
     · rename_i cells hcs
       split
       · rename_i hok
         obtain ⟨hmb,hself⟩:=hok
         split
         · rename_i ps hps
           obtain ⟨G1,k1,k2,k3,k4,k5⟩:=Inv.kill ([.agg cells].flatMap eP) h.inv
           obtain ⟨blk,e1,e2,e3,e4⟩:=h.inv.dp b cells hcs
           obtain ⟨hr,c,ty,vs,suf,hh,hcz,hsp,hrel⟩:=e2.cells hmb
           have hnb:b∉[AV.agg cells].flatMap eP:=by
             have:¬(eP (.agg cells)).contains b=true:=by rw [hself];simp
             simpa using this
           have hb1:(dY st.sh [.agg cells])[b]?=some (some cells):=by
             show (kill st.sh ([AV.agg cells].flatMap eP))[b]?=_
             rw [Ad hnb];exact hcs
           obtain ⟨blk',f1,f2,f3,f4⟩:=k1.dp b cells hb1
           have hblk:blk'=blk:=by
             have:=k2.sm _ _ e1
             rw [f1] at this;simpa using this
           subst hblk
           have hrl:dP G1.K ps vs:=kR k2 k4 h.inv.sk (fun s hs=>by simpa using hs) hps hrel
           have hlf:(ps.map AV.pv).all dv=true:=by
             rw [List.all_eq_true]
             intro x hx
             rw [List.mem_map] at hx
             obtain ⟨p,hp,rfl⟩:=hx
             have:=kA hrl p hp
             cases p<;>first | rfl | simp [eA] at this
           have h1:fZ (num ns) n0 N G1 { st with sh:=(dY st.sh [.agg cells]).set b (some (ps.map .pv)) } a w:=by
             refine ⟨⟨h.env.size,fun t' x hx=>?_⟩,?_,h.marks.oo k3 rfl⟩
             · obtain ⟨u',g1,g2⟩:=h.env.env t' x hx
               exact ⟨u',g1,g2.mono k2⟩
             · exact { k1 with
                 dp:=fun s' cs' hs'=>by
                   rw [List.getElem?_set] at hs'
                   split at hs'
                   · rename_i he
                     subst he
                     split at hs'
                     · cases hs'
                       exact ⟨blk',f1,⟨f2.role,_,hh,.inl ⟨c,ty,vs,suf,rfl,hcz,hsp,iI hrl⟩⟩,hlf,wh _ _⟩
                     · cases hs'
                   · exact k1.dp s' cs' hs'
                 eR:=fun s' b' hs'=>by
                   have:=k1.eR s' b' hs'
                   simpa using this }
           obtain ⟨G2,h2,he⟩:=iD (ts:=r) h1
           exact ⟨G2,h2,k3.trans he⟩
         · exact iD h
       · exact iD h
     · exact iD h
   · exact iD h
theorem vj {α β:Type} {f:α→Option β}:∀{l:List α} {r:List β} (k:Nat),cH f l=some r→cH f (l.take k)=some (r.take k)∧cH f (l.drop k)=some (r.drop k)
 | l,r,0,h=>by simp [cH,h]
 | [],r,k+1,h=>by simp [cH] at h;subst h;simp [cH]
 | x::l,r,k+1,h=>by
   simp only [cH] at h
   split at h
   · rename_i y ys h1 h2
     cases h
     obtain ⟨g1,g2⟩:=vj k h2
     simp only [List.take_succ_cons,List.drop_succ_cons,cH,h1,g1]
     exact ⟨trivial,g2⟩
   · cases h
theorem xl (hB:eI P ns) {orc:eu} (horc:gk P ns orc) {A:lJ} {N id k:Nat} {q:Nat×List Nat×List Nat} {ops:Array Oper} {as:List dK} (hc:cH (dm P ns A N ops) ops.toList=some as) {live:List Nat} {st st':St} {e:bo} {G:Gh} {a:Act} {w:World}
   (hs:fZ (num ns) n0 N G st a w) (hev:dk orc k (A7 (some q) as live) st=some (e,st')) {Q:Exit→Act→World→Prop}
   (hq:∀G' a' w',fZ (num ns) n0 N G' st' a' w'→bZ G w G' w'→Q (iV e) a' w'):(Code.region id ops false).wpIn (qL ro) 0 P Q a w:=by
 obtain ⟨j,l,ts⟩:=q
 simp only [A7,dk] at hev
 obtain ⟨g1,g2⟩:=vj j hc
 cases h1:bE orc (as.take j) st with
 | none=>rw [h1] at hev;simp at hev
 | some st1=>
   rw [h1] at hev
   simp only at hev
   cases h2:bE orc (as.drop j) (I9 ts (Go.Ab.restrict l st1)) with
   | none=>rw [h2] at hev;simp at hev
   | some st2=>
     rw [h2] at hev
     simp only [Option.some.injEq,Prod.mk.injEq] at hev
     obtain ⟨rfl,rfl⟩:=hev
     refine wpIn_region_list ?_
     rw [←List.take_append_drop j ops.toList]
     refine d8 hB horc g1 hs h1 fun G1 a1 w1 hs1 he1 _ _=>?_
     obtain ⟨G2,hs2,he2⟩:=DO (ts:=ts) (hs1.restrict l)
     have:=d8 (ro:=ro) (n:=0) (rest:=[]) (Q:=Q) hB horc g2 hs2 h2 (fun G3 a3 w3 hs3 he3 _ _=>by
       unfold wpListIn
       exact hq (G3.bl live) a3 w3 (hs3.restrict live) (he1.trans ((bZ.bl l).trans (he2.trans (he3.trans (bZ.bl live))))))
     rwa [List.append_nil] at this
theorem lF {live:List Nat} {env:List (Nat×AV)}:∀{ds:List (Nat×Nat)},iR (ca live env live) ds=true→iR env ds=true
 | [],_=>rfl
 | (a,b)::r,h=>by
   simp only [iR,Bool.and_eq_true] at h ⊢
   refine ⟨?_,lF h.2⟩
   obtain ⟨b1,o1,b2,o2,h1,h2,hne⟩:=uU h.1
   rw [(d5 h1).1,(d5 h2).1]
   simpa [apart] using hne
theorem sZ {orc:eu} {k:Nat} {as:List dK} {live:List Nat} {ds:Option (List (Nat×Nat))} {ps:Option (List (Nat×Nat×Bool))} {st st':St} {e:bo}
   (h:dk orc k (behind ds ps (.bw as live)) st=some (e,st')) :
   ∃st1,bE orc as st=some st1∧e=.normal∧iR st1.env (ds.getD [])=true∧st'=I8 (ps.getD []) (restrict live st1):=by
 have h1:∀e2 st2,dk orc k (match ds with | some ds=>aA.seq (.bw as live) (.PB ds) | none=>.bw as live) st=some (e2,st2) →
     ∃st1,bE orc as st=some st1∧e2=.normal∧iR st1.env (ds.getD [])=true∧st2=restrict live st1:=by
   intro e2 st2 h
   cases ds with
   | none=>
     simp only [dk] at h
     split at h
     · rename_i st1 h1
       simp at h;obtain ⟨rfl,rfl⟩:=h
       exact ⟨st1,h1,rfl,rfl,rfl⟩
     · simp at h
   | some ds=>
     simp only [dk] at h
     cases h1:bE orc as st with
     | none=>rw [h1] at h;simp at h
     | some st1=>
       rw [h1] at h
       simp only [Option.ite_none_right_eq_some,Option.some.injEq,Prod.mk.injEq] at h
       obtain ⟨h2,rfl,rfl⟩:=h
       exact ⟨st1,rfl,rfl,lF h2,rfl⟩
 unfold behind at h
 cases ps with
 | none=>
   obtain ⟨st1,g1,g2,g3,g4⟩:=h1 e st' h
   exact ⟨st1,g1,g2,g3,g4⟩
 | some ps=>
   simp only [dk] at h
   split at h
   · rename_i st2 h2
     simp at h
     obtain ⟨st1,g1,g2,g3,rfl⟩:=h1 _ _ h2
     exact ⟨st1,g1,h.1.symm,g3,h.2.symm⟩
   · rename_i r hr
     obtain ⟨st1,g1,rfl,g3,g4⟩:=h1 e st' h
     exact absurd h (hr st')
def rC (P:Program) (ns:Names):Prop:=∀gb sz ag,look ns.bk gb=some (sz,ag)→∀f,ns.of f=some gb→Nonempty (xj P ns f sz ag)
theorem ib (hm:P.follows .mixedOrders=true) (hB:eI P ns) {orc:eu} (horc:gk P ns orc) (hBk:rC P ns) {A:lJ} {N k:Nat}:∀{c:Code} {ac:aA},fu P ns A N c=some ac →
   ∀{n0:Nat} {ro:Option Nat},(ro=none∨ac.eQ=true)→∀{st st':St} {e:bo} {G:Gh} {a:Act} {w:World} {Q:Exit→Act→World→Prop},dk orc k ac st=some (e,st')→fZ (num ns) n0 N G st a w →
     (∀G' a' w',fZ (num ns) n0 N G' st' a' w'→bZ G w G' w'→Q (iV e) a' w')→c.wpIn (qL ro) 0 P Q a w
 | .skip,ac,hc,n0,ro,hro,st,st',e,G,a,w,Q,hev,hs,hq=>by
   simp [fu] at hc;subst hc
   simp [dk] at hev;obtain ⟨rfl,rfl⟩:=hev
   exact wpIn_skip (hq G a w hs (bZ.refl G w))
 | .region id ops draw,ac,hc,n0,ro,hro,st,st',e,G,a,w,Q,hev,hs,hq=>by
   simp only [fu] at hc
   split at hc
   · rename_i as has
     have key:∀o ds ps live,ac=jJ o (behind ds ps (.bw as live))→(draw=true→vY (ds.getD []) ops.toList as=true)→(Code.region id ops draw).wpIn (qL ro) 0 P Q a w:=by
       rintro o ds ps live rfl hd
       have main:∀{st:St} {G1:Gh},dk orc k (behind ds ps (.bw as live)) st=some (e,st')→fZ (num ns) n0 N G1 st a w→bZ G w G1 w→(Code.region id ops draw).wpIn (qL ro) 0 P Q a w:=by
         intro st G1 hev hs he1
         obtain ⟨st1,h1,rfl,h3,rfl⟩:=sZ hev
         refine uW hm hB horc has hd hs h1 h3 fun G' a' w' hs' he'=>?_
         obtain ⟨G2,h4,h5⟩:=nU (ps:=ps.getD []) (hs'.restrict live)
         exact hq G2 a' w' h4 (he1.trans (he'.trans ((bZ.bl live).trans h5)))
       cases o with
       | none=>exact main hev hs (bZ.refl G w)
       | some ts=>
         simp only [jJ,dk] at hev
         obtain ⟨G2,h2,he2⟩:=jB (ts:=ts) hs
         exact main hev h2 he2
     have ahead:∀o1 o2 c,ac=rn o1 (jJ o2 c)→(∀{st:St} {G1:Gh},dk orc k c st=some (e,st')→fZ (num ns) n0 N G1 st a w→bZ G w G1 w→(Code.region id ops draw).wpIn (qL ro) 0 P Q a w)→(Code.region id ops draw).wpIn (qL ro) 0 P Q a w:=by
       rintro o1 o2 c rfl hm
       have h2:∀{st:St} {G1:Gh},dk orc k (jJ o2 c) st=some (e,st')→fZ (num ns) n0 N G1 st a w→bZ G w G1 w→(Code.region id ops draw).wpIn (qL ro) 0 P Q a w:=by
         intro st G1 hev hs he1
         cases o2 with
         | none=>exact hm hev hs he1
         | some ts=>
           simp only [jJ,dk] at hev
           obtain ⟨G2,h2,he2⟩:=jB (ts:=ts) hs
           exact hm hev h2 (he1.trans he2)
       cases o1 with
       | none=>exact h2 hev hs (bZ.refl G w)
       | some ts=>
         simp only [rn,dk] at hev
         obtain ⟨G2,h3,he2⟩:=iD (ts:=ts) hs
         exact h2 hev h3 he2
     split at hc
     · rename_i hdr
       split at hc
       · rename_i hok
         simp at hc
         exact key _ _ _ _ hc.symm (fun _=>hok)
       · simp at hc
     · rename_i hdr
       have hdr':draw=false:=by simpa using hdr
       subst hdr'
       split at hc
       · rename_i q hq'
         simp only [Option.some.injEq] at hc
         exact ahead _ _ _ hc.symm fun hev hs he1=>xl hB horc has hs hev fun G' a' w' h1 h2=>hq G' a' w' h1 (he1.trans h2)
       · simp only [Option.some.injEq] at hc
         refine ahead _ _ _ hc.symm fun hev hs he1=>?_
         obtain ⟨st1,h1,rfl,h3,rfl⟩:=sZ hev
         refine uW hm hB horc has (fun h=>absurd h hdr) hs h1 h3 fun G' a' w' hs' he'=>?_
         obtain ⟨G2,h4,h5⟩:=nU (ps:=(look A.lS id).getD []) (hs'.restrict ((look A.live id).getD []))
         exact hq G2 a' w' h4 (he1.trans (he'.trans ((bZ.bl _).trans h5)))
   · simp at hc
 | .seq x y,ac,hc,n0,ro,hro,st,st',e,G,a,w,Q,hev,hs,hq=>by
   simp only [fu] at hc
   split at hc
   · rename_i ax ay hx hy
     simp at hc;subst hc
     have hrx:ro=none∨ax.eQ=true:=hro.imp_right fun h=>by simp only [aA.eQ,Bool.and_eq_true] at h;exact h.1
     have hry:ro=none∨ay.eQ=true:=hro.imp_right fun h=>by simp only [aA.eQ,Bool.and_eq_true] at h;exact h.2
     simp only [dk] at hev
     refine wpIn_seq ?_
     split at hev
     · rename_i st1 h1
       refine ib hm hB horc hBk hx hrx h1 hs fun G' a' w' hs' he'=>?_
       exact ib hm hB horc hBk hy hry hev hs' fun G'' a'' w'' hs'' he''=>hq G'' a'' w'' hs'' (he'.trans he'')
     · rename_i r hr
       refine ib hm hB horc hBk hx hrx hev hs fun G' a' w' hs' he'=>?_
       have:=hq G' a' w' hs' he'
       cases e with
       | normal=>exact absurd hev (hr st')
       | ret=>exact this
       | exit id=>exact this
   · simp at hc
 | .cond c x y,ac,hc,n0,ro,hro,st,st',e,G,a,w,Q,hev,hs,hq=>by
   simp only [fu] at hc
   split at hc
   · rename_i acnd ax ay hcn hx hy
     simp at hc;subst hc
     have hrx:ro=none∨ax.eQ=true:=hro.imp_right fun h=>by simp only [aA.eQ,Bool.and_eq_true] at h;exact h.1
     have hry:ro=none∨ay.eQ=true:=hro.imp_right fun h=>by simp only [aA.eQ,Bool.and_eq_true] at h;exact h.2
     simp only [dk] at hev
     split at hev
     · rename_i t ht
       have hrel:=Ej hs.env hcn ht
       simp only [au,fU] at hrel
       refine wpIn_cond hrel ?_
       cases t with
       | true=>exact ib hm hB horc hBk hx hrx (by simpa using hev) hs hq
       | false=>exact ib hm hB horc hBk hy hry (by simpa using hev) hs hq
     · simp at hev
   · simp at hc
 | .block id b,ac,hc,n0,ro,hro,st,st',e,G,a,w,Q,hev,hs,hq=>by
   simp only [fu,Option.map_eq_some_iff] at hc
   obtain ⟨ab,hb,rfl⟩:=hc
   have hrb:ro=none∨ab.eQ=true:=hro.imp_right fun h=>by simpa only [aA.eQ] using h
   refine wpIn_block ?_
   simp only [dk] at hev
   split at hev
   · rename_i id' st1 h1
     refine ib hm hB horc hBk hb hrb h1 hs fun G' a' w' hs' he'=>?_
     split at hev
     · rename_i Em
       simp at hev;obtain ⟨rfl,rfl⟩:=hev
       simp only [iV,Exit.inBlock,Em,if_true]
       exact hq G' a' w' hs' he'
     · rename_i Em
       simp at hev;obtain ⟨rfl,rfl⟩:=hev
       simp only [iV,Exit.inBlock,Em,if_false]
       exact hq G' a' w' hs' he'
   · rename_i r hr
     refine ib hm hB horc hBk hb hrb hev hs fun G' a' w' hs' he'=>?_
     have:=hq G' a' w' hs' he'
     cases e with
     | normal=>exact this
     | ret=>exact this
     | exit id'=>exact absurd hev (hr id' st')
 | .loop b,ac,hc,n0,ro,hro,st,st',e,G,a,w,Q,hev,hs,hq=>by
   simp only [fu,Option.map_eq_some_iff] at hc
   obtain ⟨ab,hb,rfl⟩:=hc
   have hrb:ro=none∨ab.eQ=true:=hro.imp_right fun h=>by simpa only [aA.eQ] using h
   simp only [dk] at hev
   refine wpIn_loop_rounds k ?_
   exact qR (fun h=>h.head _) (fun h1 h2 h3=>ib hm hB horc hBk hb hrb h1 h2 h3) k hev hs hq
 | .exit id,ac,hc,n0,ro,hro,st,st',e,G,a,w,Q,hev,hs,hq=>by
   simp [fu] at hc;subst hc
   simp [dk] at hev;obtain ⟨rfl,rfl⟩:=hev
   exact wpIn_exit (hq G a w hs (bZ.refl G w))
 | .ret,ac,hc,n0,ro,hro,st,st',e,G,a,w,Q,hev,hs,hq=>by
   simp [fu] at hc;subst hc
   simp [dk] at hev;obtain ⟨rfl,rfl⟩:=hev
   exact wpIn_ret (hq G a w hs (bZ.refl G w))
 | .rangeFunc f ps x y,ac,hc,n0,ro,hro,st,st',e,G,a,w,Q,hev,hs,hq=>by
   cases f with
   | tmp t=>
     simp only [fu] at hc
     split at hc
     · rename_i pi px gb hps Ug
       split at hc
       · rename_i sz ag ax ay hbk hx hy
         split at hc
         · rename_i hok
           obtain ⟨nx,ny,hpi,hpx⟩:=hok
           simp at hc;subst hc
           have hro':ro=none:=hro.resolve_right (by simp [aA.eQ])
           subst hro'
           have hps':ps=#[pi,px]:=by
             have:=congrArg List.toArray hps
             simpa using this
           subst hps'
           simp only [dk] at hev
           exact DK hB horc (hBk gb _ _ hbk)
             (fun h1 h2 h3=>ib hm hB horc hBk hx (.inr nx) h1 h2 h3) (fun h1 h2 h3=>ib hm hB horc hBk hy (.inr ny) h1 h2 h3) hpi hpx hev hs hq
         · simp at hc
       · simp at hc
     · simp at hc
   | _=>simp [fu] at hc
 | .scope _,ac,hc,n0,ro,hro,st,st',e,G,a,w,Q,hev,hs,hq=>by simp [fu] at hc
 | .label _,ac,hc,n0,ro,hro,st,st',e,G,a,w,Q,hev,hs,hq=>by simp [fu] at hc
 | .goto _,ac,hc,n0,ro,hro,st,st',e,G,a,w,Q,hev,hs,hq=>by simp [fu] at hc
 | .refuse _,ac,hc,n0,ro,hro,st,st',e,G,a,w,Q,hev,hs,hq=>by simp [fu] at hc
end
end Go.Ab
