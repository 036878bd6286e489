import Derived.Test.YthcoecdbgdhihaaGreatDoorAbBack
/-
  Code and functions: what the evaluator gives is what the model does.
-/
set_option linter.unusedVariables false
set_option linter.unusedSimpArgs false
set_option linter.unnecessarySimpa false
set_option maxRecDepth 100000
set_option maxHeartbeats 8000000
namespace Go.Ab
section
variable {n0:Nat} {P:Program} {ns:Names} {ro:Option Nat}
theorem pB {c:Code} {Q:Exit→Act→World→Prop} {f:St→Option (bG×St)} {pre:St→St} {N:Nat}
   (hpre:∀{st:St} {G:Gh} {a:Act} {w:World},gO (num ns) n0 N G st a w→∃G',gO (num ns) n0 N G' (pre st) a w∧cp G w G' w)
   (hf:∀{st st':St} {e:bG} {G:Gh} {a:Act} {w:World} {Q:Exit→Act→World→Prop},f st=some (e,st')→gO (num ns) n0 N G st a w →
     (∀G' a' w',gO (num ns) n0 N G' st' a' w'→cp G w G' w'→Q (oA e) a' w')→c.wpIn (sF ro) 0 P Q a w) :
   ∀(n:Nat) {st st':St} {e:bG} {G:Gh} {a:Act} {w:World},fe f pre n st=some (e,st')→gO (num ns) n0 N G st a w →
     (∀G' a' w',gO (num ns) n0 N G' st' a' w'→cp G w G' w'→Q (oA e) a' w')→Code.roundsIn (sF ro) 0 P c Q n a w
 | 0,st,st',e,G,a,w,h,_,_=>by simp [fe] at h
 | n+1,st,st',e,G,a,w,h,hs,hq=>by
   rw [roundsIn_succ]
   obtain ⟨G0,hs0,he0⟩:=hpre hs
   simp only [fe] at h
   split at h
   · rename_i st1 h1
     refine hf h1 hs0 fun G' a' w' hs' he'=>?_
     exact pB hpre hf n h hs' fun G'' a'' w'' hs'' he''=>hq G'' a'' w'' hs'' ((he0.trans he').trans he'')
   · rename_i r hr
     have hne:e≠.normal:=by
       rintro rfl
       exact hr st' h
     refine hf h hs0 fun G' a' w' hs' he'=>?_
     have:=hq G' a' w' hs' (he0.trans he')
     cases e with
     | normal=>exact absurd rfl hne
     | ret=>exact this
     | exit id=>exact this
theorem Bo {N:Nat} {v:AV} {st:St} {G:Gh} {a:Act} {w:World} (h:gO (num ns) n0 N G st a w):∃G',gO (num ns) n0 N G' (y9 v st) a w∧cp G w G' w:=by
 unfold y9
 split
 · rename_i st' d
   split
   · rename_i cs hcs
     split
     · rename_i ps hps
       obtain ⟨G1,k1,k2,k3,k4,k5⟩:=Inv.kill ([.agg cs].flatMap eZ) h.inv
       obtain ⟨b,e1,⟨e2,c,t,e3,e4⟩,e5⟩:=h.inv.dk d cs hcs
       obtain ⟨b',f1,⟨f2,c',t',f3,f4⟩,f5⟩:=k1.dk d cs hcs
       have hb:b=b':=by have:=k2.pm d b e1;rw [f1] at this;simpa using this.symm
       subst hb
       have hcc:c=c':=by rw [e3] at f3;cases f3;rfl
       subst hcc
       have hrl:dS G1.K ps c.toList:=ke k2 k4 h.inv.qQ (fun s hs=>by simpa using hs) hps e4
       have hlf:(ps.map AV.pv).all bp=true:=by
         rw [List.all_eq_true]
         intro x hx
         rw [List.mem_map] at hx
         obtain ⟨p,hp,rfl⟩:=hx
         have:=jP hrl p hp
         cases p<;>first | rfl | simp [eD] at this
       refine ⟨G1,⟨⟨h.env.size,fun t' x hx=>?_⟩,?_,h.marks.oT k3 rfl⟩,k3⟩
       · obtain ⟨u',g1,g2⟩:=h.env.env t' x hx
         exact ⟨u',g1,g2.mono k2⟩
       · refine ⟨k1.known,k1.bt,k1.fresh,?_,?_,k1.dM,k1.eE,k1.dE,k1.eW,k1.jM⟩
         · intro d' cs' hd'
           by_cases hdd:d=d'
           · subst hdd
             rw [bV] at hd'
             cases hd'
             exact ⟨b,f1,⟨f2,c,t',f3,il hrl⟩,hlf⟩
           · rw [cq _ _ _ _ hdd] at hd'
             exact k1.dk d' cs' hd'
         · intro d' b' hd'
           by_cases hdd:d=d'
           · subst hdd;rw [bV];rfl
           · rw [cq _ _ _ _ hdd];exact k1.gI d' b' hd'
     · exact ⟨G,h,cp.refl G w⟩
   · exact ⟨G,h,cp.refl G w⟩
 · exact ⟨G,h,cp.refl G w⟩
theorem jf {N:Nat}:∀{ts:List Nat} {st:St} {G:Gh} {a:Act} {w:World},gO (num ns) n0 N G st a w→∃G',gO (num ns) n0 N G' (mw ts st) a w∧cp G w G' w
 | [],st,G,a,w,h=>⟨G,h,cp.refl G w⟩
 | t::r,st,G,a,w,h=>by
   simp only [mw]
   split
   · rename_i v hv
     split
     · rename_i p hp
       obtain ⟨G1,k1,k2,k3,k4,k5⟩:=Inv.kill ([v].flatMap eZ) h.inv
       obtain ⟨u,hu,hr⟩:=h.env.env t v hv
       have hrel:Rel G1.K p u:=qP k2 k4 h.inv.qQ (fun s hs=>by simpa using hs) hp hr
       have h1:gO (num ns) n0 N G1 { st with env:=dL st.env t (.pv p),sh:=dZ st.sh [v] } a w:=by
         refine ⟨⟨h.env.size,fun t' x hx=>?_⟩,k1,h.marks.oT k3 rfl⟩
         by_cases ht:t'=t
         · subst ht
           rw [Ev.lV,if_pos rfl] at hx
           cases hx
           exact ⟨u,hu,by simpa only [aC] using hrel⟩
         · rw [Ev.lV,if_neg ht] at hx
           obtain ⟨u',f1,f2⟩:=h.env.env t' x hx
           exact ⟨u',f1,f2.mono k2⟩
       obtain ⟨G2,h2,he⟩:=jf (ts:=r) h1
       exact ⟨G2,h2,k3.trans he⟩
     · obtain ⟨G1,h1,e1⟩:=Bo (v:=v) h
       obtain ⟨G2,h2,e2⟩:=jf (ts:=r) h1
       exact ⟨G2,h2,e1.trans e2⟩
   · exact jf h
theorem lX {α:Type} {d:Nat}:∀{l:List (Nat×α)} {t:Nat},look (sJ d l) t=if t=d then none else look l t
 | [],t=>by simp [sJ,look]
 | (k,v)::r,t=>by
   simp only [sJ]
   by_cases hk:k=d
   · rw [if_pos hk,lX]
     by_cases ht:t=d
     · rw [if_pos ht,if_pos ht]
     · rw [if_neg ht,if_neg ht]
       simp only [look]
       rw [if_neg (by rintro rfl;exact ht hk)]
   · rw [if_neg hk]
     simp only [look]
     by_cases hkt:k=t
     · subst hkt;rw [if_pos rfl,if_neg hk,if_pos rfl]
     · rw [if_neg hkt,if_neg hkt,lX]
theorem oB {d s sz n:Nat} {ag:Bool} {env:List (Nat×AV)}:∀{l:List Nat} {t:Nat} {x:AV},look (CR d s sz n ag env l) t=some x →
   ∃y,look env t=some y∧Ly d s sz n ag y=some x
 | [],t,x,h=>by simp [CR,look] at h
 | k::r,t,x,h=>by
   simp only [CR] at h
   split at h
   · rename_i v hv
     simp only [look] at h
     split at h
     · rename_i e;subst e;cases h
       rw [Option.bind_eq_some_iff] at hv
       exact hv
     · exact oB h
   · exact oB h
def Gh.kR (G:Gh) (d b s n:Nat):Gh:=
 { G with role:=fun x=>if x=b then .shr s else G.role x,pm:=fun x=>if x=d then none else G.pm x,sm:=fun x=>if x=s then some (b,n) else G.sm x }
theorem yd {ρ:cx} {G:Gh} {d b s n:Nat} (hs:G.sm s=none) {x:AV} {v:Value} (hf:jl x=true) (h:aC ρ G x v):aC ρ (G.kR d b s n) x v:=by
 refine tE (G':=G.kR d b s n) (bE.le_refl G.K) (fun s' b' e=>?_) (fun _ _ e=>e) hf h
 simp only [Gh.kR]
 rw [if_neg (by rintro rfl;rw [hs] at e;cases e)]
 exact e
theorem ye {x:AV} (h:bp x=true):jl x=true:=by
 rcases mF h with hf | ⟨l,τ,rfl⟩
 · cases x with
   | own l τ=>rfl
   | _=>simpa [jl] using hf
 · rfl
theorem nF:∀{xs:List AV},xs.all bp=true→fD xs=true
 | [],_=>rfl
 | x::xs,h=>by
   simp only [List.all_cons,Bool.and_eq_true] at h
   simp only [fD,Bool.and_eq_true]
   exact ⟨ye h.1,nF h.2⟩
theorem oC {ρ:cx} {G:Gh} {d b s n:Nat} (hs:G.sm s=none) {xs:List AV} {vs:List Value} (hf:xs.all bp=true) (h:az ρ G xs vs):az ρ (G.kR d b s n) xs vs:=by
 refine jb (G':=G.kR d b s n) (bE.le_refl G.K) (fun s' b' e=>?_) (fun _ _ e=>e) (nF hf) h
 simp only [Gh.kR]
 rw [if_neg (by rintro rfl;rw [hs] at e;cases e)]
 exact e
theorem Bp {N d sz:Nat} {ag:Bool} {st:St} {G:Gh} {a:Act} {w:World} (h:gO (num ns) n0 N G st a w):∃G',gO (num ns) n0 N G' (Lz d sz ag st) a w∧cp G w G' w:=by
 unfold Lz
 split
 · rename_i cells hcs
   split
   · rename_i hok
     obtain ⟨hlf,hrf⟩:=hok
     obtain ⟨b,e1,⟨e2,c,t,e3,e4⟩,e5⟩:=h.inv.dk d cells hcs
     have hsm:G.sm st.sh.length=none:=by
       cases hx:G.sm st.sh.length with
       | none=>rfl
       | some b'=>have:=h.inv.eE _ _ hx;omega
     have hcl:c.size=cells.length:=by have:=e4.length;simpa using this
     have hbs:b<w.heap.size:=(Array.getElem?_eq_some_iff.1 e3).1
     have hevo:cp G w (G.kR d b st.sh.length cells.length) w:=
       { size:=Nat.le_refl _,os:=rfl,tape:=rfl,output:=rfl,K:=bE.le_refl G.K
         sm:=fun s' b' e=>by
           simp only [Gh.kR]
           rw [if_neg (by rintro rfl;rw [hsm] at e;cases e)]
           exact e
         eA:=fun b' _ hr=>⟨by
           simp only [Gh.kR]
           rw [if_neg (by rintro rfl;rw [e2] at hr;cases hr)]
           exact hr,rfl⟩
         iD:=fun b' τ _ hr=>.inr ⟨τ,by
           simp only [Gh.kR]
           rw [if_neg (by rintro rfl;rw [e2] at hr;cases hr)]
           exact hr⟩
         gJ:=fun _ _ _ _ _ hk=>hk }
     have hrole:∀b' r,G.role b'=r→r≠.kK d→(G.kR d b st.sh.length cells.length).role b'=r:=by
       intro b' r hr hn
       simp only [Gh.kR]
       rw [if_neg (by rintro rfl;rw [e2] at hr;exact hn hr.symm)]
       exact hr
     refine ⟨G.kR d b st.sh.length cells.length,⟨⟨h.env.size,fun t' x hx=>?_⟩,?_,h.marks.oT hevo rfl⟩,hevo⟩
     · obtain ⟨y,hy,hv⟩:=oB hx
       obtain ⟨u,g1,g2⟩:=h.env.env t' y hy
       refine ⟨u,g1,?_⟩
       have bq:ei [] y=true→x=y→aC (num ns) (G.kR d b st.sh.length cells.length) x u:=by
         rintro hk rfl
         cases x with
         | own l τ=>exact yd hsm rfl g2
         | agg cs=>
           simp only [aC] at g2 ⊢
           obtain ⟨vs,q1,q2⟩:=g2
           refine ⟨vs,q1,jb (G':=G.kR d b st.sh.length cells.length) (bE.le_refl G.K) (fun s' b' e=>hevo.sm s' b' e) (fun _ _ e=>e) (by simpa [ei] using hk) q2⟩
         | aG _ _=>simp [ei] at hk
         | jK _ _=>simp [ei] at hk
         | _=>exact yd hsm (by simpa [jl,ei] using hk) g2
       unfold Ly at hv
       split at hv
       · rename_i d' o
         simp only [aC] at g2
         obtain ⟨b',q1,q2⟩:=g2
         simp only [Option.some.injEq] at hv
         split at hv
         · rename_i hd
           subst hd hv
           rw [e1] at q1;cases q1
           simp only [aC]
           exact ⟨(b,cells.length),by simp [Gh.kR],q2⟩
         · rename_i hd
           subst hv
           simp only [aC]
           exact ⟨b',by simp only [Gh.kR];rw [if_neg hd];exact q1,q2⟩
       · rename_i d' m
         simp only [aC] at g2
         obtain ⟨b',q1,q2⟩:=g2
         split at hv
         · rename_i hd
           subst hd
           simp only [Option.ite_none_right_eq_some,Option.some.injEq] at hv
           obtain ⟨hm,rfl⟩:=hv
           rw [e1] at q1;cases q1
           simp only [aC]
           exact ⟨(b,cells.length),0,by simp [Gh.kR],q2,hm⟩
         · rename_i hd
           simp only [Option.some.injEq] at hv
           subst hv
           simp only [aC]
           exact ⟨b',by simp only [Gh.kR];rw [if_neg hd];exact q1,q2⟩
       · simp only [Option.ite_none_right_eq_some,Option.some.injEq] at hv
         exact bq hv.1 hv.2.symm
     · have hi:=h.inv
       refine ⟨hi.known,?_,?_,?_,?_,?_,?_,?_,?_,hi.gZ hevo⟩
       · intro b' o v hk
         rcases hi.bt b' o v hk with hr | ⟨τ,hr⟩
         · exact .inl (hrole _ _ hr (by simp))
         · exact .inr ⟨τ,hrole _ _ hr (by simp)⟩
       · intro b' hb'
         exact hrole _ _ (hi.fresh b' hb') (by simp)
       · intro d' cs' hd'
         rw [lX] at hd'
         split at hd'
         · cases hd'
         · rename_i hdd
           obtain ⟨b',f1,⟨f2,c',t',f3,f4⟩,f5⟩:=hi.dk d' cs' hd'
           exact ⟨b',by simp only [Gh.kR];rw [if_neg hdd];exact f1,⟨hrole _ _ f2 (by simpa using hdd),c',t',f3,oC hsm f5 f4⟩,f5⟩
       · intro d' b' hd'
         simp only [Gh.kR] at hd'
         split at hd'
         · cases hd'
         · rename_i hdd
           rw [lX,if_neg hdd]
           exact hi.gI d' b' hd'
       · intro s' cs' hs'
         rw [List.getElem?_append] at hs'
         split at hs'
         · rename_i hlt
           obtain ⟨b',f1,⟨f2,o,f3,f4⟩,f5,f6⟩:=hi.dM s' cs' hs'
           refine ⟨b',hevo.sm _ _ f1,⟨hrole _ _ f2 (by simp),o,f3,f4.to (bE.le_refl G.K) (fun _ e=>e) (fun vs r=>oC hsm (iL f5) r)⟩,f5,f6⟩
         · rename_i hlt
           have hs0:s'=st.sh.length:=by
             have:=(List.getElem?_eq_some_iff.1 hs').1
             simp at this
             omega
           subst hs0
           simp at hs'
           subst hs'
           refine ⟨(b,cells.length),by simp [Gh.kR],⟨by simp [Gh.kR],_,e3,?_⟩,hlf,hrf⟩
           have:=Holds.full (t:=t) (oC (d:=d) (b:=b) (n:=cells.length) hsm (iL hlf) e4)
           rwa [hcl] at this
       · intro s' b' hs'
         simp only [Gh.kR] at hs'
         simp only [List.length_append,List.length_cons,List.length_nil]
         split at hs'
         · omega
         · have:=hi.eE s' b' hs';omega
       · intro τ n hn
         obtain ⟨t',f1,f2,f3⟩:=hi.dE τ n hn
         refine ⟨t',f1,f2,f3.cap,f3.zero,fun hsp=>?_⟩
         obtain ⟨b',o,c',ty,q1,q2,q3⟩:=f3.spare hsp
         exact ⟨b',o,c',ty,q1,hrole _ _ q2 (by simp),q3⟩
       · exact hi.eW
   · exact ⟨G,h,cp.refl G w⟩
 · exact ⟨G,h,cp.refl G w⟩
theorem mP {N:Nat}:∀{ps:List (Nat×Nat×Bool)} {st:St} {G:Gh} {a:Act} {w:World},gO (num ns) n0 N G st a w→∃G',gO (num ns) n0 N G' (FO ps st) a w∧cp G w G' w
 | [],st,G,a,w,h=>⟨G,h,cp.refl G w⟩
 | (d,sz,ag)::r,st,G,a,w,h=>by
   obtain ⟨G1,h1,e1⟩:=Bp (d:=d) (sz:=sz) (ag:=ag) h
   obtain ⟨G2,h2,e2⟩:=mP (ps:=r) h1
   exact ⟨G2,h2,e1.trans e2⟩
theorem lY {b b':Nat}:∀{ts:List Nat} {env:List (Nat×AV)} {t:Nat} {x:AV},look (y_ b b' ts env) t=some x→look env t=some x∨∃z n ag,look env t=some (.bI b z n ag)∧x=.bI b' z n ag
 | [],env,t,x,h=>.inl h
 | u::r,env,t,x,h=>by
   simp only [y_] at h
   split at h
   · rename_i s z n ag hu
     split at h
     · rename_i hs
       subst hs
       rcases lY h with h1 | ⟨z',n',ag',h1,h2⟩
       · by_cases hut:u=t
         · subst hut
           rw [bV] at h1
           cases h1
           exact .inr ⟨z,n,ag,hu,rfl⟩
         · rw [cq _ _ _ _ hut] at h1
           exact .inl h1
       · by_cases hut:u=t
         · subst hut
           rw [bV] at h1
           cases h1
           exact .inr ⟨z,n,ag,hu,h2⟩
         · rw [cq _ _ _ _ hut] at h1
           exact .inr ⟨z',n',ag',h1,h2⟩
     · exact lY h
   · exact lY h
theorem Bq {N:Nat} {ts:List Nat} {st:St} {G:Gh} {a:Act} {w:World} (h:gO (num ns) n0 N G st a w):∃G',gO (num ns) n0 N G' (FP ts st) a w∧cp G w G' w:=by
 unfold FP
 split
 · exact ⟨G,h,cp.refl G w⟩
 · rename_i t r
   split
   · rename_i b z n ag hb
     split
     · rename_i cells hcs
       split
       · obtain ⟨blk,e1,_⟩:=h.inv.dM b cells hcs
         obtain ⟨g1,g2,g3⟩:=h.inv.ir hcs e1
         refine ⟨_,⟨⟨h.env.size,fun t' x hx=>?_⟩,g1,h.marks.oT g3 rfl⟩,g3⟩
         rcases lY hx with h1 | ⟨z',n',ag',h1,rfl⟩
         · obtain ⟨v,q1,q2⟩:=h.env.env t' x h1
           exact ⟨v,q1,q2.mono g2⟩
         · obtain ⟨v,q1,q2⟩:=h.env.env t' _ h1
           refine ⟨v,q1,?_⟩
           simp only [aC] at q2 ⊢
           obtain ⟨b',cap,f1,f2,f3⟩:=q2
           rw [e1] at f1;cases f1
           exact ⟨blk,cap,by simp [Gh.ir],f2,f3⟩
       · exact ⟨G,h,cp.refl G w⟩
     · exact ⟨G,h,cp.refl G w⟩
   · exact ⟨G,h,cp.refl G w⟩
theorem yg:∀{ks:List Nat} {sh:Sh} {b:Nat},b∉ks→(kill sh ks)[b]?=sh[b]?
 | [],_,_,_=>rfl
 | k::ks,sh,b,h=>by
   simp only [List.mem_cons,not_or] at h
   have hk:kill sh (k::ks)=kill (sh.set k none) ks:=rfl
   rw [hk,yg h.2,List.getElem?_set,if_neg (fun e=>h.1 e.symm)]
theorem ia {N:Nat}:∀{ts:List Nat} {st:St} {G:Gh} {a:Act} {w:World},gO (num ns) n0 N G st a w→∃G',gO (num ns) n0 N G' (m8 ts st) a w∧cp G w G' w
 | [],st,G,a,w,h=>⟨G,h,cp.refl G w⟩
 | t::r,st,G,a,w,h=>by
   simp only [m8]
   split
   · rename_i b z n ag hb
     split
     · rename_i cells hcs
       split
       · rename_i hok
         obtain ⟨hmb,hself⟩:=hok
         split
         · rename_i ps hps
           obtain ⟨G1,k1,k2,k3,k4,k5⟩:=Inv.kill ([.agg cells].flatMap eZ) h.inv
           obtain ⟨blk,e1,e2,e3,e4⟩:=h.inv.dM b cells hcs
           obtain ⟨hr,c,ty,vs,suf,hh,hcz,hsp,hrel⟩:=e2.cells hmb
           have hnb:b∉[AV.agg cells].flatMap eZ:=by
             have:¬(eZ (.agg cells)).contains b=true:=by rw [hself];simp
             simpa using this
           have hb1:(dZ st.sh [.agg cells])[b]?=some (some cells):=by
             show (kill st.sh ([AV.agg cells].flatMap eZ))[b]?=_
             rw [yg hnb];exact hcs
           obtain ⟨blk',f1,f2,f3,f4⟩:=k1.dM b cells hb1
           have hblk:blk'=blk:=by
             have:=k2.sm _ _ e1
             rw [f1] at this;simpa using this
           subst hblk
           have hrl:dS G1.K ps vs:=ke k2 k4 h.inv.qQ (fun s hs=>by simpa using hs) hps hrel
           have hlf:(ps.map AV.pv).all dP=true:=by
             rw [List.all_eq_true]
             intro x hx
             rw [List.mem_map] at hx
             obtain ⟨p,hp,rfl⟩:=hx
             have:=jP hrl p hp
             cases p<;>first | rfl | simp [eD] at this
           have h1:gO (num ns) n0 N G1 { st with sh:=(dZ st.sh [.agg cells]).set b (some (ps.map .pv)) } a w:=by
             refine ⟨⟨h.env.size,fun t' x hx=>?_⟩,?_,h.marks.oT k3 rfl⟩
             · obtain ⟨u',g1,g2⟩:=h.env.env t' x hx
               exact ⟨u',g1,g2.mono k2⟩
             · exact { k1 with
                 dM:=fun s' cs' hs'=>by
                   rw [List.getElem?_set] at hs'
                   split at hs'
                   · rename_i he
                     subst he
                     split at hs'
                     · cases hs'
                       exact ⟨blk',f1,⟨f2.role,_,hh,.inl ⟨c,ty,vs,suf,rfl,hcz,hsp,il hrl⟩⟩,hlf,uH _ _⟩
                     · cases hs'
                   · exact k1.dM s' cs' hs'
                 eE:=fun s' b' hs'=>by
                   have:=k1.eE s' b' hs'
                   simpa using this }
           obtain ⟨G2,h2,he⟩:=ia (ts:=r) h1
           exact ⟨G2,h2,k3.trans he⟩
         · exact ia h
       · exact ia h
     · exact ia h
   · exact ia h
theorem tT {α β:Type} {f:α→Option β}:∀{l:List α} {r:List β} (k:Nat),cK f l=some r→cK f (l.take k)=some (r.take k)∧cK f (l.drop k)=some (r.drop k)
 | l,r,0,h=>by simp [cK,h]
 | [],r,k+1,h=>by simp [cK] at h;subst h;simp [cK]
 | x::l,r,k+1,h=>by
   simp only [cK] at h
   split at h
   · rename_i y ys h1 h2
     cases h
     obtain ⟨g1,g2⟩:=tT k h2
     simp only [List.take_succ_cons,List.drop_succ_cons,cK,h1,g1]
     exact ⟨trivial,g2⟩
   · cases h
theorem vA (hB:eO P ns) {orc:ek} (horc:gB P ns orc) {A:kS} {N id k:Nat} {q:Nat×List Nat×List Nat} {ops:Array Oper} {as:List dq} (hc:cK (c_ P ns A N ops) ops.toList=some as) {live:List Nat} {st st':St} {e:bG} {G:Gh} {a:Act} {w:World}
   (hs:gO (num ns) n0 N G st a w) (hev:dd orc k (zc (some q) as live) st=some (e,st')) {Q:Exit→Act→World→Prop}
   (hq:∀G' a' w',gO (num ns) n0 N G' st' a' w'→cp G w G' w'→Q (oA e) a' w'):(Code.region id ops false).wpIn (sF ro) 0 P Q a w:=by
 obtain ⟨j,l,ts⟩:=q
 simp only [zc,dd] at hev
 obtain ⟨g1,g2⟩:=tT j hc
 cases h1:bM orc (as.take j) st with
 | none=>rw [h1] at hev;simp at hev
 | some st1=>
   rw [h1] at hev
   simp only at hev
   cases h2:bM orc (as.drop j) (FP ts (Go.Ab.restrict l st1)) with
   | none=>rw [h2] at hev;simp at hev
   | some st2=>
     rw [h2] at hev
     simp only [Option.some.injEq,Prod.mk.injEq] at hev
     obtain ⟨rfl,rfl⟩:=hev
     refine wpIn_region_list ?_
     rw [←List.take_append_drop j ops.toList]
     refine h_ hB horc g1 hs h1 fun G1 a1 w1 hs1 he1 _ _=>?_
     obtain ⟨G2,hs2,he2⟩:=Bq (ts:=ts) (hs1.restrict l)
     have:=h_ (ro:=ro) (n:=0) (rest:=[]) (Q:=Q) hB horc g2 hs2 h2 (fun G3 a3 w3 hs3 he3 _ _=>by
       unfold wpListIn
       exact hq (G3.bq live) a3 w3 (hs3.restrict live) (he1.trans ((cp.bq l).trans (he2.trans (he3.trans (cp.bq live))))))
     rwa [List.append_nil] at this
theorem kI {live:List Nat} {env:List (Nat×AV)}:∀{ds:List (Nat×Nat)},iB (ca live env live) ds=true→iB env ds=true
 | [],_=>rfl
 | (a,b)::r,h=>by
   simp only [iB,Bool.and_eq_true] at h ⊢
   refine ⟨?_,kI h.2⟩
   obtain ⟨b1,o1,b2,o2,h1,h2,hne⟩:=tI h.1
   rw [(dU h1).1,(dU h2).1]
   simpa [apart] using hne
theorem rB {orc:ek} {k:Nat} {as:List dq} {live:List Nat} {ds:Option (List (Nat×Nat))} {ps:Option (List (Nat×Nat×Bool))} {st st':St} {e:bG}
   (h:dd orc k (behind ds ps (.bn as live)) st=some (e,st')) :
   ∃st1,bM orc as st=some st1∧e=.normal∧iB st1.env (ds.getD [])=true∧st'=FO (ps.getD []) (restrict live st1):=by
 have h1:∀e2 st2,dd orc k (match ds with | some ds=>au.seq (.bn as live) (.Lu ds) | none=>.bn as live) st=some (e2,st2) →
     ∃st1,bM orc as st=some st1∧e2=.normal∧iB st1.env (ds.getD [])=true∧st2=restrict live st1:=by
   intro e2 st2 h
   cases ds with
   | none=>
     simp only [dd] at h
     split at h
     · rename_i st1 h1
       simp at h;obtain ⟨rfl,rfl⟩:=h
       exact ⟨st1,h1,rfl,rfl,rfl⟩
     · simp at h
   | some ds=>
     simp only [dd] at h
     cases h1:bM orc as st with
     | none=>rw [h1] at h;simp at h
     | some st1=>
       rw [h1] at h
       simp only [Option.ite_none_right_eq_some,Option.some.injEq,Prod.mk.injEq] at h
       obtain ⟨h2,rfl,rfl⟩:=h
       exact ⟨st1,rfl,rfl,kI h2,rfl⟩
 unfold behind at h
 cases ps with
 | none=>
   obtain ⟨st1,g1,g2,g3,g4⟩:=h1 e st' h
   exact ⟨st1,g1,g2,g3,g4⟩
 | some ps=>
   simp only [dd] at h
   split at h
   · rename_i st2 h2
     simp at h
     obtain ⟨st1,g1,g2,g3,rfl⟩:=h1 _ _ h2
     exact ⟨st1,g1,h.1.symm,g3,h.2.symm⟩
   · rename_i r hr
     obtain ⟨st1,g1,rfl,g3,g4⟩:=h1 e st' h
     exact absurd h (hr st')
def qb (_:Program) (_:Names):Prop:=True
theorem iP (hm:P.follows .mixedOrders=true) (hB:eO P ns) {orc:ek} (horc:gB P ns orc) (hBk:qb P ns) {A:kS} {N k:Nat}:∀{c:Code} {ac:au},fY P ns A N c=some ac →
   ∀{n0:Nat} {ro:Option Nat},(ro=none∨ac.fM=true)→∀{st st':St} {e:bG} {G:Gh} {a:Act} {w:World} {Q:Exit→Act→World→Prop},dd orc k ac st=some (e,st')→gO (num ns) n0 N G st a w →
     (∀G' a' w',gO (num ns) n0 N G' st' a' w'→cp G w G' w'→Q (oA e) a' w')→c.wpIn (sF ro) 0 P Q a w
 | .skip,ac,hc,n0,ro,hro,st,st',e,G,a,w,Q,hev,hs,hq=>by
   simp [fY] at hc;subst hc
   simp [dd] at hev;obtain ⟨rfl,rfl⟩:=hev
   exact wpIn_skip (hq G a w hs (cp.refl G w))
 | .region id ops draw,ac,hc,n0,ro,hro,st,st',e,G,a,w,Q,hev,hs,hq=>by
   simp only [fY] at hc
   split at hc
   · rename_i as has
     have key:∀o ds ps live,ac=jm o (behind ds ps (.bn as live))→(draw=true→uz (ds.getD []) ops.toList as=true)→(Code.region id ops draw).wpIn (sF ro) 0 P Q a w:=by
       rintro o ds ps live rfl hd
       have main:∀{st:St} {G1:Gh},dd orc k (behind ds ps (.bn as live)) st=some (e,st')→gO (num ns) n0 N G1 st a w→cp G w G1 w→(Code.region id ops draw).wpIn (sF ro) 0 P Q a w:=by
         intro st G1 hev hs he1
         obtain ⟨st1,h1,rfl,h3,rfl⟩:=rB hev
         refine tK hm hB horc has hd hs h1 h3 fun G' a' w' hs' he'=>?_
         obtain ⟨G2,h4,h5⟩:=mP (ps:=ps.getD []) (hs'.restrict live)
         exact hq G2 a' w' h4 (he1.trans (he'.trans ((cp.bq live).trans h5)))
       cases o with
       | none=>exact main hev hs (cp.refl G w)
       | some ts=>
         simp only [jm,dd] at hev
         obtain ⟨G2,h2,he2⟩:=jf (ts:=ts) hs
         exact main hev h2 he2
     have ahead:∀o1 o2 c,ac=pZ o1 (jm o2 c)→(∀{st:St} {G1:Gh},dd orc k c st=some (e,st')→gO (num ns) n0 N G1 st a w→cp G w G1 w→(Code.region id ops draw).wpIn (sF ro) 0 P Q a w)→(Code.region id ops draw).wpIn (sF ro) 0 P Q a w:=by
       rintro o1 o2 c rfl hm
       have h2:∀{st:St} {G1:Gh},dd orc k (jm o2 c) st=some (e,st')→gO (num ns) n0 N G1 st a w→cp G w G1 w→(Code.region id ops draw).wpIn (sF ro) 0 P Q a w:=by
         intro st G1 hev hs he1
         cases o2 with
         | none=>exact hm hev hs he1
         | some ts=>
           simp only [jm,dd] at hev
           obtain ⟨G2,h2,he2⟩:=jf (ts:=ts) hs
           exact hm hev h2 (he1.trans he2)
       cases o1 with
       | none=>exact h2 hev hs (cp.refl G w)
       | some ts=>
         simp only [pZ,dd] at hev
         obtain ⟨G2,h3,he2⟩:=ia (ts:=ts) hs
         exact h2 hev h3 he2
     split at hc
     · rename_i hdr
       split at hc
       · rename_i hok
         simp at hc
         exact key _ _ _ _ hc.symm (fun _=>hok)
       · simp at hc
     · rename_i hdr
       have hdr':draw=false:=by simpa using hdr
       subst hdr'
       split at hc
       · rename_i q hq'
         simp only [Option.some.injEq] at hc
         exact ahead _ _ _ hc.symm fun hev hs he1=>vA hB horc has hs hev fun G' a' w' h1 h2=>hq G' a' w' h1 (he1.trans h2)
       · simp only [Option.some.injEq] at hc
         refine ahead _ _ _ hc.symm fun hev hs he1=>?_
         obtain ⟨st1,h1,rfl,h3,rfl⟩:=rB hev
         refine tK hm hB horc has (fun h=>absurd h hdr) hs h1 h3 fun G' a' w' hs' he'=>?_
         obtain ⟨G2,h4,h5⟩:=mP (ps:=(look A.kR id).getD []) (hs'.restrict ((look A.live id).getD []))
         exact hq G2 a' w' h4 (he1.trans (he'.trans ((cp.bq _).trans h5)))
   · simp at hc
 | .seq x y,ac,hc,n0,ro,hro,st,st',e,G,a,w,Q,hev,hs,hq=>by
   simp only [fY] at hc
   split at hc
   · rename_i ax ay hx hy
     simp at hc;subst hc
     have hrx:ro=none∨ax.fM=true:=hro.imp_right fun h=>by simp only [au.fM,Bool.and_eq_true] at h;exact h.1
     have hry:ro=none∨ay.fM=true:=hro.imp_right fun h=>by simp only [au.fM,Bool.and_eq_true] at h;exact h.2
     simp only [dd] at hev
     refine wpIn_seq ?_
     split at hev
     · rename_i st1 h1
       refine iP hm hB horc hBk hx hrx h1 hs fun G' a' w' hs' he'=>?_
       exact iP hm hB horc hBk hy hry hev hs' fun G'' a'' w'' hs'' he''=>hq G'' a'' w'' hs'' (he'.trans he'')
     · rename_i r hr
       refine iP hm hB horc hBk hx hrx hev hs fun G' a' w' hs' he'=>?_
       have:=hq G' a' w' hs' he'
       cases e with
       | normal=>exact absurd hev (hr st')
       | ret=>exact this
       | exit id=>exact this
   · simp at hc
 | .cond c x y,ac,hc,n0,ro,hro,st,st',e,G,a,w,Q,hev,hs,hq=>by
   simp only [fY] at hc
   split at hc
   · rename_i acnd ax ay hcn hx hy
     simp at hc;subst hc
     have hrx:ro=none∨ax.fM=true:=hro.imp_right fun h=>by simp only [au.fM,Bool.and_eq_true] at h;exact h.1
     have hry:ro=none∨ay.fM=true:=hro.imp_right fun h=>by simp only [au.fM,Bool.and_eq_true] at h;exact h.2
     simp only [dd] at hev
     split at hev
     · rename_i t ht
       have hrel:=BX hs.env hcn ht
       simp only [aC,im] at hrel
       refine wpIn_cond hrel ?_
       cases t with
       | true=>exact iP hm hB horc hBk hx hrx (by simpa using hev) hs hq
       | false=>exact iP hm hB horc hBk hy hry (by simpa using hev) hs hq
     · simp at hev
   · simp at hc
 | .block id b,ac,hc,n0,ro,hro,st,st',e,G,a,w,Q,hev,hs,hq=>by
   simp only [fY,Option.map_eq_some_iff] at hc
   obtain ⟨ab,hb,rfl⟩:=hc
   have hrb:ro=none∨ab.fM=true:=hro.imp_right fun h=>by simpa only [au.fM] using h
   refine wpIn_block ?_
   simp only [dd] at hev
   split at hev
   · rename_i id' st1 h1
     refine iP hm hB horc hBk hb hrb h1 hs fun G' a' w' hs' he'=>?_
     split at hev
     · rename_i BZ
       simp at hev;obtain ⟨rfl,rfl⟩:=hev
       simp only [oA,Exit.inBlock,BZ,if_true]
       exact hq G' a' w' hs' he'
     · rename_i BZ
       simp at hev;obtain ⟨rfl,rfl⟩:=hev
       simp only [oA,Exit.inBlock,BZ,if_false]
       exact hq G' a' w' hs' he'
   · rename_i r hr
     refine iP hm hB horc hBk hb hrb hev hs fun G' a' w' hs' he'=>?_
     have:=hq G' a' w' hs' he'
     cases e with
     | normal=>exact this
     | ret=>exact this
     | exit id'=>exact absurd hev (hr id' st')
 | .loop b,ac,hc,n0,ro,hro,st,st',e,G,a,w,Q,hev,hs,hq=>by
   simp only [fY,Option.map_eq_some_iff] at hc
   obtain ⟨ab,hb,rfl⟩:=hc
   have hrb:ro=none∨ab.fM=true:=hro.imp_right fun h=>by simpa only [au.fM] using h
   simp only [dd] at hev
   refine wpIn_loop_rounds k ?_
   exact pB (fun h=>h.head _) (fun h1 h2 h3=>iP hm hB horc hBk hb hrb h1 h2 h3) k hev hs hq
 | .exit id,ac,hc,n0,ro,hro,st,st',e,G,a,w,Q,hev,hs,hq=>by
   simp [fY] at hc;subst hc
   simp [dd] at hev;obtain ⟨rfl,rfl⟩:=hev
   exact wpIn_exit (hq G a w hs (cp.refl G w))
 | .ret,ac,hc,n0,ro,hro,st,st',e,G,a,w,Q,hev,hs,hq=>by
   simp [fY] at hc;subst hc
   simp [dd] at hev;obtain ⟨rfl,rfl⟩:=hev
   exact wpIn_ret (hq G a w hs (cp.refl G w))
 | .rangeFunc f ps x y,ac,hc,n0,ro,hro,st,st',e,G,a,w,Q,hev,hs,hq=>by simp [fY] at hc
 | .scope _,ac,hc,n0,ro,hro,st,st',e,G,a,w,Q,hev,hs,hq=>by simp [fY] at hc
 | .label _,ac,hc,n0,ro,hro,st,st',e,G,a,w,Q,hev,hs,hq=>by simp [fY] at hc
 | .goto _,ac,hc,n0,ro,hro,st,st',e,G,a,w,Q,hev,hs,hq=>by simp [fY] at hc
 | .refuse _,ac,hc,n0,ro,hro,st,st',e,G,a,w,Q,hev,hs,hq=>by simp [fY] at hc
end
end Go.Ab
