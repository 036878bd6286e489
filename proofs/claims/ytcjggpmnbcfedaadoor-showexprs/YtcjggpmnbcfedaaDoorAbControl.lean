import Derived.Test.YtcjggpmnbcfedaaDoorAbBack
/-
  Code and functions: what the evaluator gives is what the model does.
-/
set_option linter.unusedVariables false
set_option linter.unusedSimpArgs false
set_option maxRecDepth 100000
set_option maxHeartbeats 8000000
namespace Go.Ab
section
variable {n0:Nat} {P:Program} {ns:Names} {ro:Option Nat}
theorem lF {c:Code} {Q:Exit→Act→World→Prop} {f:St→Option (aH×St)} {pre:St→St} {N:Nat}
   (hpre:∀{st:St} {G:Gh} {a:Act} {w:World},eU (num ns) n0 N G st a w→∃G',eU (num ns) n0 N G' (pre st) a w∧bz G w G' w)
   (hf:∀{st st':St} {e:aH} {G:Gh} {a:Act} {w:World} {Q:Exit→Act→World→Prop},f st=some (e,st')→eU (num ns) n0 N G st a w →
     (∀G' a' w',eU (num ns) n0 N G' st' a' w'→bz G w G' w'→Q (fY e) a' w')→c.wpIn (nR ro) 0 P Q a w) :
   ∀(n:Nat) {st st':St} {e:aH} {G:Gh} {a:Act} {w:World},dJ f pre n st=some (e,st')→eU (num ns) n0 N G st a w →
     (∀G' a' w',eU (num ns) n0 N G' st' a' w'→bz G w G' w'→Q (fY e) a' w')→Code.roundsIn (nR ro) 0 P c Q n a w
 | 0,st,st',e,G,a,w,h,_,_=>by simp [dJ] at h
 | n+1,st,st',e,G,a,w,h,hs,hq=>by
   rw [roundsIn_succ]
   obtain ⟨G0,hs0,he0⟩:=hpre hs
   simp only [dJ] at h
   split at h
   · rename_i st1 h1
     refine hf h1 hs0 fun G' a' w' hs' he'=>?_
     exact lF hpre hf n h hs' fun G'' a'' w'' hs'' he''=>hq G'' a'' w'' hs'' ((he0.trans he').trans he'')
   · rename_i r hr
     have hne:e≠.normal:=by
       rintro rfl
       exact hr st' h
     refine hf h hs0 fun G' a' w' hs' he'=>?_
     have:=hq G' a' w' hs' (he0.trans he')
     cases e with
     | normal=>exact absurd rfl hne
     | ret=>exact this
     | exit id=>exact this
theorem vL {N:Nat} {v:AV} {st:St} {G:Gh} {a:Act} {w:World} (h:eU (num ns) n0 N G st a w):∃G',eU (num ns) n0 N G' (sy v st) a w∧bz G w G' w:=by
 unfold sy
 split
 · rename_i st' d
   split
   · rename_i cs hcs
     split
     · rename_i ps hps
       obtain ⟨G1,k1,k2,k3,k4,k5⟩:=Inv.kill ([.agg cs].flatMap dX) h.inv
       obtain ⟨b,e1,⟨e2,c,t,e3,e4⟩,e5⟩:=h.inv.bZ d cs hcs
       obtain ⟨b',f1,⟨f2,c',t',f3,f4⟩,f5⟩:=k1.bZ d cs hcs
       have hb:b=b':=by have:=k2.pm d b e1;rw [f1] at this;simpa using this.symm
       subst hb
       have hcc:c=c':=by rw [e3] at f3;cases f3;rfl
       subst hcc
       have hrl:cw G1.K ps c.toList:=jv k2 k4 h.inv.oL (fun s hs=>by simpa using hs) hps e4
       have hlf:(ps.map AV.pv).all aG=true:=by
         rw [List.all_eq_true]
         intro x hx
         rw [List.mem_map] at hx
         obtain ⟨p,hp,rfl⟩:=hx
         have:=iW hrl p hp
         cases p<;>first | rfl | simp [e8] at this
       refine ⟨G1,⟨⟨h.env.size,fun t' x hx=>?_⟩,?_,h.marks.sv k3 rfl⟩,k3⟩
       · obtain ⟨u',g1,g2⟩:=h.env.env t' x hx
         exact ⟨u',g1,g2.mono k2⟩
       · refine ⟨k1.known,k1.aM,k1.fresh,?_,?_,k1.cL,k1.dT,k1.cn,k1.dL⟩
         · intro d' cs' hd'
           by_cases hdd:d=d'
           · subst hdd
             rw [bC] at hd'
             cases hd'
             exact ⟨b,f1,⟨f2,c,t',f3,fF hrl⟩,hlf⟩
           · rw [bs _ _ _ _ hdd] at hd'
             exact k1.bZ d' cs' hd'
         · intro d' b' hd'
           by_cases hdd:d=d'
           · subst hdd;rw [bC];rfl
           · rw [bs _ _ _ _ hdd];exact k1.eN d' b' hd'
     · exact ⟨G,h,bz.refl G w⟩
   · exact ⟨G,h,bz.refl G w⟩
 · exact ⟨G,h,bz.refl G w⟩
theorem ib {N:Nat}:∀{ts:List Nat} {st:St} {G:Gh} {a:Act} {w:World},eU (num ns) n0 N G st a w→∃G',eU (num ns) n0 N G' (jf ts st) a w∧bz G w G' w
 | [],st,G,a,w,h=>⟨G,h,bz.refl G w⟩
 | t::r,st,G,a,w,h=>by
   simp only [jf]
   split
   · rename_i v hv
     split
     · rename_i p hp
       obtain ⟨G1,k1,k2,k3,k4,k5⟩:=Inv.kill ([v].flatMap dX) h.inv
       obtain ⟨u,hu,hr⟩:=h.env.env t v hv
       have hrel:Rel G1.K p u:=mi k2 k4 h.inv.oL (fun s hs=>by simpa using hs) hp hr
       have h1:eU (num ns) n0 N G1 { st with env:=cO st.env t (.pv p),sh:=dj st.sh [v] } a w:=by
         refine ⟨⟨h.env.size,fun t' x hx=>?_⟩,k1,h.marks.sv k3 rfl⟩
         by_cases ht:t'=t
         · subst ht
           rw [Ev.i_,if_pos rfl] at hx
           cases hx
           exact ⟨u,hu,by simpa only [al] using hrel⟩
         · rw [Ev.i_,if_neg ht] at hx
           obtain ⟨u',f1,f2⟩:=h.env.env t' x hx
           exact ⟨u',f1,f2.mono k2⟩
       obtain ⟨G2,h2,he⟩:=ib (ts:=r) h1
       exact ⟨G2,h2,k3.trans he⟩
     · obtain ⟨G1,h1,e1⟩:=vL (v:=v) h
       obtain ⟨G2,h2,e2⟩:=ib (ts:=r) h1
       exact ⟨G2,h2,e1.trans e2⟩
   · exact ib h
def lW (P:Program) (ns:Names):Prop:=∀gb sz ag,look ns.bk gb=some (sz,ag)→∀f,ns.of f=some gb→Nonempty (pF P ns f sz ag)
theorem eC (hm:P.follows .mixedOrders=true) (hB:eQ P ns) {orc:dC} (horc:gu P ns orc) (hBk:lW P ns) {A:jL} {N k:Nat}:∀{c:Code} {ac:aE},dB P ns A N c=some ac →
   ∀{n0:Nat} {ro:Option Nat},(ro=none∨ac.dk=true)→∀{st st':St} {e:aH} {G:Gh} {a:Act} {w:World} {Q:Exit→Act→World→Prop},cI orc k ac st=some (e,st')→eU (num ns) n0 N G st a w →
     (∀G' a' w',eU (num ns) n0 N G' st' a' w'→bz G w G' w'→Q (fY e) a' w')→c.wpIn (nR ro) 0 P Q a w
 | .skip,ac,hc,n0,ro,hro,st,st',e,G,a,w,Q,hev,hs,hq=>by
   simp [dB] at hc;subst hc
   simp [cI] at hev;obtain ⟨rfl,rfl⟩:=hev
   exact wpIn_skip (hq G a w hs (bz.refl G w))
 | .region id ops draw,ac,hc,n0,ro,hro,st,st',e,G,a,w,Q,hev,hs,hq=>by
   simp only [dB] at hc
   split at hc
   · rename_i as has
     have key:∀o live,ac=jS o (.aq as live)→(draw=true→oq ops.toList as=true)→(Code.region id ops draw).wpIn (nR ro) 0 P Q a w:=by
       rintro o live rfl hd
       cases o with
       | none=>
         simp only [jS,cI] at hev
         split at hev
         · rename_i st1 h1
           simp at hev;obtain ⟨rfl,rfl⟩:=hev
           refine nS hm hB horc has hd hs h1 fun G' a' w' hs' he'=>?_
           exact hq (G'.aF live) a' w' (hs'.restrict live) (he'.trans (bz.aF live))
         · simp at hev
       | some ts=>
         simp only [jS,cI] at hev
         split at hev
         · rename_i st1 h1
           simp at hev;obtain ⟨rfl,rfl⟩:=hev
           obtain ⟨G2,h2,he2⟩:=ib (ts:=ts) hs
           refine nS hm hB horc has hd h2 h1 fun G' a' w' hs' he'=>?_
           exact hq (G'.aF live) a' w' (hs'.restrict live) (he2.trans (he'.trans (bz.aF live)))
         · simp at hev
     split at hc
     · rename_i hdr
       split at hc
       · rename_i hok
         simp at hc
         exact key _ _ hc.symm (fun _=>hok)
       · simp at hc
     · rename_i hdr
       simp at hc
       exact key _ _ hc.symm (fun h=>absurd h hdr)
   · simp at hc
 | .seq x y,ac,hc,n0,ro,hro,st,st',e,G,a,w,Q,hev,hs,hq=>by
   simp only [dB] at hc
   split at hc
   · rename_i ax ay hx hy
     simp at hc;subst hc
     have hrx:ro=none∨ax.dk=true:=hro.imp_right fun h=>by simp only [aE.dk,Bool.and_eq_true] at h;exact h.1
     have hry:ro=none∨ay.dk=true:=hro.imp_right fun h=>by simp only [aE.dk,Bool.and_eq_true] at h;exact h.2
     simp only [cI] at hev
     refine wpIn_seq ?_
     split at hev
     · rename_i st1 h1
       refine eC hm hB horc hBk hx hrx h1 hs fun G' a' w' hs' he'=>?_
       exact eC hm hB horc hBk hy hry hev hs' fun G'' a'' w'' hs'' he''=>hq G'' a'' w'' hs'' (he'.trans he'')
     · rename_i r hr
       refine eC hm hB horc hBk hx hrx hev hs fun G' a' w' hs' he'=>?_
       have:=hq G' a' w' hs' he'
       cases e with
       | normal=>exact absurd hev (hr st')
       | ret=>exact this
       | exit id=>exact this
   · simp at hc
 | .cond c x y,ac,hc,n0,ro,hro,st,st',e,G,a,w,Q,hev,hs,hq=>by
   simp only [dB] at hc
   split at hc
   · rename_i acnd ax ay hcn hx hy
     simp at hc;subst hc
     have hrx:ro=none∨ax.dk=true:=hro.imp_right fun h=>by simp only [aE.dk,Bool.and_eq_true] at h;exact h.1
     have hry:ro=none∨ay.dk=true:=hro.imp_right fun h=>by simp only [aE.dk,Bool.and_eq_true] at h;exact h.2
     simp only [cI] at hev
     split at hev
     · rename_i t ht
       have hrel:=wb hs.env hcn ht
       simp only [al,dM] at hrel
       refine wpIn_cond hrel ?_
       cases t with
       | true=>exact eC hm hB horc hBk hx hrx (by simpa using hev) hs hq
       | false=>exact eC hm hB horc hBk hy hry (by simpa using hev) hs hq
     · simp at hev
   · simp at hc
 | .block id b,ac,hc,n0,ro,hro,st,st',e,G,a,w,Q,hev,hs,hq=>by
   simp only [dB,Option.map_eq_some_iff] at hc
   obtain ⟨ab,hb,rfl⟩:=hc
   have hrb:ro=none∨ab.dk=true:=hro.imp_right fun h=>by simpa only [aE.dk] using h
   refine wpIn_block ?_
   simp only [cI] at hev
   split at hev
   · rename_i id' st1 h1
     refine eC hm hB horc hBk hb hrb h1 hs fun G' a' w' hs' he'=>?_
     split at hev
     · rename_i w8
       simp at hev;obtain ⟨rfl,rfl⟩:=hev
       simp only [fY,Exit.inBlock,w8,if_true]
       exact hq G' a' w' hs' he'
     · rename_i w8
       simp at hev;obtain ⟨rfl,rfl⟩:=hev
       simp only [fY,Exit.inBlock,w8,if_false]
       exact hq G' a' w' hs' he'
   · rename_i r hr
     refine eC hm hB horc hBk hb hrb hev hs fun G' a' w' hs' he'=>?_
     have:=hq G' a' w' hs' he'
     cases e with
     | normal=>exact this
     | ret=>exact this
     | exit id'=>exact absurd hev (hr id' st')
 | .loop b,ac,hc,n0,ro,hro,st,st',e,G,a,w,Q,hev,hs,hq=>by
   simp only [dB,Option.map_eq_some_iff] at hc
   obtain ⟨ab,hb,rfl⟩:=hc
   have hrb:ro=none∨ab.dk=true:=hro.imp_right fun h=>by simpa only [aE.dk] using h
   simp only [cI] at hev
   refine wpIn_loop_rounds k ?_
   exact lF (fun h=>h.head _) (fun h1 h2 h3=>eC hm hB horc hBk hb hrb h1 h2 h3) k hev hs hq
 | .exit id,ac,hc,n0,ro,hro,st,st',e,G,a,w,Q,hev,hs,hq=>by
   simp [dB] at hc;subst hc
   simp [cI] at hev;obtain ⟨rfl,rfl⟩:=hev
   exact wpIn_exit (hq G a w hs (bz.refl G w))
 | .ret,ac,hc,n0,ro,hro,st,st',e,G,a,w,Q,hev,hs,hq=>by
   simp [dB] at hc;subst hc
   simp [cI] at hev;obtain ⟨rfl,rfl⟩:=hev
   exact wpIn_ret (hq G a w hs (bz.refl G w))
 | .rangeFunc f ps x y,ac,hc,n0,ro,hro,st,st',e,G,a,w,Q,hev,hs,hq=>by
   cases f with
   | tmp t=>
     simp only [dB] at hc
     split at hc
     · rename_i pi px gb hps hgb
       split at hc
       · rename_i sz ag ax ay hbk hx hy
         split at hc
         · rename_i hok
           obtain ⟨nx,ny,hpi,hpx⟩:=hok
           simp at hc;subst hc
           have hro':ro=none:=hro.resolve_right (by simp [aE.dk])
           subst hro'
           have hps':ps=#[pi,px]:=by
             have:=congrArg List.toArray hps
             simpa using this
           subst hps'
           simp only [cI] at hev
           exact vJ hB horc (hBk gb _ _ hbk)
             (fun h1 h2 h3=>eC hm hB horc hBk hx (.inr nx) h1 h2 h3) (fun h1 h2 h3=>eC hm hB horc hBk hy (.inr ny) h1 h2 h3) hpi hpx hev hs hq
         · simp at hc
       · simp at hc
     · simp at hc
   | _=>simp [dB] at hc
 | .scope _,ac,hc,n0,ro,hro,st,st',e,G,a,w,Q,hev,hs,hq=>by simp [dB] at hc
 | .label _,ac,hc,n0,ro,hro,st,st',e,G,a,w,Q,hev,hs,hq=>by simp [dB] at hc
 | .goto _,ac,hc,n0,ro,hro,st,st',e,G,a,w,Q,hev,hs,hq=>by simp [dB] at hc
 | .refuse _,ac,hc,n0,ro,hro,st,st',e,G,a,w,Q,hev,hs,hq=>by simp [dB] at hc
end
end Go.Ab
