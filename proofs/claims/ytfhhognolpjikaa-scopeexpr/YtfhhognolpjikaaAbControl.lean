import Derived.Test.YtfhhognolpjikaaAbBack
/-
  Code and functions: what the evaluator gives is what the model does.
-/
set_option linter.unusedVariables false
set_option linter.unusedSimpArgs false
set_option maxRecDepth 100000
set_option maxHeartbeats 8000000
namespace Go.Ab
section
variable {n0:Nat} {P:Program} {ns:Names} {ro:Option Nat}
theorem me {c:Code} {Q:Exit→Act→World→Prop} {f:St→Option (aO×St)} {pre:St→St} {N:Nat}
   (hpre:∀{st:St} {G:Gh} {a:Act} {w:World},fG (num ns) n0 N G st a w→∃G',fG (num ns) n0 N G' (pre st) a w∧bJ G w G' w)
   (hf:∀{st st':St} {e:aO} {G:Gh} {a:Act} {w:World} {Q:Exit→Act→World→Prop},f st=some (e,st')→fG (num ns) n0 N G st a w →
     (∀G' a' w',fG (num ns) n0 N G' st' a' w'→bJ G w G' w'→Q (gH e) a' w')→c.wpIn (oK ro) 0 P Q a w) :
   ∀(n:Nat) {st st':St} {e:aO} {G:Gh} {a:Act} {w:World},d8 f pre n st=some (e,st')→fG (num ns) n0 N G st a w →
     (∀G' a' w',fG (num ns) n0 N G' st' a' w'→bJ G w G' w'→Q (gH e) a' w')→Code.roundsIn (oK ro) 0 P c Q n a w
 | 0,st,st',e,G,a,w,h,_,_=>by simp [d8] at h
 | n+1,st,st',e,G,a,w,h,hs,hq=>by
   rw [roundsIn_succ]
   obtain ⟨G0,hs0,he0⟩:=hpre hs
   simp only [d8] at h
   split at h
   · rename_i st1 h1
     refine hf h1 hs0 fun G' a' w' hs' he'=>?_
     exact me hpre hf n h hs' fun G'' a'' w'' hs'' he''=>hq G'' a'' w'' hs'' ((he0.trans he').trans he'')
   · rename_i r hr
     have hne:e≠.normal:=by
       rintro rfl
       exact hr st' h
     refine hf h hs0 fun G' a' w' hs' he'=>?_
     have:=hq G' a' w' hs' (he0.trans he')
     cases e with
     | normal=>exact absurd rfl hne
     | ret=>exact this
     | exit id=>exact this
theorem wM {N:Nat} {v:AV} {st:St} {G:Gh} {a:Act} {w:World} (h:fG (num ns) n0 N G st a w):∃G',fG (num ns) n0 N G' (tq v st) a w∧bJ G w G' w:=by
 unfold tq
 split
 · rename_i st' d
   split
   · rename_i cs hcs
     split
     · rename_i ps hps
       obtain ⟨G1,k1,k2,k3,k4,k5⟩:=Inv.kill ([.agg cs].flatMap er) h.inv
       obtain ⟨b,e1,⟨e2,c,t,e3,e4⟩,e5⟩:=h.inv.cm d cs hcs
       obtain ⟨b',f1,⟨f2,c',t',f3,f4⟩,f5⟩:=k1.cm d cs hcs
       have hb:b=b':=by have:=k2.pm d b e1;rw [f1] at this;simpa using this.symm
       subst hb
       have hcc:c=c':=by rw [e3] at f3;cases f3;rfl
       subst hcc
       have hrl:cL G1.K ps c.toList:=jZ k2 k4 h.inv.pB (fun s hs=>by simpa using hs) hps e4
       have hlf:(ps.map AV.pv).all aP=true:=by
         rw [List.all_eq_true]
         intro x hx
         rw [List.mem_map] at hx
         obtain ⟨p,hp,rfl⟩:=hx
         have:=jq hrl p hp
         cases p<;>first | rfl | simp [fX] at this
       refine ⟨G1,⟨⟨h.env.size,fun t' x hx=>?_⟩,?_,h.marks.tl k3 rfl⟩,k3⟩
       · obtain ⟨u',g1,g2⟩:=h.env.env t' x hx
         exact ⟨u',g1,g2.mono k2⟩
       · refine ⟨k1.known,k1.aY,k1.fresh,?_,?_,k1.cY,k1.ek,k1.ct,k1.d_⟩
         · intro d' cs' hd'
           by_cases hdd:d=d'
           · subst hdd
             rw [bM] at hd'
             cases hd'
             exact ⟨b,f1,⟨f2,c,t',f3,gu hrl⟩,hlf⟩
           · rw [bG _ _ _ _ hdd] at hd'
             exact k1.cm d' cs' hd'
         · intro d' b' hd'
           by_cases hdd:d=d'
           · subst hdd;rw [bM];rfl
           · rw [bG _ _ _ _ hdd];exact k1.fp d' b' hd'
     · exact ⟨G,h,bJ.refl G w⟩
   · exact ⟨G,h,bJ.refl G w⟩
 · exact ⟨G,h,bJ.refl G w⟩
theorem iK {N:Nat}:∀{ts:List Nat} {st:St} {G:Gh} {a:Act} {w:World},fG (num ns) n0 N G st a w→∃G',fG (num ns) n0 N G' (jG ts st) a w∧bJ G w G' w
 | [],st,G,a,w,h=>⟨G,h,bJ.refl G w⟩
 | t::r,st,G,a,w,h=>by
   simp only [jG]
   split
   · rename_i v hv
     split
     · rename_i p hp
       obtain ⟨G1,k1,k2,k3,k4,k5⟩:=Inv.kill ([v].flatMap er) h.inv
       obtain ⟨u,hu,hr⟩:=h.env.env t v hv
       have hrel:Rel G1.K p u:=mW k2 k4 h.inv.pB (fun s hs=>by simpa using hs) hp hr
       have h1:fG (num ns) n0 N G1 { st with env:=db st.env t (.pv p),sh:=dL st.sh [v] } a w:=by
         refine ⟨⟨h.env.size,fun t' x hx=>?_⟩,k1,h.marks.tl k3 rfl⟩
         by_cases ht:t'=t
         · subst ht
           rw [Ev.jA,if_pos rfl] at hx
           cases hx
           exact ⟨u,hu,by simpa only [aq] using hrel⟩
         · rw [Ev.jA,if_neg ht] at hx
           obtain ⟨u',f1,f2⟩:=h.env.env t' x hx
           exact ⟨u',f1,f2.mono k2⟩
       obtain ⟨G2,h2,he⟩:=iK (ts:=r) h1
       exact ⟨G2,h2,k3.trans he⟩
     · obtain ⟨G1,h1,e1⟩:=wM (v:=v) h
       obtain ⟨G2,h2,e2⟩:=iK (ts:=r) h1
       exact ⟨G2,h2,e1.trans e2⟩
   · exact iK h
def mD (P:Program) (ns:Names):Prop:=∀gb sz ag,look ns.bk gb=some (sz,ag)→∀f,ns.of f=some gb→Nonempty (qf P ns f sz ag)
theorem e7 (hm:P.follows .mixedOrders=true) (hB:fu P ns) {orc:d0} (horc:gV P ns orc) (hBk:mD P ns) {A:ki} {N k:Nat}:∀{c:Code} {ac:aw},dY P ns A N c=some ac →
   ∀{n0:Nat} {ro:Option Nat},(ro=none∨ac.dM=true)→∀{st st':St} {e:aO} {G:Gh} {a:Act} {w:World} {Q:Exit→Act→World→Prop},cV orc k ac st=some (e,st')→fG (num ns) n0 N G st a w →
     (∀G' a' w',fG (num ns) n0 N G' st' a' w'→bJ G w G' w'→Q (gH e) a' w')→c.wpIn (oK ro) 0 P Q a w
 | .skip,ac,hc,n0,ro,hro,st,st',e,G,a,w,Q,hev,hs,hq=>by
   simp [dY] at hc;subst hc
   simp [cV] at hev;obtain ⟨rfl,rfl⟩:=hev
   exact wpIn_skip (hq G a w hs (bJ.refl G w))
 | .region id ops draw,ac,hc,n0,ro,hro,st,st',e,G,a,w,Q,hev,hs,hq=>by
   simp only [dY] at hc
   split at hc
   · rename_i as has
     have key:∀o live,ac=kn o (.ah as live)→(draw=true→pa ops.toList as=true)→(Code.region id ops draw).wpIn (oK ro) 0 P Q a w:=by
       rintro o live rfl hd
       cases o with
       | none=>
         simp only [kn,cV] at hev
         split at hev
         · rename_i st1 h1
           simp at hev;obtain ⟨rfl,rfl⟩:=hev
           refine oL hm hB horc has hd hs h1 fun G' a' w' hs' he'=>?_
           exact hq (G'.aM live) a' w' (hs'.restrict live) (he'.trans (bJ.aM live))
         · simp at hev
       | some ts=>
         simp only [kn,cV] at hev
         split at hev
         · rename_i st1 h1
           simp at hev;obtain ⟨rfl,rfl⟩:=hev
           obtain ⟨G2,h2,he2⟩:=iK (ts:=ts) hs
           refine oL hm hB horc has hd h2 h1 fun G' a' w' hs' he'=>?_
           exact hq (G'.aM live) a' w' (hs'.restrict live) (he2.trans (he'.trans (bJ.aM live)))
         · simp at hev
     split at hc
     · rename_i hdr
       split at hc
       · rename_i hok
         simp at hc
         exact key _ _ hc.symm (fun _=>hok)
       · simp at hc
     · rename_i hdr
       simp at hc
       exact key _ _ hc.symm (fun h=>absurd h hdr)
   · simp at hc
 | .seq x y,ac,hc,n0,ro,hro,st,st',e,G,a,w,Q,hev,hs,hq=>by
   simp only [dY] at hc
   split at hc
   · rename_i ax ay hx hy
     simp at hc;subst hc
     have hrx:ro=none∨ax.dM=true:=hro.imp_right fun h=>by simp only [aw.dM,Bool.and_eq_true] at h;exact h.1
     have hry:ro=none∨ay.dM=true:=hro.imp_right fun h=>by simp only [aw.dM,Bool.and_eq_true] at h;exact h.2
     simp only [cV] at hev
     refine wpIn_seq ?_
     split at hev
     · rename_i st1 h1
       refine e7 hm hB horc hBk hx hrx h1 hs fun G' a' w' hs' he'=>?_
       exact e7 hm hB horc hBk hy hry hev hs' fun G'' a'' w'' hs'' he''=>hq G'' a'' w'' hs'' (he'.trans he'')
     · rename_i r hr
       refine e7 hm hB horc hBk hx hrx hev hs fun G' a' w' hs' he'=>?_
       have:=hq G' a' w' hs' he'
       cases e with
       | normal=>exact absurd hev (hr st')
       | ret=>exact this
       | exit id=>exact this
   · simp at hc
 | .cond c x y,ac,hc,n0,ro,hro,st,st',e,G,a,w,Q,hev,hs,hq=>by
   simp only [dY] at hc
   split at hc
   · rename_i acnd ax ay hcn hx hy
     simp at hc;subst hc
     have hrx:ro=none∨ax.dM=true:=hro.imp_right fun h=>by simp only [aw.dM,Bool.and_eq_true] at h;exact h.1
     have hry:ro=none∨ay.dM=true:=hro.imp_right fun h=>by simp only [aw.dM,Bool.and_eq_true] at h;exact h.2
     simp only [cV] at hev
     split at hev
     · rename_i t ht
       have hrel:=w_ hs.env hcn ht
       simp only [aq,ed] at hrel
       refine wpIn_cond hrel ?_
       cases t with
       | true=>exact e7 hm hB horc hBk hx hrx (by simpa using hev) hs hq
       | false=>exact e7 hm hB horc hBk hy hry (by simpa using hev) hs hq
     · simp at hev
   · simp at hc
 | .block id b,ac,hc,n0,ro,hro,st,st',e,G,a,w,Q,hev,hs,hq=>by
   simp only [dY,Option.map_eq_some_iff] at hc
   obtain ⟨ab,hb,rfl⟩:=hc
   have hrb:ro=none∨ab.dM=true:=hro.imp_right fun h=>by simpa only [aw.dM] using h
   refine wpIn_block ?_
   simp only [cV] at hev
   split at hev
   · rename_i id' st1 h1
     refine e7 hm hB horc hBk hb hrb h1 hs fun G' a' w' hs' he'=>?_
     split at hev
     · rename_i x5
       simp at hev;obtain ⟨rfl,rfl⟩:=hev
       simp only [gH,Exit.inBlock,x5,if_true]
       exact hq G' a' w' hs' he'
     · rename_i x5
       simp at hev;obtain ⟨rfl,rfl⟩:=hev
       simp only [gH,Exit.inBlock,x5,if_false]
       exact hq G' a' w' hs' he'
   · rename_i r hr
     refine e7 hm hB horc hBk hb hrb hev hs fun G' a' w' hs' he'=>?_
     have:=hq G' a' w' hs' he'
     cases e with
     | normal=>exact this
     | ret=>exact this
     | exit id'=>exact absurd hev (hr id' st')
 | .loop b,ac,hc,n0,ro,hro,st,st',e,G,a,w,Q,hev,hs,hq=>by
   simp only [dY,Option.map_eq_some_iff] at hc
   obtain ⟨ab,hb,rfl⟩:=hc
   have hrb:ro=none∨ab.dM=true:=hro.imp_right fun h=>by simpa only [aw.dM] using h
   simp only [cV] at hev
   refine wpIn_loop_rounds k ?_
   exact me (fun h=>h.head _) (fun h1 h2 h3=>e7 hm hB horc hBk hb hrb h1 h2 h3) k hev hs hq
 | .exit id,ac,hc,n0,ro,hro,st,st',e,G,a,w,Q,hev,hs,hq=>by
   simp [dY] at hc;subst hc
   simp [cV] at hev;obtain ⟨rfl,rfl⟩:=hev
   exact wpIn_exit (hq G a w hs (bJ.refl G w))
 | .ret,ac,hc,n0,ro,hro,st,st',e,G,a,w,Q,hev,hs,hq=>by
   simp [dY] at hc;subst hc
   simp [cV] at hev;obtain ⟨rfl,rfl⟩:=hev
   exact wpIn_ret (hq G a w hs (bJ.refl G w))
 | .rangeFunc f ps x y,ac,hc,n0,ro,hro,st,st',e,G,a,w,Q,hev,hs,hq=>by
   cases f with
   | tmp t=>
     simp only [dY] at hc
     split at hc
     · rename_i pi px gb hps hgb
       split at hc
       · rename_i sz ag ax ay hbk hx hy
         split at hc
         · rename_i hok
           obtain ⟨nx,ny,hpi,hpx⟩:=hok
           simp at hc;subst hc
           have hro':ro=none:=hro.resolve_right (by simp [aw.dM])
           subst hro'
           have hps':ps=#[pi,px]:=by
             have:=congrArg List.toArray hps
             simpa using this
           subst hps'
           simp only [cV] at hev
           exact wK hB horc (hBk gb _ _ hbk)
             (fun h1 h2 h3=>e7 hm hB horc hBk hx (.inr nx) h1 h2 h3) (fun h1 h2 h3=>e7 hm hB horc hBk hy (.inr ny) h1 h2 h3) hpi hpx hev hs hq
         · simp at hc
       · simp at hc
     · simp at hc
   | _=>simp [dY] at hc
 | .scope _,ac,hc,n0,ro,hro,st,st',e,G,a,w,Q,hev,hs,hq=>by simp [dY] at hc
 | .label _,ac,hc,n0,ro,hro,st,st',e,G,a,w,Q,hev,hs,hq=>by simp [dY] at hc
 | .goto _,ac,hc,n0,ro,hro,st,st',e,G,a,w,Q,hev,hs,hq=>by simp [dY] at hc
 | .refuse _,ac,hc,n0,ro,hro,st,st',e,G,a,w,Q,hev,hs,hq=>by simp [dY] at hc
end
end Go.Ab
