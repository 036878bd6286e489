import Derived.Test.YtcjggpmnbcfedaaGreatDoorAbControl
import Derived.Test.YtcjggpmnbcfedaaGreatDoorAbClone
import Derived.RangeFuncLeaves
import Derived.RangeFuncRecord
/-
  Functions: n levels of calls of the evaluator are what the model does.
-/
set_option linter.unusedVariables false
set_option linter.unusedSimpArgs false
set_option linter.unnecessarySimpa false
set_option maxRecDepth 100000
set_option maxHeartbeats 8000000
namespace Go.Ab
section
variable {P:Program} {ns:Names} {G:Gh} {w:World}
theorem s7:∀{l:List AV} {i t:Nat} {v:AV},look (cK i l) t=some v→i≤t∧l[t-i]?=some v
 | [],i,t,v,h=>by simp [cK,look] at h
 | x::l,i,t,v,h=>by
   simp only [cK,look] at h
   split at h
   · rename_i e;subst e;cases h;simp
   · rename_i hne
     obtain ⟨h1,h2⟩:=s7 h
     refine ⟨by omega,?_⟩
     rw [show t-i=(t-(i+1))+1 from by omega]
     simpa using h2
theorem Ld {N:Nat} {args:List AV} {vs:List Value} (hr:aw (num ns) G args vs) (hN:args.length≤N) :
   lY (num ns) G N (cK 0 args) { tmps:=vs.toArray++Array.replicate (N-vs.toArray.size) undef,defers:=[] }:=by
 have hl:=hr.length
 refine ⟨by simp;omega,fun t x hx=>?_⟩
 obtain ⟨_,h2⟩:=s7 hx
 simp only [Nat.sub_zero] at h2
 obtain ⟨v,h3,h4⟩:=hr.get h2
 refine ⟨v,?_,h4⟩
 rw [Array.getElem?_append_left (by have:=(List.getElem?_eq_some_iff.1 h3).1;simpa using this)]
 simpa using h3
theorem qS {n0 N:Nat} {st:St} {a:Act} (hs:fZ (num ns) n0 N G st a w) {F:ResultVar→Sem Value} (hF1:∀t,F (.tmp t)=pure (a.tmps.getD t undef)) (hF2:∀ad t,F (.cell ad t)=(do loadVar t (←asAddr (a.tmps.getD ad undef)))):∀{rvs:List ResultVar} {rs:List rS} {xs:List AV},cH (Ei P) rvs=some rs→eG st rs=some xs →
   ∃vs,(rvs.mapM F).run P w=.ok vs w∧aw (num ns) G xs vs
 | [],rs,xs,hc,hx=>by
   simp [cH] at hc;subst hc
   simp [eG] at hx;subst hx
   exact ⟨[],by simp,by simp [aw]⟩
 | r::rvs,rs,xs,hc,hx=>by
   simp only [cH] at hc
   split at hc
   · rename_i ar ars h1 h2
     simp at hc;subst hc
     simp only [eG] at hx
     split at hx
     · rename_i v vs' g1 g2
       simp at hx;subst hx
       obtain ⟨us,k1,k2⟩:=qS hs hF1 hF2 h2 g2
       have one:∃u,(F r).run P w=.ok u w∧au (num ns) G v u:=by
         cases r with
         | tmp t=>
           simp [Ei] at h1;subst h1
           simp only [qj] at g1
           obtain ⟨u,e1,e2⟩:=hs.env.env t v g1
           exact ⟨u,by rw [hF1];simp [e1],e2⟩
         | cell ad t=>
           simp only [Ei] at h1
           split at h1
           · rename_i sz ag hsz hag
             simp at h1;subst h1
             simp only [qj] at g1
             split at g1
             · rename_i d e1
               split at g1
               · rename_i cs e2
                 simp only [Option.ite_none_right_eq_some] at g1
                 obtain ⟨rfl,g1⟩:=g1
                 obtain ⟨u,f1,f2⟩:=hs.env.env _ _ e1
                 simp only [au] at f2
                 obtain ⟨b,hp,rfl⟩:=f2
                 obtain ⟨b',hp',hblk,_⟩:=hs.inv.cW _ _ e2
                 rw [hp] at hp';cases hp'
                 obtain ⟨_,c,ty,hh,hrel⟩:=hblk
                 obtain ⟨u,q1,q2⟩:=ga (w:=w) hsz hag g1 hrel (gB hh)
                 exact ⟨u,by rw [hF2];simp [f1,asAddr,q1],q2⟩
               · cases g1
             · rename_i s e1
               split at g1
               · rename_i cs e2
                 split at g1
                 · cases g1
                 · rename_i hm
                   obtain ⟨u,f1,f2⟩:=hs.env.env _ _ e1
                   simp only [au] at f2
                   obtain ⟨b,hp,rfl⟩:=f2
                   obtain ⟨b',hp',hblk,_⟩:=hs.inv.dp _ _ e2
                   rw [hp] at hp';cases hp'
                   obtain ⟨_,c,ty,vs,suf,hh,_,hsp,hrel⟩:=hblk.cells (by simpa using hm)
                   obtain ⟨u,q1,q2⟩:=ga (w:=w) hsz hag g1 hrel (oC hh hsp)
                   exact ⟨u,by rw [hF2];simp [f1,asAddr,q1],q2⟩
               · cases g1
             · cases g1
           · simp at h1
       obtain ⟨u,o1,o2⟩:=one
       refine ⟨u::us,?_,?_⟩
       · rw [List.mapM_cons]
         simp only [Sem.run_bind]
         rw [o1]
         simp only [Result.andThen_ok]
         rw [k1]
         rfl
       · simp only [aw];exact ⟨u,us,rfl,o2,k2⟩
     · simp at hx
   · simp at hc
theorem nV {G':Gh} {sh:Sh} {ks:List Nat} (hle:G.le G') (hf:j_ ns G G' sh ks) (hl:∀(s:Nat) (cells:List AV),sh[s]?=some (some cells)→cells.all bm=true)
   {x:AV} {v:Value} (ha:∀s∈eP x,s∈ks) (h:au (num ns) G x v):au (num ns) G' (rW sh x) v:=by
 unfold rW
 split
 · rename_i p hp
   simp only [au]
   exact sj hle hf hl ha hp h
 · exact h.mono hle
theorem Le {G':Gh} {sh:Sh} {ks:List Nat} (hle:G.le G') (hf:j_ ns G G' sh ks) (hl:∀(s:Nat) (cells:List AV),sh[s]?=some (some cells)→cells.all bm=true)
   {x:AV} {v:Value} (ha:bm x=true→∀s∈eP x,s∈ks) (h:au (num ns) G x v):au (num ns) G' (nB sh x) v:=by
 unfold nB
 split
 · exact h.mono hle
 · split
   · rename_i hl'
     exact nV hle hf hl (ha hl') h
   · exact h.mono hle
theorem vk {G':Gh} {sh:Sh} {ks:List Nat} (hle:G.le G') (hf:j_ ns G G' sh ks) (hl:∀(s:Nat) (cells:List AV),sh[s]?=some (some cells)→cells.all bm=true) :
   ∀{cs:List AV} {vs:List Value},(∀s∈eP (.agg cs),s∈ks)→aw (num ns) G cs vs→aw (num ns) G' (cs.map (nB sh)) vs
 | [],vs,_,h=>by simpa [aw] using h
 | c::cs,vs,ha,h=>by
   simp only [aw] at h
   obtain ⟨v,r,e,e1,e2⟩:=h
   simp only [List.map_cons,aw]
   refine ⟨v,r,e,Le hle hf hl (fun hb s hs=>ha s ?_) e1,vk hle hf hl (fun s hs=>ha s ?_) e2⟩
   · simp only [eP,List.flatMap_cons,List.mem_append]
     left
     cases c<;>simp_all [eP,bm]
   · simp only [eP,List.flatMap_cons,List.mem_append] at hs ⊢
     exact .inr hs
theorem Lf {G':Gh} {sh:Sh} {ks:List Nat} (hle:G.le G') (hf:j_ ns G G' sh ks) (hl:∀(s:Nat) (cells:List AV),sh[s]?=some (some cells)→cells.all bm=true)
   {x:AV} {v:Value} (ha:∀s∈eP x,s∈ks) (h:au (num ns) G x v):au (num ns) G' (pF sh x) v:=by
 unfold pF
 split
 · exact h.mono hle
 · exact h.mono hle
 · simp only [au] at h ⊢
   obtain ⟨vs,e,r⟩:=h
   exact ⟨vs,e,vk hle hf hl ha r⟩
 · exact nV hle hf hl ha h
theorem nW {G':Gh} {sh:Sh} {ks:List Nat} {F:Sh→AV→AV} (hF:∀{x:AV} {v:Value},(∀s∈eP x,s∈ks)→au (num ns) G x v→au (num ns) G' (F sh x) v) :
   ∀{xs:List AV} {vs:List Value},(∀s∈xs.flatMap eP,s∈ks)→aw (num ns) G xs vs→aw (num ns) G' (xs.map (F sh)) vs
 | [],vs,_,h=>by simpa [aw] using h
 | x::xs,vs,ha,h=>by
   simp only [aw] at h
   obtain ⟨v,r,e,e1,e2⟩:=h
   simp only [List.flatMap_cons,List.mem_append] at ha
   simp only [List.map_cons,aw]
   exact ⟨v,r,e,hF (fun s hs=>ha s (.inl hs)) e1,nW hF (fun s hs=>ha s (.inr hs)) e2⟩
theorem DP {G':Gh} {sh:Sh} {ks:List Nat} {bl kst:Bool} (hle:G.le G') (hf:j_ ns G G' sh ks) (hl:∀(s:Nat) (cells:List AV),sh[s]?=some (some cells)→cells.all bm=true)
   {xs:List AV} {vs:List Value} (ha:∀s∈xs.flatMap eP,s∈ks) (h:aw (num ns) G xs vs):aw (num ns) G' (cS bl kst sh xs) vs:=by
 unfold cS
 split
 · split
   · exact aw.mono hle h
   · exact nW (Lf hle hf hl) ha h
 · exact nW (nV hle hf hl) ha h
theorem DQ {xs:List AV} {vs:List Value} (h:aw (num ns) G xs vs):dJ (num ns) G xs (if h:vs.toArray.size=1 then vs.toArray[0] else .tuple vs.toArray):=by
 unfold dJ
 split
 · rename_i r
   simp only [aw] at h
   obtain ⟨v,r',e,e1,e2⟩:=h
   subst e2;subst e
   simpa using e1
 · rename_i hn
   have hl:=h.length
   rw [dif_neg]
   · exact ⟨vs,rfl,h⟩
   · intro e
     simp at e
     rw [e] at hl
     cases xs with
     | nil=>simp at hl
     | cons x xs=>
       cases xs with
       | nil=>exact hn x rfl
       | cons _ _=>simp at hl
end
mutual
theorem s8 {ρ:cr} {G G':Gh} {n:Nat} (hK:G.K.le G'.K) (hs:∀s b,s<n→G.sm s=some b→G'.sm s=some b):∀{x:AV} {v:Value},bV x=true→aM n x=true→au ρ G x v→au ρ G' x v
 | .pv p,_,_,_,h=>by simp only [au] at h ⊢;exact h.mono hK
 | .aZ s o,_,_,hr,h=>by simp [aM] at hr;simp only [au] at h ⊢;obtain ⟨b,e,r⟩:=h;exact ⟨b,hs _ _ hr e,r⟩
 | .bz s _ n _,_,_,hr,h=>by simp [aM] at hr;simp only [au] at h ⊢;obtain ⟨b,c,e,r⟩:=h;exact ⟨b,c,hs _ _ hr e,r⟩
 | .dS,_,_,_,h=>by simpa only [au] using h
 | .dj s,_,_,hr,h=>by simp [aM] at hr;simp only [au] at h ⊢;obtain ⟨b,e,r⟩:=h;exact ⟨b,hs _ _ hr e,r⟩
 | .nv ..,_,hp,_,_=>by simp [bV] at hp
 | .dQ _,_,_,_,h=>by simp only [au] at h
 | .fn g cap,_,hp,hr,h=>by
   simp only [bV] at hp
   simp only [aM] at hr
   simp only [au] at h ⊢
   obtain ⟨f,vs,e1,e2,r⟩:=h
   exact ⟨f,vs,e1,e2,pX hK hs hp hr r⟩
 | .un,_,hp,_,_=>by simp [bV] at hp
 | .bJ _,_,_,_,h=>by simp only [au] at h ⊢;obtain ⟨b,l,e,r⟩:=h;exact ⟨b,l,e,r.mono hK⟩
 | .own _ _,_,hp,_,_=>by simp [bV] at hp
 | .agg _,_,hp,hr,h=>by
   simp only [bV] at hp
   simp only [aM] at hr
   simp only [au] at h ⊢
   obtain ⟨vs,e,r⟩:=h
   exact ⟨vs,e,pX hK hs hp hr r⟩
 | .nf _,_,hp,_,_=>by simp [bV] at hp
 | .aB _ _,_,hp,_,_=>by simp [bV] at hp
 | .dG _,_,hp,_,_=>by simp [bV] at hp
theorem pX {ρ:cr} {G G':Gh} {n:Nat} (hK:G.K.le G'.K) (hs:∀s b,s<n→G.sm s=some b→G'.sm s=some b):∀{xs:List AV} {vs:List Value},bV.im xs=true→aM.cU n xs=true→aw ρ G xs vs→aw ρ G' xs vs
 | [],_,_,_,h=>by simpa only [aw] using h
 | x::xs,_,hp,hr,h=>by
   simp only [bV.im,Bool.and_eq_true] at hp
   simp only [aM.cU,Bool.and_eq_true] at hr
   simp only [aw] at h ⊢
   obtain ⟨v,r,e,e1,e2⟩:=h
   exact ⟨v,r,e,s8 hK hs hp.1 hr.1 e1,pX hK hs hp.2 hr.2 e2⟩
end
section
variable {P:Program} {ns:Names} {G:Gh} {w:World}
theorem s9 {ρ:cr} {G':Gh} {n:Nat} (hK:G.K.le G'.K) (hs:∀s b,s<n→G.sm s=some b→G'.sm s=some b) (ht:∀τ t,G.tk τ=some t→G'.tk τ=some t):∀{xs:List AV} {vs:List Value},fJ xs=true→aM.cU n xs=true→aw ρ G xs vs→aw ρ G' xs vs
 | [],_,_,_,h=>by simpa only [aw] using h
 | x::xs,_,hp,hr,h=>by
   simp only [fJ,Bool.and_eq_true] at hp
   simp only [aM.cU,Bool.and_eq_true] at hr
   simp only [aw] at h ⊢
   obtain ⟨v,r,e,e1,e2⟩:=h
   refine ⟨v,r,e,?_,s9 hK hs ht hp.2 hr.2 e2⟩
   cases x with
   | own l τ=>
     simp only [au] at e1 ⊢
     obtain ⟨t,a1,a2,a3,a4⟩:=e1
     exact ⟨t,ht _ _ a1,a2,a3.mono hK,fun hl=>⟨(a4 hl).1,MI (a4 hl).2 fun ⟨b,o,e,r⟩=>⟨b,o,e,Row.mono hK _ _ _ _ r⟩⟩⟩
   | _=>exact s8 hK hs (show bV _=true from hp.1) hr.1 e1
theorem Im {ρ:cr} {G':Gh} {n:Nat} (hK:G.K.le G'.K) (hs:∀s b,s<n→G.sm s=some b→G'.sm s=some b) (ht:∀τ t,G.tk τ=some t→G'.tk τ=some t) {x:AV} {v:Value} (hp:cp x=true) (hr:aM n x=true) (h:au ρ G x v):au ρ G' x v:=by
 cases x with
 | own l τ=>
   simp only [au] at h ⊢
   obtain ⟨t,e1,e2,e3,e4⟩:=h
   exact ⟨t,ht _ _ e1,e2,e3.mono hK,fun hl=>⟨(e4 hl).1,MI (e4 hl).2 fun ⟨b,o,e,r⟩=>⟨b,o,e,Row.mono hK _ _ _ _ r⟩⟩⟩
 | agg cs=>
   simp only [aM] at hr
   simp only [au] at h ⊢
   obtain ⟨vs,e,r⟩:=h
   exact ⟨vs,e,s9 hK hs ht (by simpa [cp] using hp) hr r⟩
 | _=>exact s8 hK hs (show bV _=true from hp) hr h
theorem nX {ρ:cr} {G':Gh} {n:Nat} (hK:G.K.le G'.K) (hs:∀s b,s<n→G.sm s=some b→G'.sm s=some b) (ht:∀τ t,G.tk τ=some t→G'.tk τ=some t):∀{xs:List AV} {vs:List Value},xs.all cp=true→xs.all (aM n)=true→aw ρ G xs vs→aw ρ G' xs vs
 | [],_,_,_,h=>by simpa only [aw] using h
 | x::xs,_,hp,hr,h=>by
   simp only [List.all_cons,Bool.and_eq_true] at hp hr
   simp only [aw] at h ⊢
   obtain ⟨v,r,e,e1,e2⟩:=h
   exact ⟨v,r,e,Im hK hs ht hp.1 hr.1 e1,nX hK hs ht hp.2 hr.2 e2⟩
def Gh.bare (G:Gh):Gh:={ G with pm:=fun _=>none,role:=fun b=>match G.role b with | .lK _=>.d_ | r=>r }
theorem Inv.bare {mem:List (Nat×List AV)} {sh:Sh} {ts:aH} (hi:Inv (num ns) G w mem sh ts):Inv (num ns) G.bare w [] sh ts where
 known:=hi.known
 bt:=fun b o v hk=>by
   rcases hi.bt b o v hk with h | ⟨τ,h⟩
   · exact .inl (by simp [Gh.bare,h])
   · exact .inr ⟨τ,by simp [Gh.bare,h]⟩
 fresh:=fun b hb=>by simp [Gh.bare,hi.fresh b hb]
 cW:=fun d cells h=>by simp [look] at h
 g_:=fun d b h=>by simp [Gh.bare] at h
 dp:=fun s cells hs=>by
   obtain ⟨b,e1,e2,e3,e4⟩:=hi.dp s cells hs
   obtain ⟨hr,o,hh,hrel⟩:=e2
   exact ⟨b,e1,⟨by simp [Gh.bare,hr],o,hh,hrel.to (fun _ _ _ h=>h) (fun _ e=>e) (fun _ r=>jy (G:=G) (G':=G.bare) (bB.le_refl _) (fun _ _ h=>h) (fun _ _ h=>h) (jf e3) r)⟩,e3,e4⟩
 eR:=hi.eR
 di:=fun τ n h=>by
   obtain ⟨t,e1,e2,e3⟩:=hi.di τ n h
   refine ⟨t,e1,e2,e3.cap,e3.zero,fun hlt=>?_⟩
   obtain ⟨b,o,c,ty,f1,f2,f3,f4,f5⟩:=e3.spare hlt
   exact ⟨b,o,c,ty,f1,by simp [Gh.bare,f2],f3,f4,f5⟩
 fo:=hi.fo
def Gh.np (G:Gh) (n:Nat):Gh:={ G with sm:=fun s=>if s<n then G.sm s else none }
theorem Inv.np {sh:Sh} {ts:aH} (hi:Inv (num ns) G w [] sh ts) (n:Nat):Inv (num ns) (G.np n) w [] (sh.take n) ts where
 known:=hi.known
 bt:=hi.bt
 fresh:=hi.fresh
 cW:=fun d cells h=>by simp [look] at h
 g_:=hi.g_
 dp:=fun s cells hs=>by
   rw [List.getElem?_take] at hs
   split at hs
   · rename_i hlt
     obtain ⟨b,e1,e2,e3,e4⟩:=hi.dp s cells hs
     obtain ⟨hr,o,hh,hrel⟩:=e2
     exact ⟨b,by simp [Gh.np,hlt,e1],⟨hr,o,hh,hrel.to (fun _ _ _ h=>h) (fun _ e=>e) (fun _ r=>nX (G:=G) (G':=G.np n) (n:=s+1) (bB.le_refl G.K) (fun s' b' hs' h=>by simp only [Gh.np];rw [if_pos (by omega)];exact h) (fun _ _ h=>h) (jf e3) e4 r)⟩,e3,e4⟩
   · simp at hs
 eR:=fun s b h=>by
   simp only [Gh.np] at h
   split at h
   · have:=hi.eR s b h;simp;omega
   · simp at h
 di:=fun τ n h=>by
   obtain ⟨t,e1,e2,e3⟩:=hi.di τ n h
   exact ⟨t,e1,e2,e3.cap,e3.zero,e3.spare⟩
 fo:=hi.fo
theorem Inv.shut {mem:List (Nat×List AV)} {sh:Sh} {ae:aH} {D:Nat} {x:Option (List Deferred)} (hi:Inv (num ns) G w mem sh ae) (hD:w.heap[D]?=some (.deferred x)) :
   Inv (num ns) G (w.putObj D (.deferred none)) mem sh ae:=by
 have hne:∀{b:Nat} {c:Array Value} {t:TypeId},w.heap[b]?=some (.cells c t (0,0))→(w.putObj D (.deferred none)).heap[b]?=some (.cells c t (0,0)):=by
   intro b c t h
   rw [World.putObj_heap_other]
   · exact h
   · rintro rfl;rw [hD] at h;cases h
 have hsize:(w.putObj D (.deferred none)).heap.size=w.heap.size:=by simp [World.putObj]
 refine { hi with known:=?_,fresh:=?_,cW:=?_,dp:=?_,di:=?_ }
 · intro b o v hk
   have h:=hi.known b o v hk
   rw [←h]
   have:b≠D:=by rintro rfl;simp [World.cell?,hD] at h
   simp only [World.cell?,World.putObj_heap_other this]
 · intro b hb;exact hi.fresh b (by omega)
 · intro k cs hk
   obtain ⟨b,e1,⟨e2,c,t,e3,e4⟩,e5⟩:=hi.cW k cs hk
   exact ⟨b,e1,⟨e2,c,t,hne e3,e4⟩,e5⟩
 · intro k cs hk
   obtain ⟨b,e1,⟨e2,o,e3,e4⟩,e5⟩:=hi.dp k cs hk
   refine ⟨b,e1,⟨e2,o,?_,e4⟩,e5⟩
   rw [World.putObj_heap_other]
   · exact e3
   · rintro rfl
     rw [hD] at e3;cases e3
     rcases e4 with ⟨_,_,_,_,h,_⟩ | ⟨_,_,_,h,_⟩<;>cases h
 · intro τ n hn
   obtain ⟨t,e1,e2,e3⟩:=hi.di τ n hn
   refine ⟨t,e1,e2,e3.cap,e3.zero,fun hlt=>?_⟩
   obtain ⟨b,o,c,ty,f1,f2,f3,f4,f5⟩:=e3.spare hlt
   exact ⟨b,o,c,ty,f1,f2,hne f3,f4,f5⟩
theorem bZ.shut {G':Gh} {w':World} {D:Nat} (he:bZ G w G' w') (hD:w.heap.size≤D):bZ G w G' (w'.putObj D (.deferred none)):=
 { he with
   size:=by simpa [World.putObj] using he.size
   os:=by simpa [World.putObj] using he.os
   tape:=by simpa [World.putObj] using he.tape
   output:=by simpa [World.putObj] using he.output
   d_:=fun b hb hr=>by
     obtain ⟨h1,h2⟩:=he.d_ b hb hr
     exact ⟨h1,by rw [World.putObj_heap_other (by omega)];exact h2⟩ }
theorem qT {fn:Func} {tmps:Array Value} {R:Ending→World→Prop} {mem:List (Nat×List AV)} {sh:Sh} {ae:aH} {G':Gh}:∀(Ds:List Nat) (w':World),Inv (num ns) G' w' mem sh ae→bZ G w G' w'→Ds.Nodup →
   (∀D∈Ds,w.heap.size≤D∧w'.heap[D]?=some (.deferred (some []))) →
   (∀w'',Inv (num ns) G' w'' mem sh ae→bZ G w G' w''→∃v,(results fn tmps).run P w''=.ok v w''∧R (.returned v) w'') →
   LeavesInM Fence.wide 0 P fn tmps R (Ds.map (fun D=>{ target:=.collected D,args:=#[] })) .returning w'
 | [],w',hi,he,_,_,h=>h w' hi he
 | D::Ds,w',hi,he,hn,hD,h=>by
   obtain ⟨h1,h2⟩:=hD D (by simp)
   refine ⟨by simp,.inl ⟨D,_,rfl,run_takeDeferred h2,?_⟩⟩
   simp only [List.nodup_cons] at hn
   refine qT Ds _ (hi.shut h2) (he.shut h1) hn.2 (fun E hE=>?_) h
   obtain ⟨g1,g2⟩:=hD E (by simp [hE])
   refine ⟨g1,?_⟩
   rw [World.putObj_heap_other]
   · exact g2
   · rintro rfl;exact hn.1 hE
theorem s_ (hm:P.follows .mixedOrders=true) (hB:eI P ns) (hBk:rC P ns) {orc:eu} (horc:gk P ns orc) {A:lJ} {k f:Nat} {bl:Bool} {fn:Func} {af:aD} (hf:P.funcs[f]?=some fn) (hc:qk P ns A fn=some af)
   {args rs:List AV} {vs:List Value} {sh sh':Sh} {ts ts':aH} (hi:Inv (num ns) G w [] sh ts) (hr:aw (num ns) G args vs) (hN:args.length≤af.ntmps) (h:cL orc k bl af args sh ts=some (rs,sh',ts')) :
   (Calls P f vs.toArray w fun e w'=>∃v G',e=.returned v∧dJ (num ns) G' rs v∧Inv (num ns) G' w' [] sh' ts'∧bZ G w G' w')∧rs.all cp=true:=by
 unfold qk at hc
 split at hc
 · rename_i c ars nk gv
   simp only [Option.ite_none_right_eq_some,Option.map_eq_some_iff] at hc
   obtain ⟨_,ac,hcc,rfl⟩:=hc
   unfold cL at h
   split at h
   · rename_i e st hev
     simp only [Option.ite_none_right_eq_some] at h
     obtain ⟨he,h⟩:=h
     split at h
     · rename_i xs hxs
       simp only [Option.ite_none_right_eq_some] at h
       obtain ⟨hpass,h⟩:=h
       let kst:=A.ks
       let shk:Sh:=fp bl kst st.sh xs
       let ON:Sh:=if (cS bl kst st.sh xs).all (aM sh.length)=true then shk.take sh.length else shk
       have h:some ((dE st.ae (cS bl kst st.sh xs) ON).1,(dE st.ae (cS bl kst st.sh xs) ON).2.1,(dE st.ae (cS bl kst st.sh xs) ON).2.2.2)=some (rs,sh',ts'):=h
       simp only [Option.some.injEq,Prod.mk.injEq] at h
       obtain ⟨P6,hsh,hts⟩:=h
       have hpass':rs.all cp=true:=by rw [←P6];exact iN hpass
       refine ⟨?_,hpass'⟩
       refine callsIn_wide (n:=0).1 (callsIn_of_wp_marks hf nk trivial ?_ rfl)
       have hs0:fZ (num ns) w.heap.size fn.ntmps G { env:=cK 0 args,mem:=[],sh,ae:=ts } { tmps:=vs.toArray++Array.replicate (fn.ntmps-vs.toArray.size) undef,defers:=[] } w:=⟨Ld hr hN,hi,Nat.le_refl _,[],rfl,by simp,by simp⟩
       refine ib (ro:=none) hm hB horc hBk hcc (.inl rfl) hev hs0 fun G' a' w1 hs1 hevo1=>?_
       have key:LeavesInM Fence.wide 0 P fn a'.tmps (fun e w'=>∃v G',e=.returned v∧dJ (num ns) G' rs v∧Inv (num ns) G' w' [] sh' ts'∧bZ G w G' w') a'.defers .returning w1:=by
         obtain ⟨m0,Ds,m1,m2,m3⟩:=hs1.marks
         rw [m1]
         refine qT Ds w1 hs1.inv hevo1 m2 (fun D hD=>⟨(m3 D hD).1,(m3 D hD).2.2.2⟩) ?_
         intro w' hi' hevo
         have hs':fZ (num ns) w.heap.size fn.ntmps G' st { tmps:=a'.tmps,defers:=[] } w':=⟨⟨hs1.env.size,hs1.env.env⟩,hi',hevo.size,[],rfl,by simp,by simp⟩
         obtain ⟨us,u1,u2⟩:=qS (P:=P) hs' (F:=fun | .tmp t=>pure (a'.tmps.getD t undef) | .cell ad t=>do loadVar t (←asAddr (a'.tmps.getD ad undef))) (fun _=>rfl) (fun _ _=>rfl) gv hxs
         refine ⟨(if h:us.toArray.size=1 then us.toArray[0] else .tuple us.toArray),?_,?_⟩
         · unfold results
           rw [Array.mapM_eq_mapM_toList]
           simp only [Sem.run_bind,Sem.run_map]
           erw [u1]
           rfl
         · obtain ⟨G1,k1,k2,k3,hout⟩:∃G1,Inv (num ns) G1 w' st.mem shk st.ae∧G'.le G1∧bZ G' w' G1 w'∧aw (num ns) G1 (cS bl kst st.sh xs) us:=by
             by_cases hkk:(bl && kst)=true
             · refine ⟨G',?_,Gh.le_refl _,bZ.refl _ _,?_⟩
               · have:shk=st.sh:=by simp only [shk,fp,hkk,if_true]
                 rw [this];exact hs'.inv
               · have:cS bl kst st.sh xs=xs:=by
                   simp only [Bool.and_eq_true] at hkk
                   simp only [cS,hkk.1,hkk.2,if_true]
                 rw [this];exact u2
             · obtain ⟨G1,k1,k2,k3,k4,k5⟩:=Inv.kill (xs.flatMap eP) hs'.inv
               refine ⟨G1,?_,k2,k3,DP (bl:=bl) k2 k4 hs'.inv.sk (fun s hs=>hs) u2⟩
               have:shk=dY st.sh xs:=by
                 simp only [shk,fp]
                 rw [if_neg hkk]
               rw [this];exact k1
           have hbare:=jy (G:=G1) (G':=G1.bare) (bB.le_refl _) (fun _ _ h=>h) (fun _ _ h=>h) hpass hout
           have k1b:=k1.bare
           have hevo0:=hevo.trans k3
           obtain ⟨G2,i2,r2,e2⟩:∃G2,Inv (num ns) G2 w' [] ON st.ae∧aw (num ns) G2 (cS bl kst st.sh xs) us∧bZ G w G2 w':=by
             have bareEvo:bZ G w G1.bare w':={
               size:=hevo0.size,os:=hevo0.os,tape:=hevo0.tape,output:=hevo0.output,K:=hevo0.K,sm:=hevo0.sm,
               d_:=fun b hb hr=>⟨by simp [Gh.bare,(hevo0.d_ b hb hr).1],(hevo0.d_ b hb hr).2⟩
               iT:=fun b τ hb hr=>by
                 rcases hevo0.iT b τ hb hr with h | ⟨τ',h⟩
                 · exact .inl (by simp [Gh.bare,h])
                 · exact .inr ⟨τ',by simp [Gh.bare,h]⟩
               hH:=hevo0.hH }
             by_cases href:(cS bl kst st.sh xs).all (aM sh.length)=true
             · have hshd:ON=shk.take sh.length:=if_pos href
               rw [hshd]
               refine ⟨G1.bare.np sh.length,k1b.np sh.length,nX (G:=G1.bare) (G':=G1.bare.np sh.length) (n:=sh.length) (bB.le_refl _) (fun s b hs h=>by simp only [Gh.np];rw [if_pos hs];exact h) (fun _ _ h=>h) hpass href hbare,?_⟩
               exact { size:=bareEvo.size,os:=bareEvo.os,tape:=bareEvo.tape,output:=bareEvo.output,K:=bareEvo.K,
                       sm:=fun s b hsb=>by
                         have:=hi.eR s b hsb
                         show (if s<sh.length then G1.sm s else none)=some b
                         rw [if_pos this];exact bareEvo.sm s b hsb
                       d_:=bareEvo.d_,iT:=bareEvo.iT,hH:=bareEvo.hH }
             · have hshd:ON=shk:=if_neg href
               rw [hshd]
               exact ⟨G1.bare,k1b,hbare,bareEvo⟩
           obtain ⟨m,tks,hNS,hto,hrel⟩:=i2.Ji hpass r2
           rw [P6] at hrel
           rw [hsh,hts] at hto
           exact ⟨_,G2.to m tks,rfl,DQ hrel,hto,e2.to m tks⟩
       cases e with
       | normal=>exact key
       | ret=>exact key
       | exit id=>simp at he
     · simp at h
   · simp at h
 · simp at hc
theorem uz {orc:eu} {k:Nat} {bl:Bool} {af:aD} {args rs:List AV} {sh sh':Sh} {ts ts':aH} (h:cL orc k bl af args sh ts=some (rs,sh',ts')):rs.all cp=true:=by
 unfold cL at h
 split at h
 · split at h
   · split at h
     · simp only [Option.ite_none_right_eq_some] at h
       obtain ⟨hp,h⟩:=h
       have e:=congrArg Prod.fst (Option.some.inj h)
       dsimp only at e
       rw [←e];exact iN hp
     · simp at h
   · simp at h
 · simp at h
structure Impl (P:Program) (ns:Names) (AP:Nat→Option aD):Prop where
 mixed:P.follows .mixedOrders=true
 funcs:∀f g,ns.of f=some g→(∃fn A af,P.funcs[f]?=some fn∧qk P ns A fn=some af∧AP g=some af) ∨
   ((∃fn b,P.funcs[f]?=some fn∧fn.body=some b∧fn.name ≠ "runtime.NumGoroutine") ∧
     (AP g=none∨∃af pf,AP g=some af∧af.pE=some pf∧af.body=.exit 0∧∀orc,gk P ns orc→∀dO rs,pf.f orc.p dO=some rs→uO P f dO rs))
 Eg:rC P ns
 P7:∀g sz bytes f,look ns.cl g=some (sz,bytes)→ns.of f=some g→Nonempty (sY P ns f sz bytes)
theorem Impl.xm {AP:Nat→Option aD} (h:Impl P ns AP):eI P ns:=by
 intro f g hg
 rcases h.funcs f g hg with ⟨fn,A,af,h1,h2,_⟩ | ⟨⟨fn,b,h1,h2,h3⟩,_⟩
 · unfold qk at h2
   split at h2
   · rename_i b rs hb _
     simp only [Option.ite_none_right_eq_some] at h2
     obtain ⟨⟨_,hn⟩,_⟩:=h2
     exact ⟨fn,b,h1,hb,by simpa using hn⟩
   · simp at h2
 · exact ⟨fn,b,h1,h2,h3⟩
theorem DR {A:lJ} {fn:Func} {af:aD} (h:qk P ns A fn=some af):af.pE=none:=by
 unfold qk at h
 split at h
 · simp only [Option.ite_none_right_eq_some,Option.map_eq_some_iff] at h
   obtain ⟨_,_,_,rfl⟩:=h
   rfl
 · simp at h
theorem tc:∀{rs:List AV} {ps:List PV},gq rs=some ps→rs=ps.map .pv
 | [],ps,h=>by simp [gq] at h;subst h;rfl
 | x::rs,ps,h=>by
   cases x with
   | pv p=>
     simp only [gq,Option.map_eq_some_iff] at h
     obtain ⟨qs,h1,rfl⟩:=h
     simp [tc h1]
   | _=>simp [gq] at h
theorem qU:∀{ps:List PV} {vs:List Value},aw (num ns) G (ps.map .pv) vs→jl G.K ps vs
 | [],vs,h=>by simp only [List.map_nil,aw] at h;exact h
 | p::ps,vs,h=>by
   simp only [List.map_cons,aw] at h
   obtain ⟨v,r,e,e1,e2⟩:=h
   simp only [au] at e1
   exact ⟨v,r,e,e1,qU e2⟩
theorem Io {ps:List PV} {v:Value} (h:dJ (num ns) G (ps.map .pv) v):iC G.K ps v:=by
 unfold iC
 split
 · rename_i p
   simp only [List.map_cons,List.map_nil,dJ,au] at h
   exact h
 · rename_i hn
   unfold dJ at h
   split at h
   · rename_i r e
     cases ps with
     | nil=>simp at e
     | cons q qs=>
       cases qs with
       | nil=>exact absurd rfl (hn q)
       | cons _ _=>simp at e
   · obtain ⟨vs,e,h⟩:=h
     exact ⟨vs,e,qU h⟩
theorem vm {AP:Nat→Option aD} (hI:Impl P ns AP) (k:Nat):∀n,gk P ns (run AP k n)
 | 0=>⟨fun g f dO rs _ h=>by simp [run] at h,fun g f args ts rs sh sh' ts' _ _ h=>by simp [run] at h,fun g sz by_ f h1 h2=>(hI.P7 g sz by_ f h1 h2).elim z_⟩
 | n+1=>by
   have ih:=vm hI k n
   refine ⟨fun g f dO rs hg h=>?_,fun g f args ts rs sh sh' ts' hg hp h=>?_,ih.c⟩
   · rcases hI.funcs f g hg with ⟨fn,A,af,h1,h2,h3⟩ | ⟨_,h3 | ⟨af,pf,h3,h4,_,h5⟩⟩
     · simp only [run,h3,DR h2,Option.ite_none_right_eq_some] at h
       obtain ⟨⟨_,hN⟩,h⟩:=h
       split at h
       · rename_i xs x2 hb
         obtain ⟨sh',ts'⟩:=x2
         have hxs:=tc h
         subst hxs
         intro K w vs hK hr
         let G0:Gh:={ K,role:=fun _=>.d_,pm:=fun _=>none,sm:=fun _=>none,tk:=fun _=>none }
         have hi:Inv (num ns) G0 w [] [] []:={
           known:=hK,bt:=fun _ _ _ _=>.inl rfl,fresh:=fun _ _=>rfl,cW:=fun d c h=>by simp [look] at h,g_:=fun d b h=>by simp [G0] at h,
           dp:=fun s c h=>by simp at h,eR:=fun s b h=>by simp [G0] at h,di:=fun τ n h=>by simp at h,fo:=fun τ t h=>by simp [G0] at h }
         have hC:=(s_ hI.mixed hI.xm hI.Eg ih h1 h2 hi (gA (ρ:=num ns) (G:=G0) hr) (by simpa using hN) hb).1
         refine hC.mono ?_
         rintro e w' ⟨v,G',rfl,gv,hi',hevo⟩
         refine ⟨v,G'.K,rfl,Io gv,hevo.K,fun b o u hb hk=>hevo.hH b o u hb rfl hk,hi'.known,⟨hevo.os,hevo.tape,hevo.output,hevo.size,fun b hb=>(hevo.d_ b hb rfl).2⟩⟩
       · simp at h
     · simp only [run,h3] at h;cases h
     · simp only [run,h3,h4] at h
       exact h5 _ ih _ _ h
   · rcases hI.funcs f g hg with ⟨fn,A,af,h1,h2,h3⟩ | ⟨_,h3 | ⟨af,pf,h3,_,h4,_⟩⟩
     · simp only [run,h3,Option.ite_none_right_eq_some] at h
       obtain ⟨hN,h⟩:=h
       exact ⟨fun G w vs hi hr=>(s_ hI.mixed hI.xm hI.Eg ih h1 h2 hi hr hN h).1,uz h⟩
     · simp only [run,h3] at h;cases h
     · simp only [run,h3,Option.ite_none_right_eq_some] at h
       obtain ⟨_,h⟩:=h
       unfold cL at h
       rw [h4] at h
       simp [dk] at h
end
end Go.Ab
