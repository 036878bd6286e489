import Derived.Test.YtcjggpmnbcfedaaDoorAbControl
import Derived.Test.YtcjggpmnbcfedaaDoorAbClone
import Derived.RangeFuncLeaves
import Derived.RangeFuncRecord
/-
  Functions: n levels of calls of the evaluator are what the model does.
-/
set_option linter.unusedVariables false
set_option linter.unusedSimpArgs false
set_option maxRecDepth 100000
set_option maxHeartbeats 8000000
namespace Go.Ab
section
variable {P:Program} {ns:Names} {G:Gh} {w:World}
theorem mQ:∀{l:List AV} {i t:Nat} {v:AV},look (bF i l) t=some v→i≤t∧l[t-i]?=some v
 | [],i,t,v,h=>by simp [bF,look] at h
 | x::l,i,t,v,h=>by
   simp only [bF,look] at h
   split at h
   · rename_i e;subst e;cases h;simp
   · rename_i hne
     obtain ⟨h1,h2⟩:=mQ h
     refine ⟨by omega,?_⟩
     rw [show t-i=(t-(i+1))+1 from by omega]
     simpa using h2
theorem BO {N:Nat} {args:List AV} {vs:List Value} (hr:ae (num ns) G args vs) (hN:args.length≤N) :
   iC (num ns) G N (bF 0 args) { tmps:=vs.toArray++Array.replicate (N-vs.toArray.size) undef,defers:=[] }:=by
 have hl:=hr.length
 refine ⟨by simp;omega,fun t x hx=>?_⟩
 obtain ⟨_,h2⟩:=mQ hx
 simp only [Nat.sub_zero] at h2
 obtain ⟨v,h3,h4⟩:=hr.get h2
 refine ⟨v,?_,h4⟩
 rw [Array.getElem?_append_left (by have:=(List.getElem?_eq_some_iff.1 h3).1;simpa using this)]
 simpa using h3
theorem lG {n0 N:Nat} {st:St} {a:Act} (hs:eU (num ns) n0 N G st a w) {F:ResultVar→Sem Value} (hF1:∀t,F (.tmp t)=pure (a.tmps.getD t undef)) (hF2:∀ad t,F (.cell ad t)=(do loadVar t (←asAddr (a.tmps.getD ad undef)))):∀{rvs:List ResultVar} {rs:List lY} {xs:List AV},cK (wa P) rvs=some rs→de st rs=some xs →
   ∃vs,(rvs.mapM F).run P w=.ok vs w∧ae (num ns) G xs vs
 | [],rs,xs,hc,hx=>by
   simp [cK] at hc;subst hc
   simp [de] at hx;subst hx
   exact ⟨[],by simp,by simp [ae]⟩
 | r::rvs,rs,xs,hc,hx=>by
   simp only [cK] at hc
   split at hc
   · rename_i ar ars h1 h2
     simp at hc;subst hc
     simp only [de] at hx
     split at hx
     · rename_i v vs' g1 g2
       simp at hx;subst hx
       obtain ⟨us,k1,k2⟩:=lG hs hF1 hF2 h2 g2
       have one:∃u,(F r).run P w=.ok u w∧al (num ns) G v u:=by
         cases r with
         | tmp t=>
           simp [wa] at h1;subst h1
           simp only [kN] at g1
           obtain ⟨u,e1,e2⟩:=hs.env.env t v g1
           exact ⟨u,by rw [hF1];simp [e1],e2⟩
         | cell ad t=>
           simp only [wa] at h1
           split at h1
           · rename_i sz ag hsz hag
             simp at h1;subst h1
             simp only [kN] at g1
             split at g1
             · rename_i d e1
               split at g1
               · rename_i cs e2
                 simp only [Option.ite_none_right_eq_some] at g1
                 obtain ⟨rfl,g1⟩:=g1
                 obtain ⟨u,f1,f2⟩:=hs.env.env _ _ e1
                 simp only [al] at f2
                 obtain ⟨b,hp,rfl⟩:=f2
                 obtain ⟨b',hp',hblk,_⟩:=hs.inv.bZ _ _ e2
                 rw [hp] at hp';cases hp'
                 obtain ⟨_,c,ty,hh,hrel⟩:=hblk
                 obtain ⟨u,q1,q2⟩:=ff (w:=w) hsz hag g1 hrel (gC hh)
                 exact ⟨u,by rw [hF2];simp [f1,asAddr,q1],q2⟩
               · cases g1
             · rename_i s e1
               split at g1
               · rename_i cs e2
                 split at g1
                 · cases g1
                 · rename_i hm
                   obtain ⟨u,f1,f2⟩:=hs.env.env _ _ e1
                   simp only [al] at f2
                   obtain ⟨b,hp,rfl⟩:=f2
                   obtain ⟨b',hp',hblk,_⟩:=hs.inv.cL _ _ e2
                   rw [hp] at hp';cases hp'
                   obtain ⟨_,c,ty,vs,suf,hh,_,hsp,hrel⟩:=hblk.cells (by simpa using hm)
                   obtain ⟨u,q1,q2⟩:=ff (w:=w) hsz hag g1 hrel (jT hh hsp)
                   exact ⟨u,by rw [hF2];simp [f1,asAddr,q1],q2⟩
               · cases g1
             · cases g1
           · simp at h1
       obtain ⟨u,o1,o2⟩:=one
       refine ⟨u::us,?_,?_⟩
       · rw [List.mapM_cons]
         simp only [Sem.run_bind]
         rw [o1]
         simp only [Result.andThen_ok]
         rw [k1]
         rfl
       · simp only [ae];exact ⟨u,us,rfl,o2,k2⟩
     · simp at hx
   · simp at hc
theorem jH {G':Gh} {sh:Sh} {ks:List Nat} (hle:G.le G') (hf:gD ns G G' sh ks) (hl:∀(s:Nat) (cells:List AV),sh[s]?=some (some cells)→cells.all aG=true)
   {x:AV} {v:Value} (ha:∀s∈dX x,s∈ks) (h:al (num ns) G x v):al (num ns) G' (l4 sh x) v:=by
 unfold l4
 split
 · rename_i p hp
   simp only [al]
   exact mi hle hf hl ha hp h
 · exact h.mono hle
theorem BP {G':Gh} {sh:Sh} {ks:List Nat} (hle:G.le G') (hf:gD ns G G' sh ks) (hl:∀(s:Nat) (cells:List AV),sh[s]?=some (some cells)→cells.all aG=true)
   {x:AV} {v:Value} (ha:aG x=true→∀s∈dX x,s∈ks) (h:al (num ns) G x v):al (num ns) G' (jo sh x) v:=by
 unfold jo
 split
 · exact h.mono hle
 · split
   · rename_i hl'
     exact jH hle hf hl (ha hl') h
   · exact h.mono hle
theorem oa {G':Gh} {sh:Sh} {ks:List Nat} (hle:G.le G') (hf:gD ns G G' sh ks) (hl:∀(s:Nat) (cells:List AV),sh[s]?=some (some cells)→cells.all aG=true) :
   ∀{cs:List AV} {vs:List Value},(∀s∈dX (.agg cs),s∈ks)→ae (num ns) G cs vs→ae (num ns) G' (cs.map (jo sh)) vs
 | [],vs,_,h=>by simpa [ae] using h
 | c::cs,vs,ha,h=>by
   simp only [ae] at h
   obtain ⟨v,r,e,e1,e2⟩:=h
   simp only [List.map_cons,ae]
   refine ⟨v,r,e,BP hle hf hl (fun hb s hs=>ha s ?_) e1,oa hle hf hl (fun s hs=>ha s ?_) e2⟩
   · simp only [dX,List.flatMap_cons,List.mem_append]
     left
     cases c<;>simp_all [dX,aG]
   · simp only [dX,List.flatMap_cons,List.mem_append] at hs ⊢
     exact .inr hs
theorem BQ {G':Gh} {sh:Sh} {ks:List Nat} (hle:G.le G') (hf:gD ns G G' sh ks) (hl:∀(s:Nat) (cells:List AV),sh[s]?=some (some cells)→cells.all aG=true)
   {x:AV} {v:Value} (ha:∀s∈dX x,s∈ks) (h:al (num ns) G x v):al (num ns) G' (ku sh x) v:=by
 unfold ku
 split
 · exact h.mono hle
 · exact h.mono hle
 · simp only [al] at h ⊢
   obtain ⟨vs,e,r⟩:=h
   exact ⟨vs,e,oa hle hf hl ha r⟩
 · exact jH hle hf hl ha h
theorem jI {G':Gh} {sh:Sh} {ks:List Nat} {F:Sh→AV→AV} (hF:∀{x:AV} {v:Value},(∀s∈dX x,s∈ks)→al (num ns) G x v→al (num ns) G' (F sh x) v) :
   ∀{xs:List AV} {vs:List Value},(∀s∈xs.flatMap dX,s∈ks)→ae (num ns) G xs vs→ae (num ns) G' (xs.map (F sh)) vs
 | [],vs,_,h=>by simpa [ae] using h
 | x::xs,vs,ha,h=>by
   simp only [ae] at h
   obtain ⟨v,r,e,e1,e2⟩:=h
   simp only [List.flatMap_cons,List.mem_append] at ha
   simp only [List.map_cons,ae]
   exact ⟨v,r,e,hF (fun s hs=>ha s (.inl hs)) e1,jI hF (fun s hs=>ha s (.inr hs)) e2⟩
theorem vM {G':Gh} {sh:Sh} {ks:List Nat} {aF kst:Bool} (hle:G.le G') (hf:gD ns G G' sh ks) (hl:∀(s:Nat) (cells:List AV),sh[s]?=some (some cells)→cells.all aG=true)
   {xs:List AV} {vs:List Value} (ha:∀s∈xs.flatMap dX,s∈ks) (h:ae (num ns) G xs vs):ae (num ns) G' (bN aF kst sh xs) vs:=by
 unfold bN
 split
 · split
   · exact ae.mono hle h
   · exact jI (BQ hle hf hl) ha h
 · exact jI (jH hle hf hl) ha h
theorem vN {xs:List AV} {vs:List Value} (h:ae (num ns) G xs vs):cr (num ns) G xs (if h:vs.toArray.size=1 then vs.toArray[0] else .tuple vs.toArray):=by
 unfold cr
 split
 · rename_i r
   simp only [ae] at h
   obtain ⟨v,r',e,e1,e2⟩:=h
   subst e2;subst e
   simpa using e1
 · rename_i hn
   have hl:=h.length
   rw [dif_neg]
   · exact ⟨vs,rfl,h⟩
   · intro e
     simp at e
     rw [e] at hl
     cases xs with
     | nil=>simp at hl
     | cons x xs=>
       cases xs with
       | nil=>exact hn x rfl
       | cons _ _=>simp at hl
end
mutual
theorem mR {ρ:bw} {G G':Gh} {n:Nat} (hK:G.K.le G'.K) (hs:∀s b,s<n→G.sm s=some b→G'.sm s=some b):∀{x:AV} {v:Value},ba x=true→aw n x=true→al ρ G x v→al ρ G' x v
 | .pv p,_,_,_,h=>by simp only [al] at h ⊢;exact h.mono hK
 | .aT s o,_,_,hr,h=>by simp [aw] at hr;simp only [al] at h ⊢;obtain ⟨b,e,r⟩:=h;exact ⟨b,hs _ _ hr e,r⟩
 | .bh s _ n _,_,_,hr,h=>by simp [aw] at hr;simp only [al] at h ⊢;obtain ⟨b,c,e,r⟩:=h;exact ⟨b,c,hs _ _ hr e,r⟩
 | .cz,_,_,_,h=>by simpa only [al] using h
 | .bY s,_,_,hr,h=>by simp [aw] at hr;simp only [al] at h ⊢;obtain ⟨b,e,r⟩:=h;exact ⟨b,hs _ _ hr e,r⟩
 | .jn ..,_,hp,_,_=>by simp [ba] at hp
 | .cN _,_,_,_,h=>by simp only [al] at h
 | .fn g cap,_,hp,hr,h=>by
   simp only [ba] at hp
   simp only [aw] at hr
   simp only [al] at h ⊢
   obtain ⟨f,vs,e1,e2,r⟩:=h
   exact ⟨f,vs,e1,e2,kK hK hs hp hr r⟩
 | .un,_,hp,_,_=>by simp [ba] at hp
 | .cg _,_,_,_,h=>by simp only [al] at h ⊢;obtain ⟨b,l,e,r⟩:=h;exact ⟨b,l,e,r.mono hK⟩
 | .own _ _,_,hp,_,_=>by simp [ba] at hp
 | .agg _,_,hp,hr,h=>by
   simp only [ba] at hp
   simp only [aw] at hr
   simp only [al] at h ⊢
   obtain ⟨vs,e,r⟩:=h
   exact ⟨vs,e,kK hK hs hp hr r⟩
 | .jg _,_,hp,_,_=>by simp [ba] at hp
 | .bt _ _,_,hp,_,_=>by simp [ba] at hp
 | .cC _,_,hp,_,_=>by simp [ba] at hp
theorem kK {ρ:bw} {G G':Gh} {n:Nat} (hK:G.K.le G'.K) (hs:∀s b,s<n→G.sm s=some b→G'.sm s=some b):∀{xs:List AV} {vs:List Value},ba.eG xs=true→aw.bR n xs=true→ae ρ G xs vs→ae ρ G' xs vs
 | [],_,_,_,h=>by simpa only [ae] using h
 | x::xs,_,hp,hr,h=>by
   simp only [ba.eG,Bool.and_eq_true] at hp
   simp only [aw.bR,Bool.and_eq_true] at hr
   simp only [ae] at h ⊢
   obtain ⟨v,r,e,e1,e2⟩:=h
   exact ⟨v,r,e,mR hK hs hp.1 hr.1 e1,kK hK hs hp.2 hr.2 e2⟩
end
section
variable {P:Program} {ns:Names} {G:Gh} {w:World}
theorem mS {ρ:bw} {G':Gh} {n:Nat} (hK:G.K.le G'.K) (hs:∀s b,s<n→G.sm s=some b→G'.sm s=some b) (ht:∀τ t,G.tk τ=some t→G'.tk τ=some t):∀{xs:List AV} {vs:List Value},dG xs=true→aw.bR n xs=true→ae ρ G xs vs→ae ρ G' xs vs
 | [],_,_,_,h=>by simpa only [ae] using h
 | x::xs,_,hp,hr,h=>by
   simp only [dG,Bool.and_eq_true] at hp
   simp only [aw.bR,Bool.and_eq_true] at hr
   simp only [ae] at h ⊢
   obtain ⟨v,r,e,e1,e2⟩:=h
   refine ⟨v,r,e,?_,mS hK hs ht hp.2 hr.2 e2⟩
   cases x with
   | own l τ=>
     simp only [al] at e1 ⊢
     obtain ⟨t,a1,a2,a3,a4⟩:=e1
     exact ⟨t,ht _ _ a1,a2,a3.mono hK,fun hl=>⟨(a4 hl).1,Ci (a4 hl).2 fun ⟨b,o,e,r⟩=>⟨b,o,e,Row.mono hK _ _ _ _ r⟩⟩⟩
   | _=>exact mR hK hs (show ba _=true from hp.1) hr.1 e1
theorem zC {ρ:bw} {G':Gh} {n:Nat} (hK:G.K.le G'.K) (hs:∀s b,s<n→G.sm s=some b→G'.sm s=some b) (ht:∀τ t,G.tk τ=some t→G'.tk τ=some t) {x:AV} {v:Value} (hp:bp x=true) (hr:aw n x=true) (h:al ρ G x v):al ρ G' x v:=by
 cases x with
 | own l τ=>
   simp only [al] at h ⊢
   obtain ⟨t,e1,e2,e3,e4⟩:=h
   exact ⟨t,ht _ _ e1,e2,e3.mono hK,fun hl=>⟨(e4 hl).1,Ci (e4 hl).2 fun ⟨b,o,e,r⟩=>⟨b,o,e,Row.mono hK _ _ _ _ r⟩⟩⟩
 | agg cs=>
   simp only [aw] at hr
   simp only [al] at h ⊢
   obtain ⟨vs,e,r⟩:=h
   exact ⟨vs,e,mS hK hs ht (by simpa [bp] using hp) hr r⟩
 | _=>exact mR hK hs (show ba _=true from hp) hr h
theorem jJ {ρ:bw} {G':Gh} {n:Nat} (hK:G.K.le G'.K) (hs:∀s b,s<n→G.sm s=some b→G'.sm s=some b) (ht:∀τ t,G.tk τ=some t→G'.tk τ=some t):∀{xs:List AV} {vs:List Value},xs.all bp=true→xs.all (aw n)=true→ae ρ G xs vs→ae ρ G' xs vs
 | [],_,_,_,h=>by simpa only [ae] using h
 | x::xs,_,hp,hr,h=>by
   simp only [List.all_cons,Bool.and_eq_true] at hp hr
   simp only [ae] at h ⊢
   obtain ⟨v,r,e,e1,e2⟩:=h
   exact ⟨v,r,e,zC hK hs ht hp.1 hr.1 e1,jJ hK hs ht hp.2 hr.2 e2⟩
def Gh.bare (G:Gh):Gh:={ G with pm:=fun _=>none,role:=fun b=>match G.role b with | .jR _=>.cX | r=>r }
theorem Inv.bare {mem:List (Nat×List AV)} {sh:Sh} {ts:au} (hi:Inv (num ns) G w mem sh ts):Inv (num ns) G.bare w [] sh ts where
 known:=hi.known
 aM:=fun b o v hk=>by
   rcases hi.aM b o v hk with h | ⟨τ,h⟩
   · exact .inl (by simp [Gh.bare,h])
   · exact .inr ⟨τ,by simp [Gh.bare,h]⟩
 fresh:=fun b hb=>by simp [Gh.bare,hi.fresh b hb]
 bZ:=fun d cells h=>by simp [look] at h
 eN:=fun d b h=>by simp [Gh.bare] at h
 cL:=fun s cells hs=>by
   obtain ⟨b,e1,e2,e3,e4⟩:=hi.cL s cells hs
   obtain ⟨hr,o,hh,hrel⟩:=e2
   exact ⟨b,e1,⟨by simp [Gh.bare,hr],o,hh,hrel.to (fun _ _ _ h=>h) (fun _ e=>e) (fun _ r=>fU (G:=G) (G':=G.bare) (aU.le_refl _) (fun _ _ h=>h) (fun _ _ h=>h) (fm e3) r)⟩,e3,e4⟩
 dT:=hi.dT
 cn:=fun τ n h=>by
   obtain ⟨t,e1,e2,e3⟩:=hi.cn τ n h
   refine ⟨t,e1,e2,e3.cap,e3.zero,fun hlt=>?_⟩
   obtain ⟨b,o,c,ty,f1,f2,f3,f4,f5⟩:=e3.spare hlt
   exact ⟨b,o,c,ty,f1,by simp [Gh.bare,f2],f3,f4,f5⟩
 dL:=hi.dL
def Gh.jl (G:Gh) (n:Nat):Gh:={ G with sm:=fun s=>if s<n then G.sm s else none }
theorem Inv.jl {sh:Sh} {ts:au} (hi:Inv (num ns) G w [] sh ts) (n:Nat):Inv (num ns) (G.jl n) w [] (sh.take n) ts where
 known:=hi.known
 aM:=hi.aM
 fresh:=hi.fresh
 bZ:=fun d cells h=>by simp [look] at h
 eN:=hi.eN
 cL:=fun s cells hs=>by
   rw [List.getElem?_take] at hs
   split at hs
   · rename_i hlt
     obtain ⟨b,e1,e2,e3,e4⟩:=hi.cL s cells hs
     obtain ⟨hr,o,hh,hrel⟩:=e2
     exact ⟨b,by simp [Gh.jl,hlt,e1],⟨hr,o,hh,hrel.to (fun _ _ _ h=>h) (fun _ e=>e) (fun _ r=>jJ (G:=G) (G':=G.jl n) (n:=s+1) (aU.le_refl G.K) (fun s' b' hs' h=>by simp only [Gh.jl];rw [if_pos (by omega)];exact h) (fun _ _ h=>h) (fm e3) e4 r)⟩,e3,e4⟩
   · simp at hs
 dT:=fun s b h=>by
   simp only [Gh.jl] at h
   split at h
   · have:=hi.dT s b h;simp;omega
   · simp at h
 cn:=fun τ n h=>by
   obtain ⟨t,e1,e2,e3⟩:=hi.cn τ n h
   exact ⟨t,e1,e2,e3.cap,e3.zero,e3.spare⟩
 dL:=hi.dL
theorem Inv.shut {mem:List (Nat×List AV)} {sh:Sh} {aa:au} {D:Nat} {x:Option (List Deferred)} (hi:Inv (num ns) G w mem sh aa) (hD:w.heap[D]?=some (.deferred x)) :
   Inv (num ns) G (w.putObj D (.deferred none)) mem sh aa:=by
 have hne:∀{b:Nat} {c:Array Value} {t:TypeId},w.heap[b]?=some (.cells c t (0,0))→(w.putObj D (.deferred none)).heap[b]?=some (.cells c t (0,0)):=by
   intro b c t h
   rw [World.putObj_heap_other]
   · exact h
   · rintro rfl;rw [hD] at h;cases h
 have hsize:(w.putObj D (.deferred none)).heap.size=w.heap.size:=by simp [World.putObj]
 refine { hi with known:=?_,fresh:=?_,bZ:=?_,cL:=?_,cn:=?_ }
 · intro b o v hk
   have h:=hi.known b o v hk
   rw [←h]
   have:b≠D:=by rintro rfl;simp [World.cell?,hD] at h
   simp only [World.cell?,World.putObj_heap_other this]
 · intro b hb;exact hi.fresh b (by omega)
 · intro k cs hk
   obtain ⟨b,e1,⟨e2,c,t,e3,e4⟩,e5⟩:=hi.bZ k cs hk
   exact ⟨b,e1,⟨e2,c,t,hne e3,e4⟩,e5⟩
 · intro k cs hk
   obtain ⟨b,e1,⟨e2,o,e3,e4⟩,e5⟩:=hi.cL k cs hk
   refine ⟨b,e1,⟨e2,o,?_,e4⟩,e5⟩
   rw [World.putObj_heap_other]
   · exact e3
   · rintro rfl
     rw [hD] at e3;cases e3
     rcases e4 with ⟨_,_,_,_,h,_⟩ | ⟨_,_,_,h,_⟩<;>cases h
 · intro τ n hn
   obtain ⟨t,e1,e2,e3⟩:=hi.cn τ n hn
   refine ⟨t,e1,e2,e3.cap,e3.zero,fun hlt=>?_⟩
   obtain ⟨b,o,c,ty,f1,f2,f3,f4,f5⟩:=e3.spare hlt
   exact ⟨b,o,c,ty,f1,f2,hne f3,f4,f5⟩
theorem bz.shut {G':Gh} {w':World} {D:Nat} (he:bz G w G' w') (hD:w.heap.size≤D):bz G w G' (w'.putObj D (.deferred none)):=
 { he with
   size:=by simpa [World.putObj] using he.size
   os:=by simpa [World.putObj] using he.os
   tape:=by simpa [World.putObj] using he.tape
   output:=by simpa [World.putObj] using he.output
   cX:=fun b hb hr=>by
     obtain ⟨h1,h2⟩:=he.cX b hb hr
     exact ⟨h1,by rw [World.putObj_heap_other (by omega)];exact h2⟩ }
theorem lH {fn:Func} {tmps:Array Value} {R:Ending→World→Prop} {mem:List (Nat×List AV)} {sh:Sh} {aa:au} {G':Gh}:∀(Ds:List Nat) (w':World),Inv (num ns) G' w' mem sh aa→bz G w G' w'→Ds.Nodup →
   (∀D∈Ds,w.heap.size≤D∧w'.heap[D]?=some (.deferred (some []))) →
   (∀w'',Inv (num ns) G' w'' mem sh aa→bz G w G' w''→∃v,(results fn tmps).run P w''=.ok v w''∧R (.returned v) w'') →
   LeavesInM Fence.wide 0 P fn tmps R (Ds.map (fun D=>{ target:=.collected D,args:=#[] })) .returning w'
 | [],w',hi,he,_,_,h=>h w' hi he
 | D::Ds,w',hi,he,hn,hD,h=>by
   obtain ⟨h1,h2⟩:=hD D (by simp)
   refine ⟨by simp,.inl ⟨D,_,rfl,run_takeDeferred h2,?_⟩⟩
   simp only [List.nodup_cons] at hn
   refine lH Ds _ (hi.shut h2) (he.shut h1) hn.2 (fun E hE=>?_) h
   obtain ⟨g1,g2⟩:=hD E (by simp [hE])
   refine ⟨g1,?_⟩
   rw [World.putObj_heap_other]
   · exact g2
   · rintro rfl;exact hn.1 hE
theorem mT (hm:P.follows .mixedOrders=true) (hB:eQ P ns) (hBk:lW P ns) {orc:dC} (horc:gu P ns orc) {A:jL} {k f:Nat} {aF:Bool} {fn:Func} {af:aB} (hf:P.funcs[f]?=some fn) (hc:l5 P ns A fn=some af)
   {args rs:List AV} {vs:List Value} {sh sh':Sh} {ts ts':au} (hi:Inv (num ns) G w [] sh ts) (hr:ae (num ns) G args vs) (hN:args.length≤af.ntmps) (h:bG orc k aF af args sh ts=some (rs,sh',ts')) :
   (Calls P f vs.toArray w fun e w'=>∃v G',e=.returned v∧cr (num ns) G' rs v∧Inv (num ns) G' w' [] sh' ts'∧bz G w G' w')∧rs.all bp=true:=by
 unfold l5 at hc
 split at hc
 · rename_i c ars sa en
   simp only [Option.ite_none_right_eq_some,Option.map_eq_some_iff] at hc
   obtain ⟨_,ac,hcc,rfl⟩:=hc
   unfold bG at h
   split at h
   · rename_i e st hev
     simp only [Option.ite_none_right_eq_some] at h
     obtain ⟨he,h⟩:=h
     split at h
     · rename_i xs hxs
       simp only [Option.ite_none_right_eq_some] at h
       obtain ⟨hpass,h⟩:=h
       let kst:=A.ks
       let shk:Sh:=dz aF kst st.sh xs
       let DE:Sh:=if (bN aF kst st.sh xs).all (aw sh.length)=true then shk.take sh.length else shk
       have h:some ((cm st.aa (bN aF kst st.sh xs) DE).1,(cm st.aa (bN aF kst st.sh xs) DE).2.1,(cm st.aa (bN aF kst st.sh xs) DE).2.2.2)=some (rs,sh',ts'):=h
       simp only [Option.some.injEq,Prod.mk.injEq] at h
       obtain ⟨hrs,hsh,hts⟩:=h
       have hpass':rs.all bp=true:=by rw [←hrs];exact eY hpass
       refine ⟨?_,hpass'⟩
       refine callsIn_wide (n:=0).1 (callsIn_of_wp_marks hf sa trivial ?_ rfl)
       have hs0:eU (num ns) w.heap.size fn.ntmps G { env:=bF 0 args,mem:=[],sh,aa:=ts } { tmps:=vs.toArray++Array.replicate (fn.ntmps-vs.toArray.size) undef,defers:=[] } w:=⟨BO hr hN,hi,Nat.le_refl _,[],rfl,by simp,by simp⟩
       refine eC (ro:=none) hm hB horc hBk hcc (.inl rfl) hev hs0 fun G' a' w1 hs1 hevo1=>?_
       have key:LeavesInM Fence.wide 0 P fn a'.tmps (fun e w'=>∃v G',e=.returned v∧cr (num ns) G' rs v∧Inv (num ns) G' w' [] sh' ts'∧bz G w G' w') a'.defers .returning w1:=by
         obtain ⟨m0,Ds,m1,m2,m3⟩:=hs1.marks
         rw [m1]
         refine lH Ds w1 hs1.inv hevo1 m2 (fun D hD=>⟨(m3 D hD).1,(m3 D hD).2.2.2⟩) ?_
         intro w' hi' hevo
         have hs':eU (num ns) w.heap.size fn.ntmps G' st { tmps:=a'.tmps,defers:=[] } w':=⟨⟨hs1.env.size,hs1.env.env⟩,hi',hevo.size,[],rfl,by simp,by simp⟩
         obtain ⟨us,u1,u2⟩:=lG (P:=P) hs' (F:=fun | .tmp t=>pure (a'.tmps.getD t undef) | .cell ad t=>do loadVar t (←asAddr (a'.tmps.getD ad undef))) (fun _=>rfl) (fun _ _=>rfl) en hxs
         refine ⟨(if h:us.toArray.size=1 then us.toArray[0] else .tuple us.toArray),?_,?_⟩
         · unfold results
           rw [Array.mapM_eq_mapM_toList]
           simp only [Sem.run_bind,Sem.run_map]
           erw [u1]
           rfl
         · obtain ⟨G1,k1,k2,k3,hout⟩:∃G1,Inv (num ns) G1 w' st.mem shk st.aa∧G'.le G1∧bz G' w' G1 w'∧ae (num ns) G1 (bN aF kst st.sh xs) us:=by
             by_cases hkk:(aF && kst)=true
             · refine ⟨G',?_,Gh.le_refl _,bz.refl _ _,?_⟩
               · have:shk=st.sh:=by simp only [shk,dz,hkk,if_true]
                 rw [this];exact hs'.inv
               · have:bN aF kst st.sh xs=xs:=by
                   simp only [Bool.and_eq_true] at hkk
                   simp only [bN,hkk.1,hkk.2,if_true]
                 rw [this];exact u2
             · obtain ⟨G1,k1,k2,k3,k4,k5⟩:=Inv.kill (xs.flatMap dX) hs'.inv
               refine ⟨G1,?_,k2,k3,vM (aF:=aF) k2 k4 hs'.inv.oL (fun s hs=>hs) u2⟩
               have:shk=dj st.sh xs:=by
                 simp only [shk,dz]
                 rw [if_neg hkk]
               rw [this];exact k1
           have hbare:=fU (G:=G1) (G':=G1.bare) (aU.le_refl _) (fun _ _ h=>h) (fun _ _ h=>h) hpass hout
           have k1b:=k1.bare
           have hevo0:=hevo.trans k3
           obtain ⟨G2,i2,r2,e2⟩:∃G2,Inv (num ns) G2 w' [] DE st.aa∧ae (num ns) G2 (bN aF kst st.sh xs) us∧bz G w G2 w':=by
             have bareEvo:bz G w G1.bare w':={
               size:=hevo0.size,os:=hevo0.os,tape:=hevo0.tape,output:=hevo0.output,K:=hevo0.K,sm:=hevo0.sm,
               cX:=fun b hb hr=>⟨by simp [Gh.bare,(hevo0.cX b hb hr).1],(hevo0.cX b hb hr).2⟩
               fe:=fun b τ hb hr=>by
                 rcases hevo0.fe b τ hb hr with h | ⟨τ',h⟩
                 · exact .inl (by simp [Gh.bare,h])
                 · exact .inr ⟨τ',by simp [Gh.bare,h]⟩
               eE:=hevo0.eE }
             by_cases href:(bN aF kst st.sh xs).all (aw sh.length)=true
             · have hshd:DE=shk.take sh.length:=if_pos href
               rw [hshd]
               refine ⟨G1.bare.jl sh.length,k1b.jl sh.length,jJ (G:=G1.bare) (G':=G1.bare.jl sh.length) (n:=sh.length) (aU.le_refl _) (fun s b hs h=>by simp only [Gh.jl];rw [if_pos hs];exact h) (fun _ _ h=>h) hpass href hbare,?_⟩
               exact { size:=bareEvo.size,os:=bareEvo.os,tape:=bareEvo.tape,output:=bareEvo.output,K:=bareEvo.K,
                       sm:=fun s b hsb=>by
                         have:=hi.dT s b hsb
                         show (if s<sh.length then G1.sm s else none)=some b
                         rw [if_pos this];exact bareEvo.sm s b hsb
                       cX:=bareEvo.cX,fe:=bareEvo.fe,eE:=bareEvo.eE }
             · have hshd:DE=shk:=if_neg href
               rw [hshd]
               exact ⟨G1.bare,k1b,hbare,bareEvo⟩
           obtain ⟨m,tks,hNS,hto,hrel⟩:=i2.zX hpass r2
           rw [hrs] at hrel
           rw [hsh,hts] at hto
           exact ⟨_,G2.to m tks,rfl,vN hrel,hto,e2.to m tks⟩
       cases e with
       | normal=>exact key
       | ret=>exact key
       | exit id=>simp at he
     · simp at h
   · simp at h
 · simp at hc
theorem nC {orc:dC} {k:Nat} {aF:Bool} {af:aB} {args rs:List AV} {sh sh':Sh} {ts ts':au} (h:bG orc k aF af args sh ts=some (rs,sh',ts')):rs.all bp=true:=by
 unfold bG at h
 split at h
 · split at h
   · split at h
     · simp only [Option.ite_none_right_eq_some] at h
       obtain ⟨hp,h⟩:=h
       have e:=congrArg Prod.fst (Option.some.inj h)
       dsimp only at e
       rw [←e];exact eY hp
     · simp at h
   · simp at h
 · simp at h
structure Impl (P:Program) (ns:Names) (AP:Nat→Option aB):Prop where
 mixed:P.follows .mixedOrders=true
 funcs:∀f g,ns.of f=some g→(∃fn A af,P.funcs[f]?=some fn∧l5 P ns A fn=some af∧AP g=some af) ∨
   ((∃fn b,P.funcs[f]?=some fn∧fn.body=some b∧fn.name ≠ "runtime.NumGoroutine") ∧
     (AP g=none∨∃af pf,AP g=some af∧af.lL=some pf∧af.body=.exit 0∧∀cd rs,pf cd=some rs→qm P f cd rs))
 v9:lW P ns
 Ey:∀g sz bytes f,look ns.cl g=some (sz,bytes)→ns.of f=some g→Nonempty (mO P ns f sz bytes)
theorem Impl.BR {AP:Nat→Option aB} (h:Impl P ns AP):eQ P ns:=by
 intro f g hg
 rcases h.funcs f g hg with ⟨fn,A,af,h1,h2,_⟩ | ⟨⟨fn,b,h1,h2,h3⟩,_⟩
 · unfold l5 at h2
   split at h2
   · rename_i b rs hb _
     simp only [Option.ite_none_right_eq_some] at h2
     obtain ⟨⟨_,hn⟩,_⟩:=h2
     exact ⟨fn,b,h1,hb,by simpa using hn⟩
   · simp at h2
 · exact ⟨fn,b,h1,h2,h3⟩
theorem vO {A:jL} {fn:Func} {af:aB} (h:l5 P ns A fn=some af):af.lL=none:=by
 unfold l5 at h
 split at h
 · simp only [Option.ite_none_right_eq_some,Option.map_eq_some_iff] at h
   obtain ⟨_,_,_,rfl⟩:=h
   rfl
 · simp at h
theorem mU:∀{rs:List AV} {ps:List PV},d0 rs=some ps→rs=ps.map .pv
 | [],ps,h=>by simp [d0] at h;subst h;rfl
 | x::rs,ps,h=>by
   cases x with
   | pv p=>
     simp only [d0,Option.map_eq_some_iff] at h
     obtain ⟨qs,h1,rfl⟩:=h
     simp [mU h1]
   | _=>simp [d0] at h
theorem lI:∀{ps:List PV} {vs:List Value},ae (num ns) G (ps.map .pv) vs→ga G.K ps vs
 | [],vs,h=>by simp only [List.map_nil,ae] at h;exact h
 | p::ps,vs,h=>by
   simp only [List.map_cons,ae] at h
   obtain ⟨v,r,e,e1,e2⟩:=h
   simp only [al] at e1
   exact ⟨v,r,e,e1,lI e2⟩
theorem zD {ps:List PV} {v:Value} (h:cr (num ns) G (ps.map .pv) v):fR G.K ps v:=by
 unfold fR
 split
 · rename_i p
   simp only [List.map_cons,List.map_nil,cr,al] at h
   exact h
 · rename_i hn
   unfold cr at h
   split at h
   · rename_i r e
     cases ps with
     | nil=>simp at e
     | cons q qs=>
       cases qs with
       | nil=>exact absurd rfl (hn q)
       | cons _ _=>simp at e
   · obtain ⟨vs,e,h⟩:=h
     exact ⟨vs,e,lI h⟩
theorem ob {AP:Nat→Option aB} (hI:Impl P ns AP) (k:Nat):∀n,gu P ns (run AP k n)
 | 0=>⟨fun g f cd rs _ h=>by simp [run] at h,fun g f args ts rs sh sh' ts' _ _ h=>by simp [run] at h,fun g sz by_ f h1 h2=>(hI.Ey g sz by_ f h1 h2).elim se⟩
 | n+1=>by
   have ih:=ob hI k n
   refine ⟨fun g f cd rs hg h=>?_,fun g f args ts rs sh sh' ts' hg hp h=>?_,ih.c⟩
   · rcases hI.funcs f g hg with ⟨fn,A,af,h1,h2,h3⟩ | ⟨_,h3 | ⟨af,pf,h3,h4,_,h5⟩⟩
     · simp only [run,h3,vO h2,Option.ite_none_right_eq_some] at h
       obtain ⟨⟨_,hN⟩,h⟩:=h
       split at h
       · rename_i xs x2 hb
         obtain ⟨sh',ts'⟩:=x2
         have hxs:=mU h
         subst hxs
         intro K w vs hK hr
         let G0:Gh:={ K,role:=fun _=>.cX,pm:=fun _=>none,sm:=fun _=>none,tk:=fun _=>none }
         have hi:Inv (num ns) G0 w [] [] []:={
           known:=hK,aM:=fun _ _ _ _=>.inl rfl,fresh:=fun _ _=>rfl,bZ:=fun d c h=>by simp [look] at h,eN:=fun d b h=>by simp [G0] at h,
           cL:=fun s c h=>by simp at h,dT:=fun s b h=>by simp [G0] at h,cn:=fun τ n h=>by simp at h,dL:=fun τ t h=>by simp [G0] at h }
         have hC:=(mT hI.mixed hI.BR hI.v9 ih h1 h2 hi (d6 (ρ:=num ns) (G:=G0) hr) (by simpa using hN) hb).1
         refine hC.mono ?_
         rintro e w' ⟨v,G',rfl,en,hi',hevo⟩
         refine ⟨v,G'.K,rfl,zD en,hevo.K,fun b o u hb hk=>hevo.eE b o u hb rfl hk,hi'.known,⟨hevo.os,hevo.tape,hevo.output,hevo.size,fun b hb=>(hevo.cX b hb rfl).2⟩⟩
       · simp at h
     · simp only [run,h3] at h;cases h
     · simp only [run,h3,h4] at h
       exact h5 _ _ h
   · rcases hI.funcs f g hg with ⟨fn,A,af,h1,h2,h3⟩ | ⟨_,h3 | ⟨af,pf,h3,_,h4,_⟩⟩
     · simp only [run,h3,Option.ite_none_right_eq_some] at h
       obtain ⟨hN,h⟩:=h
       exact ⟨fun G w vs hi hr=>(mT hI.mixed hI.BR hI.v9 ih h1 h2 hi hr hN h).1,nC h⟩
     · simp only [run,h3] at h;cases h
     · simp only [run,h3,Option.ite_none_right_eq_some] at h
       obtain ⟨_,h⟩:=h
       unfold bG at h
       rw [h4] at h
       simp [cI] at h
end
end Go.Ab
