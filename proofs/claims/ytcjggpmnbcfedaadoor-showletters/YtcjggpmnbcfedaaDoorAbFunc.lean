import Derived.Test.YtcjggpmnbcfedaaDoorAbControl
import Derived.Test.YtcjggpmnbcfedaaDoorAbClone
import Derived.RangeFuncLeaves
import Derived.RangeFuncRecord
/-
  Functions: n levels of calls of the evaluator are what the model does.
-/
set_option linter.unusedVariables false
set_option linter.unusedSimpArgs false
set_option linter.unnecessarySimpa false
set_option maxRecDepth 100000
set_option maxHeartbeats 8000000
namespace Go.Ab
section
variable {P:Program} {ns:Names} {G:Gh} {w:World}
theorem l4:∀{l:List AV} {i t:Nat} {v:AV},look (bh i l) t=some v→i≤t∧l[t-i]?=some v
 | [],i,t,v,h=>by simp [bh,look] at h
 | x::l,i,t,v,h=>by
   simp only [bh,look] at h
   split at h
   · rename_i e;subst e;cases h;simp
   · rename_i hne
     obtain ⟨h1,h2⟩:=l4 h
     refine ⟨by omega,?_⟩
     rw [show t-i=(t-(i+1))+1 from by omega]
     simpa using h2
theorem yy {N:Nat} {args:List AV} {vs:List Value} (hr:ae (num ns) G args vs) (hN:args.length≤N) :
   ia (num ns) G N (bh 0 args) { tmps:=vs.toArray++Array.replicate (N-vs.toArray.size) undef,defers:=[] }:=by
 have hl:=hr.length
 refine ⟨by simp;omega,fun t x hx=>?_⟩
 obtain ⟨_,h2⟩:=l4 hx
 simp only [Nat.sub_zero] at h2
 obtain ⟨v,h3,h4⟩:=hr.get h2
 refine ⟨v,?_,h4⟩
 rw [Array.getElem?_append_left (by have:=(List.getElem?_eq_some_iff.1 h3).1;simpa using this)]
 simpa using h3
theorem kr {n0 N:Nat} {st:St} {a:Act} (hs:dt (num ns) n0 N G st a w) {F:ResultVar→Sem Value} (hF1:∀t,F (.tmp t)=pure (a.tmps.getD t undef)) (hF2:∀ad t,F (.cell ad t)=(do loadVar t (←asAddr (a.tmps.getD ad undef)))):∀{rvs:List ResultVar} {rs:List mj} {xs:List AV},bu (tN P) rvs=some rs→cE st rs=some xs →
   ∃vs,(rvs.mapM F).run P w=.ok vs w∧ae (num ns) G xs vs
 | [],rs,xs,hc,hx=>by
   simp [bu] at hc;subst hc
   simp [cE] at hx;subst hx
   exact ⟨[],by simp,by simp [ae]⟩
 | r::rvs,rs,xs,hc,hx=>by
   simp only [bu] at hc
   split at hc
   · rename_i ar ars h1 h2
     simp at hc;subst hc
     simp only [cE] at hx
     split at hx
     · rename_i v vs' g1 g2
       simp at hx;subst hx
       obtain ⟨us,k1,k2⟩:=kr hs hF1 hF2 h2 g2
       have one:∃u,(F r).run P w=.ok u w∧ah (num ns) G v u:=by
         cases r with
         | tmp t=>
           simp [tN] at h1;subst h1
           simp only [mM] at g1
           obtain ⟨u,e1,e2⟩:=hs.env.env t v g1
           exact ⟨u,by rw [hF1];simp [e1],e2⟩
         | cell ad t=>
           simp only [tN] at h1
           split at h1
           · rename_i sz ag hsz hag
             simp at h1;subst h1
             simp only [mM] at g1
             split at g1
             · rename_i d e1
               split at g1
               · rename_i cs e2
                 simp only [Option.ite_none_right_eq_some] at g1
                 obtain ⟨rfl,g1⟩:=g1
                 obtain ⟨u,f1,f2⟩:=hs.env.env _ _ e1
                 simp only [ah] at f2
                 obtain ⟨b,hp,rfl⟩:=f2
                 obtain ⟨b',hp',hblk,_⟩:=hs.inv.bp _ _ e2
                 rw [hp] at hp';cases hp'
                 obtain ⟨_,c,ty,hh,hrel⟩:=hblk
                 obtain ⟨u,q1,q2⟩:=eF (w:=w) hsz hag g1 hrel (fX hh)
                 exact ⟨u,by rw [hF2];simp [f1,asAddr,q1],q2⟩
               · cases g1
             · rename_i s e1
               split at g1
               · rename_i cs e2
                 split at g1
                 · cases g1
                 · rename_i hm
                   obtain ⟨u,f1,f2⟩:=hs.env.env _ _ e1
                   simp only [ah] at f2
                   obtain ⟨b,hp,rfl⟩:=f2
                   obtain ⟨b',hp',hblk,_⟩:=hs.inv.bD _ _ e2
                   rw [hp] at hp';cases hp'
                   obtain ⟨_,c,ty,vs,suf,hh,_,hsp,hrel⟩:=hblk.cells (by simpa using hm)
                   obtain ⟨u,q1,q2⟩:=eF (w:=w) hsz hag g1 hrel (ji hh hsp)
                   exact ⟨u,by rw [hF2];simp [f1,asAddr,q1],q2⟩
               · cases g1
             · cases g1
           · simp at h1
       obtain ⟨u,o1,o2⟩:=one
       refine ⟨u::us,?_,?_⟩
       · rw [List.mapM_cons]
         simp only [Sem.run_bind]
         rw [o1]
         simp only [Result.andThen_ok]
         rw [k1]
         rfl
       · simp only [ae];exact ⟨u,us,rfl,o2,k2⟩
     · simp at hx
   · simp at hc
theorem i9 {G':Gh} {sh:Sh} {ks:List Nat} (hle:G.le G') (hf:fY ns G G' sh ks) (hl:∀(s:Nat) (cells:List AV),sh[s]?=some (some cells)→cells.all aA=true)
   {x:AV} {v:Value} (ha:∀s∈da x,s∈ks) (h:ah (num ns) G x v):ah (num ns) G' (lf sh x) v:=by
 unfold lf
 split
 · rename_i p hp
   simp only [ah]
   exact lB hle hf hl ha hp h
 · exact h.mono hle
theorem yz {G':Gh} {sh:Sh} {ks:List Nat} (hle:G.le G') (hf:fY ns G G' sh ks) (hl:∀(s:Nat) (cells:List AV),sh[s]?=some (some cells)→cells.all aA=true)
   {x:AV} {v:Value} (ha:aA x=true→∀s∈da x,s∈ks) (h:ah (num ns) G x v):ah (num ns) G' (mq sh x) v:=by
 unfold mq
 split
 · exact h.mono hle
 · split
   · rename_i hl'
     exact i9 hle hf hl (ha hl') h
   · exact h.mono hle
theorem nf {G':Gh} {sh:Sh} {ks:List Nat} (hle:G.le G') (hf:fY ns G G' sh ks) (hl:∀(s:Nat) (cells:List AV),sh[s]?=some (some cells)→cells.all aA=true) :
   ∀{cs:List AV} {vs:List Value},(∀s∈da (.agg cs),s∈ks)→ae (num ns) G cs vs→ae (num ns) G' (cs.map (mq sh)) vs
 | [],vs,_,h=>by simpa [ae] using h
 | c::cs,vs,ha,h=>by
   simp only [ae] at h
   obtain ⟨v,r,e,e1,e2⟩:=h
   simp only [List.map_cons,ae]
   refine ⟨v,r,e,yz hle hf hl (fun hb s hs=>ha s ?_) e1,nf hle hf hl (fun s hs=>ha s ?_) e2⟩
   · simp only [da,List.flatMap_cons,List.mem_append]
     left
     cases c<;>simp_all [da,aA]
   · simp only [da,List.flatMap_cons,List.mem_append] at hs ⊢
     exact .inr hs
theorem yA {G':Gh} {sh:Sh} {ks:List Nat} (hle:G.le G') (hf:fY ns G G' sh ks) (hl:∀(s:Nat) (cells:List AV),sh[s]?=some (some cells)→cells.all aA=true)
   {x:AV} {v:Value} (ha:∀s∈da x,s∈ks) (h:ah (num ns) G x v):ah (num ns) G' (qY sh x) v:=by
 unfold qY
 split
 · exact h.mono hle
 · exact h.mono hle
 · simp only [ah] at h ⊢
   obtain ⟨vs,e,r⟩:=h
   exact ⟨vs,e,nf hle hf hl ha r⟩
 · exact i9 hle hf hl ha h
theorem i_ {G':Gh} {sh:Sh} {ks:List Nat} {F:Sh→AV→AV} (hF:∀{x:AV} {v:Value},(∀s∈da x,s∈ks)→ah (num ns) G x v→ah (num ns) G' (F sh x) v) :
   ∀{xs:List AV} {vs:List Value},(∀s∈xs.flatMap da,s∈ks)→ae (num ns) G xs vs→ae (num ns) G' (xs.map (F sh)) vs
 | [],vs,_,h=>by simpa [ae] using h
 | x::xs,vs,ha,h=>by
   simp only [ae] at h
   obtain ⟨v,r,e,e1,e2⟩:=h
   simp only [List.flatMap_cons,List.mem_append] at ha
   simp only [List.map_cons,ae]
   exact ⟨v,r,e,hF (fun s hs=>ha s (.inl hs)) e1,i_ hF (fun s hs=>ha s (.inr hs)) e2⟩
theorem tz {G':Gh} {sh:Sh} {ks:List Nat} {aw kst:Bool} (hle:G.le G') (hf:fY ns G G' sh ks) (hl:∀(s:Nat) (cells:List AV),sh[s]?=some (some cells)→cells.all aA=true)
   {xs:List AV} {vs:List Value} (ha:∀s∈xs.flatMap da,s∈ks) (h:ae (num ns) G xs vs):ae (num ns) G' (bf aw kst sh xs) vs:=by
 unfold bf
 split
 · split
   · exact ae.mono hle h
   · exact i_ (yA hle hf hl) ha h
 · exact i_ (i9 hle hf hl) ha h
theorem tA {xs:List AV} {vs:List Value} (h:ae (num ns) G xs vs):bI (num ns) G xs (if h:vs.toArray.size=1 then vs.toArray[0] else .tuple vs.toArray):=by
 unfold bI
 split
 · rename_i r
   simp only [ae] at h
   obtain ⟨v,r',e,e1,e2⟩:=h
   subst e2;subst e
   simpa using e1
 · rename_i hn
   have hl:=h.length
   rw [dif_neg]
   · exact ⟨vs,rfl,h⟩
   · intro e
     simp at e
     rw [e] at hl
     cases xs with
     | nil=>simp at hl
     | cons x xs=>
       cases xs with
       | nil=>exact hn x rfl
       | cons _ _=>simp at hl
end
mutual
theorem l5 {ρ:aX} {G G':Gh} {n:Nat} (hK:G.K.le G'.K) (hs:∀s b,s<n→G.sm s=some b→G'.sm s=some b):∀{x:AV} {v:Value},a6 x=true→aq n x=true→ah ρ G x v→ah ρ G' x v
 | .pv p,_,_,_,h=>by simp only [ah] at h ⊢;exact h.mono hK
 | .a0 s o,_,_,hr,h=>by simp [aq] at hr;simp only [ah] at h ⊢;obtain ⟨b,e,r⟩:=h;exact ⟨b,hs _ _ hr e,r⟩
 | .aU s _ n _,_,_,hr,h=>by simp [aq] at hr;simp only [ah] at h ⊢;obtain ⟨b,c,e,r⟩:=h;exact ⟨b,c,hs _ _ hr e,r⟩
 | .gm,_,_,_,h=>by simpa only [ah] using h
 | .dK s,_,_,hr,h=>by simp [aq] at hr;simp only [ah] at h ⊢;obtain ⟨b,e,r⟩:=h;exact ⟨b,hs _ _ hr e,r⟩
 | .kB ..,_,hp,_,_=>by simp [a6] at hp
 | .cz _,_,_,_,h=>by simp only [ah] at h
 | .fn g cap,_,hp,hr,h=>by
   simp only [a6] at hp
   simp only [aq] at hr
   simp only [ah] at h ⊢
   obtain ⟨f,vs,e1,e2,r⟩:=h
   exact ⟨f,vs,e1,e2,jZ hK hs hp hr r⟩
 | .un,_,hp,_,_=>by simp [a6] at hp
 | .cw _,_,_,_,h=>by simp only [ah] at h ⊢;obtain ⟨b,l,e,r⟩:=h;exact ⟨b,l,e,r.mono hK⟩
 | .own _ _,_,hp,_,_=>by simp [a6] at hp
 | .agg _,_,hp,hr,h=>by
   simp only [a6] at hp
   simp only [aq] at hr
   simp only [ah] at h ⊢
   obtain ⟨vs,e,r⟩:=h
   exact ⟨vs,e,jZ hK hs hp hr r⟩
 | .j1 _,_,hp,_,_=>by simp [a6] at hp
 | .bJ _ _,_,hp,_,_=>by simp [a6] at hp
 | .cj _,_,hp,_,_=>by simp [a6] at hp
theorem jZ {ρ:aX} {G G':Gh} {n:Nat} (hK:G.K.le G'.K) (hs:∀s b,s<n→G.sm s=some b→G'.sm s=some b):∀{xs:List AV} {vs:List Value},a6.gg xs=true→aq.bn n xs=true→ae ρ G xs vs→ae ρ G' xs vs
 | [],_,_,_,h=>by simpa only [ae] using h
 | x::xs,_,hp,hr,h=>by
   simp only [a6.gg,Bool.and_eq_true] at hp
   simp only [aq.bn,Bool.and_eq_true] at hr
   simp only [ae] at h ⊢
   obtain ⟨v,r,e,e1,e2⟩:=h
   exact ⟨v,r,e,l5 hK hs hp.1 hr.1 e1,jZ hK hs hp.2 hr.2 e2⟩
end
section
variable {P:Program} {ns:Names} {G:Gh} {w:World}
theorem l6 {ρ:aX} {G':Gh} {n:Nat} (hK:G.K.le G'.K) (hs:∀s b,s<n→G.sm s=some b→G'.sm s=some b) (ht:∀τ t,G.tk τ=some t→G'.tk τ=some t):∀{xs:List AV} {vs:List Value},dc xs=true→aq.bn n xs=true→ae ρ G xs vs→ae ρ G' xs vs
 | [],_,_,_,h=>by simpa only [ae] using h
 | x::xs,_,hp,hr,h=>by
   simp only [dc,Bool.and_eq_true] at hp
   simp only [aq.bn,Bool.and_eq_true] at hr
   simp only [ae] at h ⊢
   obtain ⟨v,r,e,e1,e2⟩:=h
   refine ⟨v,r,e,?_,l6 hK hs ht hp.2 hr.2 e2⟩
   cases x with
   | own l τ=>
     simp only [ah] at e1 ⊢
     obtain ⟨t,a1,a2,a3,a4⟩:=e1
     exact ⟨t,ht _ _ a1,a2,a3.mono hK,fun hl=>⟨(a4 hl).1,y8 (a4 hl).2 fun ⟨b,o,e,r⟩=>⟨b,o,e,Row.mono hK _ _ _ _ r⟩⟩⟩
   | _=>exact l5 hK hs (show a6 _=true from hp.1) hr.1 e1
theorem wJ {ρ:aX} {G':Gh} {n:Nat} (hK:G.K.le G'.K) (hs:∀s b,s<n→G.sm s=some b→G'.sm s=some b) (ht:∀τ t,G.tk τ=some t→G'.tk τ=some t) {x:AV} {v:Value} (hp:aY x=true) (hr:aq n x=true) (h:ah ρ G x v):ah ρ G' x v:=by
 cases x with
 | own l τ=>
   simp only [ah] at h ⊢
   obtain ⟨t,e1,e2,e3,e4⟩:=h
   exact ⟨t,ht _ _ e1,e2,e3.mono hK,fun hl=>⟨(e4 hl).1,y8 (e4 hl).2 fun ⟨b,o,e,r⟩=>⟨b,o,e,Row.mono hK _ _ _ _ r⟩⟩⟩
 | agg cs=>
   simp only [aq] at hr
   simp only [ah] at h ⊢
   obtain ⟨vs,e,r⟩:=h
   exact ⟨vs,e,l6 hK hs ht (by simpa [aY] using hp) hr r⟩
 | _=>exact l5 hK hs (show a6 _=true from hp) hr h
theorem ja {ρ:aX} {G':Gh} {n:Nat} (hK:G.K.le G'.K) (hs:∀s b,s<n→G.sm s=some b→G'.sm s=some b) (ht:∀τ t,G.tk τ=some t→G'.tk τ=some t):∀{xs:List AV} {vs:List Value},xs.all aY=true→xs.all (aq n)=true→ae ρ G xs vs→ae ρ G' xs vs
 | [],_,_,_,h=>by simpa only [ae] using h
 | x::xs,_,hp,hr,h=>by
   simp only [List.all_cons,Bool.and_eq_true] at hp hr
   simp only [ae] at h ⊢
   obtain ⟨v,r,e,e1,e2⟩:=h
   exact ⟨v,r,e,wJ hK hs ht hp.1 hr.1 e1,ja hK hs ht hp.2 hr.2 e2⟩
def Gh.bare (G:Gh):Gh:={ G with pm:=fun _=>none,role:=fun b=>match G.role b with | .gW _=>.b_ | r=>r }
theorem Inv.bare {mem:List (Nat×List AV)} {sh:Sh} {ts:al} (hi:Inv (num ns) G w mem sh ts):Inv (num ns) G.bare w [] sh ts where
 known:=hi.known
 aC:=fun b o v hk=>by
   rcases hi.aC b o v hk with h | ⟨τ,h⟩
   · exact .inl (by simp [Gh.bare,h])
   · exact .inr ⟨τ,by simp [Gh.bare,h]⟩
 fresh:=fun b hb=>by simp [Gh.bare,hi.fresh b hb]
 bp:=fun d cells h=>by simp [look] at h
 dX:=fun d b h=>by simp [Gh.bare] at h
 bD:=fun s cells hs=>by
   obtain ⟨b,e1,e2,e3,e4⟩:=hi.bD s cells hs
   obtain ⟨hr,o,hh,hrel⟩:=e2
   exact ⟨b,e1,⟨by simp [Gh.bare,hr],o,hh,hrel.to (fun _ _ _ h=>h) (fun _ e=>e) (fun _ r=>fe (G:=G) (G':=G.bare) (aF.le_refl _) (fun _ _ h=>h) (fun _ _ h=>h) (eK e3) r)⟩,e3,e4⟩
 cN:=hi.cN
 bE:=fun τ n h=>by
   obtain ⟨t,e1,e2,e3⟩:=hi.bE τ n h
   refine ⟨t,e1,e2,e3.cap,e3.zero,fun hlt=>?_⟩
   obtain ⟨b,o,c,ty,f1,f2,f3,f4,f5⟩:=e3.spare hlt
   exact ⟨b,o,c,ty,f1,by simp [Gh.bare,f2],f3,f4,f5⟩
 cY:=hi.cY
 hP:=fun b c hb=>⟨by simp [Gh.bare,(hi.hP b c hb).1],(hi.hP b c hb).2⟩
def Gh.iQ (G:Gh) (n:Nat):Gh:={ G with sm:=fun s=>if s<n then G.sm s else none }
theorem Inv.iQ {sh:Sh} {ts:al} (hi:Inv (num ns) G w [] sh ts) (n:Nat):Inv (num ns) (G.iQ n) w [] (sh.take n) ts where
 known:=hi.known
 aC:=hi.aC
 fresh:=hi.fresh
 bp:=fun d cells h=>by simp [look] at h
 dX:=hi.dX
 bD:=fun s cells hs=>by
   rw [List.getElem?_take] at hs
   split at hs
   · rename_i hlt
     obtain ⟨b,e1,e2,e3,e4⟩:=hi.bD s cells hs
     obtain ⟨hr,o,hh,hrel⟩:=e2
     exact ⟨b,by simp [Gh.iQ,hlt,e1],⟨hr,o,hh,hrel.to (fun _ _ _ h=>h) (fun _ e=>e) (fun _ r=>ja (G:=G) (G':=G.iQ n) (n:=s+1) (aF.le_refl G.K) (fun s' b' hs' h=>by simp only [Gh.iQ];rw [if_pos (by omega)];exact h) (fun _ _ h=>h) (eK e3) e4 r)⟩,e3,e4⟩
   · simp at hs
 cN:=fun s b h=>by
   simp only [Gh.iQ] at h
   split at h
   · have:=hi.cN s b h;simp;omega
   · simp at h
 bE:=fun τ n h=>by
   obtain ⟨t,e1,e2,e3⟩:=hi.bE τ n h
   exact ⟨t,e1,e2,e3.cap,e3.zero,e3.spare⟩
 cY:=hi.cY
 hP:=hi.hP
theorem Inv.shut {mem:List (Nat×List AV)} {sh:Sh} {aa:al} {D:Nat} {x:Option (List Deferred)} (hi:Inv (num ns) G w mem sh aa) (hD:w.heap[D]?=some (.deferred x)) :
   Inv (num ns) G (w.putObj D (.deferred none)) mem sh aa:=by
 have hne:∀{b:Nat} {c:Array Value} {t:TypeId},w.heap[b]?=some (.cells c t (0,0))→(w.putObj D (.deferred none)).heap[b]?=some (.cells c t (0,0)):=by
   intro b c t h
   rw [World.putObj_heap_other]
   · exact h
   · rintro rfl;rw [hD] at h;cases h
 have hsize:(w.putObj D (.deferred none)).heap.size=w.heap.size:=by simp [World.putObj]
 refine { hi with known:=?_,fresh:=?_,bp:=?_,bD:=?_,bE:=?_,hP:=?_ }
 · intro b o v hk
   have h:=hi.known b o v hk
   rw [←h]
   have:b≠D:=by rintro rfl;simp [World.cell?,hD] at h
   simp only [World.cell?,World.putObj_heap_other this]
 · intro b hb;exact hi.fresh b (by omega)
 · intro k cs hk
   obtain ⟨b,e1,⟨e2,c,t,e3,e4⟩,e5⟩:=hi.bp k cs hk
   exact ⟨b,e1,⟨e2,c,t,hne e3,e4⟩,e5⟩
 · intro k cs hk
   obtain ⟨b,e1,⟨e2,o,e3,e4⟩,e5⟩:=hi.bD k cs hk
   refine ⟨b,e1,⟨e2,o,?_,e4⟩,e5⟩
   rw [World.putObj_heap_other]
   · exact e3
   · rintro rfl
     rw [hD] at e3;cases e3
     rcases e4 with ⟨_,_,_,_,h,_⟩ | ⟨_,_,_,h,_⟩<;>cases h
 · intro τ n hn
   obtain ⟨t,e1,e2,e3⟩:=hi.bE τ n hn
   refine ⟨t,e1,e2,e3.cap,e3.zero,fun hlt=>?_⟩
   obtain ⟨b,o,c,ty,f1,f2,f3,f4,f5⟩:=e3.spare hlt
   exact ⟨b,o,c,ty,f1,f2,hne f3,f4,f5⟩
 · intro b c hb
   obtain ⟨h1,t',z,h2⟩:=hi.hP b c hb
   refine ⟨h1,t',z,?_⟩
   rw [World.putObj_heap_other]
   · exact h2
   · rintro rfl;rw [hD] at h2;cases h2
theorem aN.shut {G':Gh} {w':World} {D:Nat} (he:aN G w G' w') (hD:w.heap.size≤D):aN G w G' (w'.putObj D (.deferred none)):=
 { he with
   size:=by simpa [World.putObj] using he.size
   os:=by simpa [World.putObj] using he.os
   tape:=by simpa [World.putObj] using he.tape
   output:=by simpa [World.putObj] using he.output
   b_:=fun b hb hr=>by
     obtain ⟨h1,h2⟩:=he.b_ b hb hr
     exact ⟨h1,by rw [World.putObj_heap_other (by omega)];exact h2⟩ }
theorem ku {fn:Func} {tmps:Array Value} {R:Ending→World→Prop} {mem:List (Nat×List AV)} {sh:Sh} {aa:al} {G':Gh}:∀(Ds:List Nat) (w':World),Inv (num ns) G' w' mem sh aa→aN G w G' w'→Ds.Nodup →
   (∀D∈Ds,w.heap.size≤D∧w'.heap[D]?=some (.deferred (some []))) →
   (∀w'',Inv (num ns) G' w'' mem sh aa→aN G w G' w''→∃v,(results fn tmps).run P w''=.ok v w''∧R (.returned v) w'') →
   LeavesInM Fence.wide 0 P fn tmps R (Ds.map (fun D=>{ target:=.collected D,args:=#[] })) .returning w'
 | [],w',hi,he,_,_,h=>h w' hi he
 | D::Ds,w',hi,he,hn,hD,h=>by
   obtain ⟨h1,h2⟩:=hD D (by simp)
   refine ⟨by simp,.inl ⟨D,_,rfl,run_takeDeferred h2,?_⟩⟩
   simp only [List.nodup_cons] at hn
   refine ku Ds _ (hi.shut h2) (he.shut h1) hn.2 (fun E hE=>?_) h
   obtain ⟨g1,g2⟩:=hD E (by simp [hE])
   refine ⟨g1,?_⟩
   rw [World.putObj_heap_other]
   · exact g2
   · rintro rfl;exact hn.1 hE
theorem l7 (hm:P.follows .mixedOrders=true) (hB:dS P ns) (hBk:kS P ns) {orc:cZ} (horc:ej P ns orc) {A:hO} {k f:Nat} {aw:Bool} {fn:Func} {af:aK} (hf:P.funcs[f]?=some fn) (hc:lg P ns A fn=some af)
   {args rs:List AV} {vs:List Value} {sh sh':Sh} {ts ts':al} (hi:Inv (num ns) G w [] sh ts) (hr:ae (num ns) G args vs) (hN:args.length≤af.ntmps) (h:bo orc k aw af args sh ts=some (rs,sh',ts')) :
   (Calls P f vs.toArray w fun e w'=>∃v G',e=.returned v∧bI (num ns) G' rs v∧Inv (num ns) G' w' [] sh' ts'∧aN G w G' w')∧rs.all aY=true:=by
 unfold lg at hc
 split at hc
 · rename_i c ars qG dJ
   simp only [Option.ite_none_right_eq_some,Option.map_eq_some_iff] at hc
   obtain ⟨_,ac,hcc,rfl⟩:=hc
   unfold bo at h
   split at h
   · rename_i e st hev
     simp only [Option.ite_none_right_eq_some] at h
     obtain ⟨he,h⟩:=h
     split at h
     · rename_i xs hxs
       simp only [Option.ite_none_right_eq_some] at h
       obtain ⟨hpass,h⟩:=h
       let kst:=A.ks
       let shk:Sh:=cU aw kst st.sh xs
       let Ai:Sh:=if (bf aw kst st.sh xs).all (aq sh.length)=true then shk.take sh.length else shk
       have h:some ((bR st.aa (bf aw kst st.sh xs) Ai).1,(bR st.aa (bf aw kst st.sh xs) Ai).2.1,(bR st.aa (bf aw kst st.sh xs) Ai).2.2.2)=some (rs,sh',ts'):=h
       simp only [Option.some.injEq,Prod.mk.injEq] at h
       obtain ⟨Cu,hsh,hts⟩:=h
       have hpass':rs.all aY=true:=by rw [←Cu];exact ek hpass
       refine ⟨?_,hpass'⟩
       refine callsIn_wide (n:=0).1 (callsIn_of_wp_marks hf qG trivial ?_ rfl)
       have hs0:dt (num ns) w.heap.size fn.ntmps G { env:=bh 0 args,mem:=[],sh,aa:=ts } { tmps:=vs.toArray++Array.replicate (fn.ntmps-vs.toArray.size) undef,defers:=[] } w:=⟨yy hr hN,hi,Nat.le_refl _,[],rfl,by simp,by simp⟩
       refine dV (ro:=none) hm hB horc hBk hcc (.inl rfl) hev hs0 fun G' a' w1 hs1 hevo1=>?_
       have key:LeavesInM Fence.wide 0 P fn a'.tmps (fun e w'=>∃v G',e=.returned v∧bI (num ns) G' rs v∧Inv (num ns) G' w' [] sh' ts'∧aN G w G' w') a'.defers .returning w1:=by
         obtain ⟨m0,Ds,m1,m2,m3⟩:=hs1.marks
         rw [m1]
         refine ku Ds w1 hs1.inv hevo1 m2 (fun D hD=>⟨(m3 D hD).1,(m3 D hD).2.2.2⟩) ?_
         intro w' hi' hevo
         have hs':dt (num ns) w.heap.size fn.ntmps G' st { tmps:=a'.tmps,defers:=[] } w':=⟨⟨hs1.env.size,hs1.env.env⟩,hi',hevo.size,[],rfl,by simp,by simp⟩
         obtain ⟨us,u1,u2⟩:=kr (P:=P) hs' (F:=fun | .tmp t=>pure (a'.tmps.getD t undef) | .cell ad t=>do loadVar t (←asAddr (a'.tmps.getD ad undef))) (fun _=>rfl) (fun _ _=>rfl) dJ hxs
         refine ⟨(if h:us.toArray.size=1 then us.toArray[0] else .tuple us.toArray),?_,?_⟩
         · unfold results
           rw [Array.mapM_eq_mapM_toList]
           simp only [Sem.run_bind,Sem.run_map]
           erw [u1]
           rfl
         · obtain ⟨G1,k1,k2,k3,hout⟩:∃G1,Inv (num ns) G1 w' st.mem shk st.aa∧G'.le G1∧aN G' w' G1 w'∧ae (num ns) G1 (bf aw kst st.sh xs) us:=by
             by_cases hkk:(aw && kst)=true
             · refine ⟨G',?_,Gh.le_refl _,aN.refl _ _,?_⟩
               · have:shk=st.sh:=by simp only [shk,cU,hkk,if_true]
                 rw [this];exact hs'.inv
               · have:bf aw kst st.sh xs=xs:=by
                   simp only [Bool.and_eq_true] at hkk
                   simp only [bf,hkk.1,hkk.2,if_true]
                 rw [this];exact u2
             · obtain ⟨G1,k1,k2,k3,k4,k5⟩:=Inv.kill (xs.flatMap da) hs'.inv
               refine ⟨G1,?_,k2,k3,tz (aw:=aw) k2 k4 hs'.inv.lC (fun s hs=>hs) u2⟩
               have:shk=cm st.sh xs:=by
                 simp only [shk,cU]
                 rw [if_neg hkk]
               rw [this];exact k1
           have hbare:=fe (G:=G1) (G':=G1.bare) (aF.le_refl _) (fun _ _ h=>h) (fun _ _ h=>h) hpass hout
           have k1b:=k1.bare
           have hevo0:=hevo.trans k3
           obtain ⟨G2,i2,r2,e2⟩:∃G2,Inv (num ns) G2 w' [] Ai st.aa∧ae (num ns) G2 (bf aw kst st.sh xs) us∧aN G w G2 w':=by
             have bareEvo:aN G w G1.bare w':={
               size:=hevo0.size,os:=hevo0.os,tape:=hevo0.tape,output:=hevo0.output,K:=hevo0.K,sm:=hevo0.sm,
               b_:=fun b hb hr=>⟨by simp [Gh.bare,(hevo0.b_ b hb hr).1],(hevo0.b_ b hb hr).2⟩
               ew:=fun b τ hb hr=>by
                 rcases hevo0.ew b τ hb hr with h | ⟨τ',h⟩
                 · exact .inl (by simp [Gh.bare,h])
                 · exact .inr ⟨τ',by simp [Gh.bare,h]⟩
               dP:=hevo0.dP }
             by_cases href:(bf aw kst st.sh xs).all (aq sh.length)=true
             · have hshd:Ai=shk.take sh.length:=if_pos href
               rw [hshd]
               refine ⟨G1.bare.iQ sh.length,k1b.iQ sh.length,ja (G:=G1.bare) (G':=G1.bare.iQ sh.length) (n:=sh.length) (aF.le_refl _) (fun s b hs h=>by simp only [Gh.iQ];rw [if_pos hs];exact h) (fun _ _ h=>h) hpass href hbare,?_⟩
               exact { size:=bareEvo.size,os:=bareEvo.os,tape:=bareEvo.tape,output:=bareEvo.output,K:=bareEvo.K,
                       sm:=fun s b hsb=>by
                         have:=hi.cN s b hsb
                         show (if s<sh.length then G1.sm s else none)=some b
                         rw [if_pos this];exact bareEvo.sm s b hsb
                       b_:=bareEvo.b_,ew:=bareEvo.ew,dP:=bareEvo.dP }
             · have hshd:Ai=shk:=if_neg href
               rw [hshd]
               exact ⟨G1.bare,k1b,hbare,bareEvo⟩
           obtain ⟨m,tks,hNS,hto,hrel⟩:=i2.w7 hpass r2
           rw [Cu] at hrel
           rw [hsh,hts] at hto
           exact ⟨_,G2.to m tks,rfl,tA hrel,hto,e2.to m tks⟩
       cases e with
       | normal=>exact key
       | ret=>exact key
       | exit id=>simp at he
     · simp at h
   · simp at h
 · simp at hc
theorem mK {orc:cZ} {k:Nat} {aw:Bool} {af:aK} {args rs:List AV} {sh sh':Sh} {ts ts':al} (h:bo orc k aw af args sh ts=some (rs,sh',ts')):rs.all aY=true:=by
 unfold bo at h
 split at h
 · split at h
   · split at h
     · simp only [Option.ite_none_right_eq_some] at h
       obtain ⟨hp,h⟩:=h
       have e:=congrArg Prod.fst (Option.some.inj h)
       dsimp only at e
       rw [←e];exact ek hp
     · simp at h
   · simp at h
 · simp at h
structure Impl (P:Program) (ns:Names) (AP:Nat→Option aK):Prop where
 mixed:P.follows .mixedOrders=true
 funcs:∀f g,ns.of f=some g→(∃fn A af,P.funcs[f]?=some fn∧lg P ns A fn=some af∧AP g=some af) ∨
   ((∃fn b,P.funcs[f]?=some fn∧fn.body=some b∧fn.name ≠ "runtime.NumGoroutine") ∧
     (AP g=none∨∃af pf,AP g=some af∧af.kX=some pf∧af.body=.exit 0∧∀orc,ej P ns orc→∀cv rs,pf.f orc.p cv=some rs→pw P ns f cv rs))
 tL:kS P ns
 Bg:∀g sz bytes f,look ns.cl g=some (sz,bytes)→ns.of f=some g→Nonempty (l0 P ns f sz bytes)
theorem Impl.yB {AP:Nat→Option aK} (h:Impl P ns AP):dS P ns:=by
 intro f g hg
 rcases h.funcs f g hg with ⟨fn,A,af,h1,h2,_⟩ | ⟨⟨fn,b,h1,h2,h3⟩,_⟩
 · unfold lg at h2
   split at h2
   · rename_i b rs hb _
     simp only [Option.ite_none_right_eq_some] at h2
     obtain ⟨⟨_,hn⟩,_⟩:=h2
     exact ⟨fn,b,h1,hb,by simpa using hn⟩
   · simp at h2
 · exact ⟨fn,b,h1,h2,h3⟩
theorem tB {A:hO} {fn:Func} {af:aK} (h:lg P ns A fn=some af):af.kX=none:=by
 unfold lg at h
 split at h
 · simp only [Option.ite_none_right_eq_some,Option.map_eq_some_iff] at h
   obtain ⟨_,_,_,rfl⟩:=h
   rfl
 · simp at h
theorem l8:∀{rs:List AV} {ps:List PV},dD rs=some ps→rs=ps.map .pv
 | [],ps,h=>by simp [dD] at h;subst h;rfl
 | x::rs,ps,h=>by
   cases x with
   | pv p=>
     simp only [dD,Option.map_eq_some_iff] at h
     obtain ⟨qs,h1,rfl⟩:=h
     simp [l8 h1]
   | _=>simp [dD] at h
theorem kx:∀{ps:List PV} {vs:List Value},ae (num ns) G (ps.map .pv) vs→fl G.K ps vs
 | [],vs,h=>by simp only [List.map_nil,ae] at h;exact h
 | p::ps,vs,h=>by
   simp only [List.map_cons,ae] at h
   obtain ⟨v,r,e,e1,e2⟩:=h
   simp only [ah] at e1
   exact ⟨v,r,e,e1,kx e2⟩
theorem wK {ps:List PV} {v:Value} (h:bI (num ns) G (ps.map .pv) v):e_ G.K ps v:=by
 unfold e_
 split
 · rename_i p
   simp only [List.map_cons,List.map_nil,bI,ah] at h
   exact h
 · rename_i hn
   unfold bI at h
   split at h
   · rename_i r e
     cases ps with
     | nil=>simp at e
     | cons q qs=>
       cases qs with
       | nil=>exact absurd rfl (hn q)
       | cons _ _=>simp at e
   · obtain ⟨vs,e,h⟩:=h
     exact ⟨vs,e,kx h⟩
theorem ng {AP:Nat→Option aK} (hI:Impl P ns AP) (k:Nat):∀n,ej P ns (run AP k n)
 | 0=>⟨fun g f cv rs _ h=>by simp [run] at h,fun g f args ts rs sh sh' ts' _ _ h=>by simp [run] at h,fun g sz by_ f h1 h2=>(hI.Bg g sz by_ f h1 h2).elim qJ⟩
 | n+1=>by
   have ih:=ng hI k n
   refine ⟨fun g f cv rs hg h=>?_,fun g f args ts rs sh sh' ts' hg hp h=>?_,ih.c⟩
   · rcases hI.funcs f g hg with ⟨fn,A,af,h1,h2,h3⟩ | ⟨_,h3 | ⟨af,pf,h3,h4,_,h5⟩⟩
     · simp only [run,h3,tB h2,Option.ite_none_right_eq_some] at h
       obtain ⟨⟨_,hN⟩,h⟩:=h
       split at h
       · rename_i xs x2 hb
         obtain ⟨sh',ts'⟩:=x2
         have hxs:=l8 h
         subst hxs
         intro K w vs hpin hK hr
         let G0:Gh:={ K,role:=fun _=>.b_,pm:=fun _=>none,sm:=fun _=>none,tk:=fun _=>none }
         have hi:Inv (num ns) G0 w [] [] []:={
           known:=hK,aC:=fun _ _ _ _=>.inl rfl,fresh:=fun _ _=>rfl,bp:=fun d c h=>by simp [look] at h,dX:=fun d b h=>by simp [G0] at h,
           bD:=fun s c h=>by simp at h,cN:=fun s b h=>by simp [G0] at h,bE:=fun τ n h=>by simp at h,cY:=fun τ t h=>by simp [G0] at h,hP:=fun b c hb=>⟨rfl,hpin b c hb⟩ }
         have hC:=(l7 hI.mixed hI.yB hI.tL ih h1 h2 hi (dw (ρ:=num ns) (G:=G0) hr) (by simpa using hN) hb).1
         refine hC.mono ?_
         rintro e w' ⟨v,G',rfl,dJ,hi',hevo⟩
         refine ⟨v,G'.K,rfl,wK dJ,hevo.K,fun b o u hb hk=>hevo.dP b o u hb rfl hk,hi'.known,⟨hevo.os,hevo.tape,hevo.output,hevo.size,fun b hb=>(hevo.b_ b hb rfl).2⟩⟩
       · simp at h
     · simp only [run,h3] at h;cases h
     · simp only [run,h3,h4] at h
       exact h5 _ ih _ _ h
   · rcases hI.funcs f g hg with ⟨fn,A,af,h1,h2,h3⟩ | ⟨_,h3 | ⟨af,pf,h3,_,h4,_⟩⟩
     · simp only [run,h3,Option.ite_none_right_eq_some] at h
       obtain ⟨hN,h⟩:=h
       exact ⟨fun G w vs hi hr=>(l7 hI.mixed hI.yB hI.tL ih h1 h2 hi hr hN h).1,mK h⟩
     · simp only [run,h3] at h;cases h
     · simp only [run,h3,Option.ite_none_right_eq_some] at h
       obtain ⟨_,h⟩:=h
       unfold bo at h
       rw [h4] at h
       simp [bB] at h
end
end Go.Ab
