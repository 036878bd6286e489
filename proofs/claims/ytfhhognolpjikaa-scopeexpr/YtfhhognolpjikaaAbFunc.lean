import Derived.Test.YtfhhognolpjikaaAbControl
import Derived.Test.YtfhhognolpjikaaAbClone
import Derived.RangeFuncLeaves
import Derived.RangeFuncRecord
/-
  Functions: n levels of calls of the evaluator are what the model does.
-/
set_option linter.unusedVariables false
set_option linter.unusedSimpArgs false
set_option maxRecDepth 100000
set_option maxHeartbeats 8000000
namespace Go.Ab
section
variable {P:Program} {ns:Names} {G:Gh} {w:World}
theorem nA:∀{l:List AV} {i t:Nat} {v:AV},look (bP i l) t=some v→i≤t∧l[t-i]?=some v
 | [],i,t,v,h=>by simp [bP,look] at h
 | x::l,i,t,v,h=>by
   simp only [bP,look] at h
   split at h
   · rename_i e;subst e;cases h;simp
   · rename_i hne
     obtain ⟨h1,h2⟩:=nA h
     refine ⟨by omega,?_⟩
     rw [show t-i=(t-(i+1))+1 from by omega]
     simpa using h2
theorem Cz {N:Nat} {args:List AV} {vs:List Value} (hr:al (num ns) G args vs) (hN:args.length≤N) :
   iY (num ns) G N (bP 0 args) { tmps:=vs.toArray++Array.replicate (N-vs.toArray.size) undef,defers:=[] }:=by
 have hl:=hr.length
 refine ⟨by simp;omega,fun t x hx=>?_⟩
 obtain ⟨_,h2⟩:=nA hx
 simp only [Nat.sub_zero] at h2
 obtain ⟨v,h3,h4⟩:=hr.get h2
 refine ⟨v,?_,h4⟩
 rw [Array.getElem?_append_left (by have:=(List.getElem?_eq_some_iff.1 h3).1;simpa using this)]
 simpa using h3
theorem mf {n0 N:Nat} {st:St} {a:Act} (hs:fG (num ns) n0 N G st a w) {F:ResultVar→Sem Value} (hF1:∀t,F (.tmp t)=pure (a.tmps.getD t undef)) (hF2:∀ad t,F (.cell ad t)=(do loadVar t (←asAddr (a.tmps.getD ad undef)))):∀{rvs:List ResultVar} {rs:List mH} {xs:List AV},cX (w9 P) rvs=some rs→dB st rs=some xs →
   ∃vs,(rvs.mapM F).run P w=.ok vs w∧al (num ns) G xs vs
 | [],rs,xs,hc,hx=>by
   simp [cX] at hc;subst hc
   simp [dB] at hx;subst hx
   exact ⟨[],by simp,by simp [al]⟩
 | r::rvs,rs,xs,hc,hx=>by
   simp only [cX] at hc
   split at hc
   · rename_i ar ars h1 h2
     simp at hc;subst hc
     simp only [dB] at hx
     split at hx
     · rename_i v vs' g1 g2
       simp at hx;subst hx
       obtain ⟨us,k1,k2⟩:=mf hs hF1 hF2 h2 g2
       have one:∃u,(F r).run P w=.ok u w∧aq (num ns) G v u:=by
         cases r with
         | tmp t=>
           simp [w9] at h1;subst h1
           simp only [lE] at g1
           obtain ⟨u,e1,e2⟩:=hs.env.env t v g1
           exact ⟨u,by rw [hF1];simp [e1],e2⟩
         | cell ad t=>
           simp only [w9] at h1
           split at h1
           · rename_i sz ag hsz hag
             simp at h1;subst h1
             simp only [lE] at g1
             split at g1
             · rename_i d e1
               split at g1
               · rename_i cs e2
                 simp only [Option.ite_none_right_eq_some] at g1
                 obtain ⟨rfl,g1⟩:=g1
                 obtain ⟨u,f1,f2⟩:=hs.env.env _ _ e1
                 simp only [aq] at f2
                 obtain ⟨b,hp,rfl⟩:=f2
                 obtain ⟨b',hp',hblk,_⟩:=hs.inv.cm _ _ e2
                 rw [hp] at hp';cases hp'
                 obtain ⟨_,c,ty,hh,hrel⟩:=hblk
                 obtain ⟨u,q1,q2⟩:=gf (w:=w) hsz hag g1 hrel (gY hh)
                 exact ⟨u,by rw [hF2];simp [f1,asAddr,q1],q2⟩
               · cases g1
             · rename_i s e1
               split at g1
               · rename_i cs e2
                 split at g1
                 · cases g1
                 · rename_i hm
                   obtain ⟨u,f1,f2⟩:=hs.env.env _ _ e1
                   simp only [aq] at f2
                   obtain ⟨b,hp,rfl⟩:=f2
                   obtain ⟨b',hp',hblk,_⟩:=hs.inv.cY _ _ e2
                   rw [hp] at hp';cases hp'
                   obtain ⟨_,c,ty,vs,suf,hh,_,hsp,hrel⟩:=hblk.cells (by simpa using hm)
                   obtain ⟨u,q1,q2⟩:=gf (w:=w) hsz hag g1 hrel (ko hh hsp)
                   exact ⟨u,by rw [hF2];simp [f1,asAddr,q1],q2⟩
               · cases g1
             · cases g1
           · simp at h1
       obtain ⟨u,o1,o2⟩:=one
       refine ⟨u::us,?_,?_⟩
       · rw [List.mapM_cons]
         simp only [Sem.run_bind]
         rw [o1]
         simp only [Result.andThen_ok]
         rw [k1]
         rfl
       · simp only [al];exact ⟨u,us,rfl,o2,k2⟩
     · simp at hx
   · simp at hc
theorem kd {G':Gh} {sh:Sh} {ks:List Nat} (hle:G.le G') (hf:gZ ns G G' sh ks) (hl:∀(s:Nat) (cells:List AV),sh[s]?=some (some cells)→cells.all aP=true)
   {x:AV} {v:Value} (ha:∀s∈er x,s∈ks) (h:aq (num ns) G x v):aq (num ns) G' (mM sh x) v:=by
 unfold mM
 split
 · rename_i p hp
   simp only [aq]
   exact mW hle hf hl ha hp h
 · exact h.mono hle
theorem CA {G':Gh} {sh:Sh} {ks:List Nat} (hle:G.le G') (hf:gZ ns G G' sh ks) (hl:∀(s:Nat) (cells:List AV),sh[s]?=some (some cells)→cells.all aP=true)
   {x:AV} {v:Value} (ha:aP x=true→∀s∈er x,s∈ks) (h:aq (num ns) G x v):aq (num ns) G' (jT sh x) v:=by
 unfold jT
 split
 · exact h.mono hle
 · split
   · rename_i hl'
     exact kd hle hf hl (ha hl') h
   · exact h.mono hle
theorem oU {G':Gh} {sh:Sh} {ks:List Nat} (hle:G.le G') (hf:gZ ns G G' sh ks) (hl:∀(s:Nat) (cells:List AV),sh[s]?=some (some cells)→cells.all aP=true) :
   ∀{cs:List AV} {vs:List Value},(∀s∈er (.agg cs),s∈ks)→al (num ns) G cs vs→al (num ns) G' (cs.map (jT sh)) vs
 | [],vs,_,h=>by simpa [al] using h
 | c::cs,vs,ha,h=>by
   simp only [al] at h
   obtain ⟨v,r,e,e1,e2⟩:=h
   simp only [List.map_cons,al]
   refine ⟨v,r,e,CA hle hf hl (fun hb s hs=>ha s ?_) e1,oU hle hf hl (fun s hs=>ha s ?_) e2⟩
   · simp only [er,List.flatMap_cons,List.mem_append]
     left
     cases c<;>simp_all [er,aP]
   · simp only [er,List.flatMap_cons,List.mem_append] at hs ⊢
     exact .inr hs
theorem CB {G':Gh} {sh:Sh} {ks:List Nat} (hle:G.le G') (hf:gZ ns G G' sh ks) (hl:∀(s:Nat) (cells:List AV),sh[s]?=some (some cells)→cells.all aP=true)
   {x:AV} {v:Value} (ha:∀s∈er x,s∈ks) (h:aq (num ns) G x v):aq (num ns) G' (kY sh x) v:=by
 unfold kY
 split
 · exact h.mono hle
 · exact h.mono hle
 · simp only [aq] at h ⊢
   obtain ⟨vs,e,r⟩:=h
   exact ⟨vs,e,oU hle hf hl ha r⟩
 · exact kd hle hf hl ha h
theorem ke {G':Gh} {sh:Sh} {ks:List Nat} {F:Sh→AV→AV} (hF:∀{x:AV} {v:Value},(∀s∈er x,s∈ks)→aq (num ns) G x v→aq (num ns) G' (F sh x) v) :
   ∀{xs:List AV} {vs:List Value},(∀s∈xs.flatMap er,s∈ks)→al (num ns) G xs vs→al (num ns) G' (xs.map (F sh)) vs
 | [],vs,_,h=>by simpa [al] using h
 | x::xs,vs,ha,h=>by
   simp only [al] at h
   obtain ⟨v,r,e,e1,e2⟩:=h
   simp only [List.flatMap_cons,List.mem_append] at ha
   simp only [List.map_cons,al]
   exact ⟨v,r,e,hF (fun s hs=>ha s (.inl hs)) e1,ke hF (fun s hs=>ha s (.inr hs)) e2⟩
theorem wN {G':Gh} {sh:Sh} {ks:List Nat} {aM kst:Bool} (hle:G.le G') (hf:gZ ns G G' sh ks) (hl:∀(s:Nat) (cells:List AV),sh[s]?=some (some cells)→cells.all aP=true)
   {xs:List AV} {vs:List Value} (ha:∀s∈xs.flatMap er,s∈ks) (h:al (num ns) G xs vs):al (num ns) G' (bU aM kst sh xs) vs:=by
 unfold bU
 split
 · split
   · exact al.mono hle h
   · exact ke (CB hle hf hl) ha h
 · exact ke (kd hle hf hl) ha h
theorem wO {xs:List AV} {vs:List Value} (h:al (num ns) G xs vs):cv (num ns) G xs (if h:vs.toArray.size=1 then vs.toArray[0] else .tuple vs.toArray):=by
 unfold cv
 split
 · rename_i r
   simp only [al] at h
   obtain ⟨v,r',e,e1,e2⟩:=h
   subst e2;subst e
   simpa using e1
 · rename_i hn
   have hl:=h.length
   rw [dif_neg]
   · exact ⟨vs,rfl,h⟩
   · intro e
     simp at e
     rw [e] at hl
     cases xs with
     | nil=>simp at hl
     | cons x xs=>
       cases xs with
       | nil=>exact hn x rfl
       | cons _ _=>simp at hl
end
mutual
theorem nB {ρ:bI} {G G':Gh} {n:Nat} (hK:G.K.le G'.K) (hs:∀s b,s<n→G.sm s=some b→G'.sm s=some b):∀{x:AV} {v:Value},br x=true→az n x=true→aq ρ G x v→aq ρ G' x v
 | .pv p,_,_,_,h=>by simp only [aq] at h ⊢;exact h.mono hK
 | .ba s o,_,_,hr,h=>by simp [az] at hr;simp only [aq] at h ⊢;obtain ⟨b,e,r⟩:=h;exact ⟨b,hs _ _ hr e,r⟩
 | .bd s _ n _,_,_,hr,h=>by simp [az] at hr;simp only [aq] at h ⊢;obtain ⟨b,c,e,r⟩:=h;exact ⟨b,c,hs _ _ hr e,r⟩
 | .cM,_,_,_,h=>by simpa only [aq] using h
 | .ck s,_,_,hr,h=>by simp [az] at hr;simp only [aq] at h ⊢;obtain ⟨b,e,r⟩:=h;exact ⟨b,hs _ _ hr e,r⟩
 | .jS ..,_,hp,_,_=>by simp [br] at hp
 | .da _,_,_,_,h=>by simp only [aq] at h
 | .fn g cap,_,hp,hr,h=>by
   simp only [br] at hp
   simp only [az] at hr
   simp only [aq] at h ⊢
   obtain ⟨f,vs,e1,e2,r⟩:=h
   exact ⟨f,vs,e1,e2,lx hK hs hp hr r⟩
 | .un,_,hp,_,_=>by simp [br] at hp
 | .bR _,_,_,_,h=>by simp only [aq] at h ⊢;obtain ⟨b,l,e,r⟩:=h;exact ⟨b,l,e,r.mono hK⟩
 | .own _ _,_,hp,_,_=>by simp [br] at hp
 | .agg _,_,hp,hr,h=>by
   simp only [br] at hp
   simp only [az] at hr
   simp only [aq] at h ⊢
   obtain ⟨vs,e,r⟩:=h
   exact ⟨vs,e,lx hK hs hp hr r⟩
 | .jH _,_,hp,_,_=>by simp [br] at hp
 | .aT _ _,_,hp,_,_=>by simp [br] at hp
 | .cQ _,_,hp,_,_=>by simp [br] at hp
theorem lx {ρ:bI} {G G':Gh} {n:Nat} (hK:G.K.le G'.K) (hs:∀s b,s<n→G.sm s=some b→G'.sm s=some b):∀{xs:List AV} {vs:List Value},br.fb xs=true→az.bZ n xs=true→al ρ G xs vs→al ρ G' xs vs
 | [],_,_,_,h=>by simpa only [al] using h
 | x::xs,_,hp,hr,h=>by
   simp only [br.fb,Bool.and_eq_true] at hp
   simp only [az.bZ,Bool.and_eq_true] at hr
   simp only [al] at h ⊢
   obtain ⟨v,r,e,e1,e2⟩:=h
   exact ⟨v,r,e,nB hK hs hp.1 hr.1 e1,lx hK hs hp.2 hr.2 e2⟩
end
section
variable {P:Program} {ns:Names} {G:Gh} {w:World}
theorem nC {ρ:bI} {G':Gh} {n:Nat} (hK:G.K.le G'.K) (hs:∀s b,s<n→G.sm s=some b→G'.sm s=some b) (ht:∀τ t,G.tk τ=some t→G'.tk τ=some t):∀{xs:List AV} {vs:List Value},d5 xs=true→az.bZ n xs=true→al ρ G xs vs→al ρ G' xs vs
 | [],_,_,_,h=>by simpa only [al] using h
 | x::xs,_,hp,hr,h=>by
   simp only [d5,Bool.and_eq_true] at hp
   simp only [az.bZ,Bool.and_eq_true] at hr
   simp only [al] at h ⊢
   obtain ⟨v,r,e,e1,e2⟩:=h
   refine ⟨v,r,e,?_,nC hK hs ht hp.2 hr.2 e2⟩
   cases x with
   | own l τ=>
     simp only [aq] at e1 ⊢
     obtain ⟨t,a1,a2,a3,a4⟩:=e1
     exact ⟨t,ht _ _ a1,a2,a3.mono hK,fun hl=>⟨(a4 hl).1,Dg (a4 hl).2 fun ⟨b,o,e,r⟩=>⟨b,o,e,Row.mono hK _ _ _ _ r⟩⟩⟩
   | _=>exact nB hK hs (show br _=true from hp.1) hr.1 e1
theorem Aw {ρ:bI} {G':Gh} {n:Nat} (hK:G.K.le G'.K) (hs:∀s b,s<n→G.sm s=some b→G'.sm s=some b) (ht:∀τ t,G.tk τ=some t→G'.tk τ=some t) {x:AV} {v:Value} (hp:bD x=true) (hr:az n x=true) (h:aq ρ G x v):aq ρ G' x v:=by
 cases x with
 | own l τ=>
   simp only [aq] at h ⊢
   obtain ⟨t,e1,e2,e3,e4⟩:=h
   exact ⟨t,ht _ _ e1,e2,e3.mono hK,fun hl=>⟨(e4 hl).1,Dg (e4 hl).2 fun ⟨b,o,e,r⟩=>⟨b,o,e,Row.mono hK _ _ _ _ r⟩⟩⟩
 | agg cs=>
   simp only [az] at hr
   simp only [aq] at h ⊢
   obtain ⟨vs,e,r⟩:=h
   exact ⟨vs,e,nC hK hs ht (by simpa [bD] using hp) hr r⟩
 | _=>exact nB hK hs (show br _=true from hp) hr h
theorem kf {ρ:bI} {G':Gh} {n:Nat} (hK:G.K.le G'.K) (hs:∀s b,s<n→G.sm s=some b→G'.sm s=some b) (ht:∀τ t,G.tk τ=some t→G'.tk τ=some t):∀{xs:List AV} {vs:List Value},xs.all bD=true→xs.all (az n)=true→al ρ G xs vs→al ρ G' xs vs
 | [],_,_,_,h=>by simpa only [al] using h
 | x::xs,_,hp,hr,h=>by
   simp only [List.all_cons,Bool.and_eq_true] at hp hr
   simp only [al] at h ⊢
   obtain ⟨v,r,e,e1,e2⟩:=h
   exact ⟨v,r,e,Aw hK hs ht hp.1 hr.1 e1,kf hK hs ht hp.2 hr.2 e2⟩
def Gh.bare (G:Gh):Gh:={ G with pm:=fun _=>none,role:=fun b=>match G.role b with | .km _=>.dp | r=>r }
theorem Inv.bare {mem:List (Nat×List AV)} {sh:Sh} {ts:au} (hi:Inv (num ns) G w mem sh ts):Inv (num ns) G.bare w [] sh ts where
 known:=hi.known
 aY:=fun b o v hk=>by
   rcases hi.aY b o v hk with h | ⟨τ,h⟩
   · exact .inl (by simp [Gh.bare,h])
   · exact .inr ⟨τ,by simp [Gh.bare,h]⟩
 fresh:=fun b hb=>by simp [Gh.bare,hi.fresh b hb]
 cm:=fun d cells h=>by simp [look] at h
 fp:=fun d b h=>by simp [Gh.bare] at h
 cY:=fun s cells hs=>by
   obtain ⟨b,e1,e2,e3,e4⟩:=hi.cY s cells hs
   obtain ⟨hr,o,hh,hrel⟩:=e2
   exact ⟨b,e1,⟨by simp [Gh.bare,hr],o,hh,hrel.to (fun _ _ _ h=>h) (fun _ e=>e) (fun _ r=>gD (G:=G) (G':=G.bare) (bf.le_refl _) (fun _ _ h=>h) (fun _ _ h=>h) (gj e3) r)⟩,e3,e4⟩
 ek:=hi.ek
 ct:=fun τ n h=>by
   obtain ⟨t,e1,e2,e3⟩:=hi.ct τ n h
   refine ⟨t,e1,e2,e3.cap,e3.zero,fun hlt=>?_⟩
   obtain ⟨b,o,c,ty,f1,f2,f3,f4,f5⟩:=e3.spare hlt
   exact ⟨b,o,c,ty,f1,by simp [Gh.bare,f2],f3,f4,f5⟩
 d_:=hi.d_
def Gh.jO (G:Gh) (n:Nat):Gh:={ G with sm:=fun s=>if s<n then G.sm s else none }
theorem Inv.jO {sh:Sh} {ts:au} (hi:Inv (num ns) G w [] sh ts) (n:Nat):Inv (num ns) (G.jO n) w [] (sh.take n) ts where
 known:=hi.known
 aY:=hi.aY
 fresh:=hi.fresh
 cm:=fun d cells h=>by simp [look] at h
 fp:=hi.fp
 cY:=fun s cells hs=>by
   rw [List.getElem?_take] at hs
   split at hs
   · rename_i hlt
     obtain ⟨b,e1,e2,e3,e4⟩:=hi.cY s cells hs
     obtain ⟨hr,o,hh,hrel⟩:=e2
     exact ⟨b,by simp [Gh.jO,hlt,e1],⟨hr,o,hh,hrel.to (fun _ _ _ h=>h) (fun _ e=>e) (fun _ r=>kf (G:=G) (G':=G.jO n) (n:=s+1) (bf.le_refl G.K) (fun s' b' hs' h=>by simp only [Gh.jO];rw [if_pos (by omega)];exact h) (fun _ _ h=>h) (gj e3) e4 r)⟩,e3,e4⟩
   · simp at hs
 ek:=fun s b h=>by
   simp only [Gh.jO] at h
   split at h
   · have:=hi.ek s b h;simp;omega
   · simp at h
 ct:=fun τ n h=>by
   obtain ⟨t,e1,e2,e3⟩:=hi.ct τ n h
   exact ⟨t,e1,e2,e3.cap,e3.zero,e3.spare⟩
 d_:=hi.d_
theorem Inv.shut {mem:List (Nat×List AV)} {sh:Sh} {aa:au} {D:Nat} {x:Option (List Deferred)} (hi:Inv (num ns) G w mem sh aa) (hD:w.heap[D]?=some (.deferred x)) :
   Inv (num ns) G (w.putObj D (.deferred none)) mem sh aa:=by
 have hne:∀{b:Nat} {c:Array Value} {t:TypeId},w.heap[b]?=some (.cells c t (0,0))→(w.putObj D (.deferred none)).heap[b]?=some (.cells c t (0,0)):=by
   intro b c t h
   rw [World.putObj_heap_other]
   · exact h
   · rintro rfl;rw [hD] at h;cases h
 have hsize:(w.putObj D (.deferred none)).heap.size=w.heap.size:=by simp [World.putObj]
 refine { hi with known:=?_,fresh:=?_,cm:=?_,cY:=?_,ct:=?_ }
 · intro b o v hk
   have h:=hi.known b o v hk
   rw [←h]
   have:b≠D:=by rintro rfl;simp [World.cell?,hD] at h
   simp only [World.cell?,World.putObj_heap_other this]
 · intro b hb;exact hi.fresh b (by omega)
 · intro k cs hk
   obtain ⟨b,e1,⟨e2,c,t,e3,e4⟩,e5⟩:=hi.cm k cs hk
   exact ⟨b,e1,⟨e2,c,t,hne e3,e4⟩,e5⟩
 · intro k cs hk
   obtain ⟨b,e1,⟨e2,o,e3,e4⟩,e5⟩:=hi.cY k cs hk
   refine ⟨b,e1,⟨e2,o,?_,e4⟩,e5⟩
   rw [World.putObj_heap_other]
   · exact e3
   · rintro rfl
     rw [hD] at e3;cases e3
     rcases e4 with ⟨_,_,_,_,h,_⟩ | ⟨_,_,_,h,_⟩<;>cases h
 · intro τ n hn
   obtain ⟨t,e1,e2,e3⟩:=hi.ct τ n hn
   refine ⟨t,e1,e2,e3.cap,e3.zero,fun hlt=>?_⟩
   obtain ⟨b,o,c,ty,f1,f2,f3,f4,f5⟩:=e3.spare hlt
   exact ⟨b,o,c,ty,f1,f2,hne f3,f4,f5⟩
theorem bJ.shut {G':Gh} {w':World} {D:Nat} (he:bJ G w G' w') (hD:w.heap.size≤D):bJ G w G' (w'.putObj D (.deferred none)):=
 { he with
   size:=by simpa [World.putObj] using he.size
   os:=by simpa [World.putObj] using he.os
   tape:=by simpa [World.putObj] using he.tape
   output:=by simpa [World.putObj] using he.output
   dp:=fun b hb hr=>by
     obtain ⟨h1,h2⟩:=he.dp b hb hr
     exact ⟨h1,by rw [World.putObj_heap_other (by omega)];exact h2⟩ }
theorem mg {fn:Func} {tmps:Array Value} {R:Ending→World→Prop} {mem:List (Nat×List AV)} {sh:Sh} {aa:au} {G':Gh}:∀(Ds:List Nat) (w':World),Inv (num ns) G' w' mem sh aa→bJ G w G' w'→Ds.Nodup →
   (∀D∈Ds,w.heap.size≤D∧w'.heap[D]?=some (.deferred (some []))) →
   (∀w'',Inv (num ns) G' w'' mem sh aa→bJ G w G' w''→∃v,(results fn tmps).run P w''=.ok v w''∧R (.returned v) w'') →
   LeavesInM Fence.wide 0 P fn tmps R (Ds.map (fun D=>{ target:=.collected D,args:=#[] })) .returning w'
 | [],w',hi,he,_,_,h=>h w' hi he
 | D::Ds,w',hi,he,hn,hD,h=>by
   obtain ⟨h1,h2⟩:=hD D (by simp)
   refine ⟨by simp,.inl ⟨D,_,rfl,run_takeDeferred h2,?_⟩⟩
   simp only [List.nodup_cons] at hn
   refine mg Ds _ (hi.shut h2) (he.shut h1) hn.2 (fun E hE=>?_) h
   obtain ⟨g1,g2⟩:=hD E (by simp [hE])
   refine ⟨g1,?_⟩
   rw [World.putObj_heap_other]
   · exact g2
   · rintro rfl;exact hn.1 hE
theorem nD (hm:P.follows .mixedOrders=true) (hB:fu P ns) (hBk:mD P ns) {orc:d0} (horc:gV P ns orc) {A:ki} {k f:Nat} {aM:Bool} {fn:Func} {af:aC} (hf:P.funcs[f]?=some fn) (hc:mN P ns A fn=some af)
   {args rs:List AV} {vs:List Value} {sh sh':Sh} {ts ts':au} (hi:Inv (num ns) G w [] sh ts) (hr:al (num ns) G args vs) (hN:args.length≤af.ntmps) (h:bQ orc k aM af args sh ts=some (rs,sh',ts')) :
   (Calls P f vs.toArray w fun e w'=>∃v G',e=.returned v∧cv (num ns) G' rs v∧Inv (num ns) G' w' [] sh' ts'∧bJ G w G' w')∧rs.all bD=true:=by
 unfold mN at hc
 split at hc
 · rename_i c ars nv eD
   simp only [Option.ite_none_right_eq_some,Option.map_eq_some_iff] at hc
   obtain ⟨_,ac,hcc,rfl⟩:=hc
   unfold bQ at h
   split at h
   · rename_i e st hev
     simp only [Option.ite_none_right_eq_some] at h
     obtain ⟨he,h⟩:=h
     split at h
     · rename_i xs hxs
       simp only [Option.ite_none_right_eq_some] at h
       obtain ⟨hpass,h⟩:=h
       let kst:=A.ks
       let shk:Sh:=dX aM kst st.sh xs
       let EU:Sh:=if (bU aM kst st.sh xs).all (az sh.length)=true then shk.take sh.length else shk
       have h:some ((cr st.aa (bU aM kst st.sh xs) EU).1,(cr st.aa (bU aM kst st.sh xs) EU).2.1,(cr st.aa (bU aM kst st.sh xs) EU).2.2.2)=some (rs,sh',ts'):=h
       simp only [Option.some.injEq,Prod.mk.injEq] at h
       obtain ⟨hrs,hsh,hts⟩:=h
       have hpass':rs.all bD=true:=by rw [←hrs];exact fM hpass
       refine ⟨?_,hpass'⟩
       refine callsIn_wide (n:=0).1 (callsIn_of_wp_marks hf nv trivial ?_ rfl)
       have hs0:fG (num ns) w.heap.size fn.ntmps G { env:=bP 0 args,mem:=[],sh,aa:=ts } { tmps:=vs.toArray++Array.replicate (fn.ntmps-vs.toArray.size) undef,defers:=[] } w:=⟨Cz hr hN,hi,Nat.le_refl _,[],rfl,by simp,by simp⟩
       refine e7 (ro:=none) hm hB horc hBk hcc (.inl rfl) hev hs0 fun G' a' w1 hs1 hevo1=>?_
       have key:LeavesInM Fence.wide 0 P fn a'.tmps (fun e w'=>∃v G',e=.returned v∧cv (num ns) G' rs v∧Inv (num ns) G' w' [] sh' ts'∧bJ G w G' w') a'.defers .returning w1:=by
         obtain ⟨m0,Ds,m1,m2,m3⟩:=hs1.marks
         rw [m1]
         refine mg Ds w1 hs1.inv hevo1 m2 (fun D hD=>⟨(m3 D hD).1,(m3 D hD).2.2.2⟩) ?_
         intro w' hi' hevo
         have hs':fG (num ns) w.heap.size fn.ntmps G' st { tmps:=a'.tmps,defers:=[] } w':=⟨⟨hs1.env.size,hs1.env.env⟩,hi',hevo.size,[],rfl,by simp,by simp⟩
         obtain ⟨us,u1,u2⟩:=mf (P:=P) hs' (F:=fun | .tmp t=>pure (a'.tmps.getD t undef) | .cell ad t=>do loadVar t (←asAddr (a'.tmps.getD ad undef))) (fun _=>rfl) (fun _ _=>rfl) eD hxs
         refine ⟨(if h:us.toArray.size=1 then us.toArray[0] else .tuple us.toArray),?_,?_⟩
         · unfold results
           rw [Array.mapM_eq_mapM_toList]
           simp only [Sem.run_bind,Sem.run_map]
           erw [u1]
           rfl
         · obtain ⟨G1,k1,k2,k3,hout⟩:∃G1,Inv (num ns) G1 w' st.mem shk st.aa∧G'.le G1∧bJ G' w' G1 w'∧al (num ns) G1 (bU aM kst st.sh xs) us:=by
             by_cases hkk:(aM && kst)=true
             · refine ⟨G',?_,Gh.le_refl _,bJ.refl _ _,?_⟩
               · have:shk=st.sh:=by simp only [shk,dX,hkk,if_true]
                 rw [this];exact hs'.inv
               · have:bU aM kst st.sh xs=xs:=by
                   simp only [Bool.and_eq_true] at hkk
                   simp only [bU,hkk.1,hkk.2,if_true]
                 rw [this];exact u2
             · obtain ⟨G1,k1,k2,k3,k4,k5⟩:=Inv.kill (xs.flatMap er) hs'.inv
               refine ⟨G1,?_,k2,k3,wN (aM:=aM) k2 k4 hs'.inv.pB (fun s hs=>hs) u2⟩
               have:shk=dL st.sh xs:=by
                 simp only [shk,dX]
                 rw [if_neg hkk]
               rw [this];exact k1
           have hbare:=gD (G:=G1) (G':=G1.bare) (bf.le_refl _) (fun _ _ h=>h) (fun _ _ h=>h) hpass hout
           have k1b:=k1.bare
           have hevo0:=hevo.trans k3
           obtain ⟨G2,i2,r2,e2⟩:∃G2,Inv (num ns) G2 w' [] EU st.aa∧al (num ns) G2 (bU aM kst st.sh xs) us∧bJ G w G2 w':=by
             have bareEvo:bJ G w G1.bare w':={
               size:=hevo0.size,os:=hevo0.os,tape:=hevo0.tape,output:=hevo0.output,K:=hevo0.K,sm:=hevo0.sm,
               dp:=fun b hb hr=>⟨by simp [Gh.bare,(hevo0.dp b hb hr).1],(hevo0.dp b hb hr).2⟩
               ga:=fun b τ hb hr=>by
                 rcases hevo0.ga b τ hb hr with h | ⟨τ',h⟩
                 · exact .inl (by simp [Gh.bare,h])
                 · exact .inr ⟨τ',by simp [Gh.bare,h]⟩
               e_:=hevo0.e_ }
             by_cases href:(bU aM kst st.sh xs).all (az sh.length)=true
             · have hshd:EU=shk.take sh.length:=if_pos href
               rw [hshd]
               refine ⟨G1.bare.jO sh.length,k1b.jO sh.length,kf (G:=G1.bare) (G':=G1.bare.jO sh.length) (n:=sh.length) (bf.le_refl _) (fun s b hs h=>by simp only [Gh.jO];rw [if_pos hs];exact h) (fun _ _ h=>h) hpass href hbare,?_⟩
               exact { size:=bareEvo.size,os:=bareEvo.os,tape:=bareEvo.tape,output:=bareEvo.output,K:=bareEvo.K,
                       sm:=fun s b hsb=>by
                         have:=hi.ek s b hsb
                         show (if s<sh.length then G1.sm s else none)=some b
                         rw [if_pos this];exact bareEvo.sm s b hsb
                       dp:=bareEvo.dp,ga:=bareEvo.ga,e_:=bareEvo.e_ }
             · have hshd:EU=shk:=if_neg href
               rw [hshd]
               exact ⟨G1.bare,k1b,hbare,bareEvo⟩
           obtain ⟨m,tks,hNS,hto,hrel⟩:=i2.AX hpass r2
           rw [hrs] at hrel
           rw [hsh,hts] at hto
           exact ⟨_,G2.to m tks,rfl,wO hrel,hto,e2.to m tks⟩
       cases e with
       | normal=>exact key
       | ret=>exact key
       | exit id=>simp at he
     · simp at h
   · simp at h
 · simp at hc
theorem oo {orc:d0} {k:Nat} {aM:Bool} {af:aC} {args rs:List AV} {sh sh':Sh} {ts ts':au} (h:bQ orc k aM af args sh ts=some (rs,sh',ts')):rs.all bD=true:=by
 unfold bQ at h
 split at h
 · split at h
   · split at h
     · simp only [Option.ite_none_right_eq_some] at h
       obtain ⟨hp,h⟩:=h
       have e:=congrArg Prod.fst (Option.some.inj h)
       dsimp only at e
       rw [←e];exact fM hp
     · simp at h
   · simp at h
 · simp at h
structure Impl (P:Program) (ns:Names) (AP:Nat→Option aC):Prop where
 mixed:P.follows .mixedOrders=true
 funcs:∀f g,ns.of f=some g→(∃fn A af,P.funcs[f]?=some fn∧mN P ns A fn=some af∧AP g=some af) ∨
   ((∃fn b,P.funcs[f]?=some fn∧fn.body=some b∧fn.name ≠ "runtime.NumGoroutine") ∧
     (AP g=none∨∃af pf,AP g=some af∧af.mI=some pf∧af.body=.exit 0∧∀cU rs,pf cU=some rs→EV P f cU rs))
 w7:mD P ns
 F6:∀g sz bytes f,look ns.cl g=some (sz,bytes)→ns.of f=some g→Nonempty (jg P ns f sz bytes)
theorem Impl.CC {AP:Nat→Option aC} (h:Impl P ns AP):fu P ns:=by
 intro f g hg
 rcases h.funcs f g hg with ⟨fn,A,af,h1,h2,_⟩ | ⟨⟨fn,b,h1,h2,h3⟩,_⟩
 · unfold mN at h2
   split at h2
   · rename_i b rs hb _
     simp only [Option.ite_none_right_eq_some] at h2
     obtain ⟨⟨_,hn⟩,_⟩:=h2
     exact ⟨fn,b,h1,hb,by simpa using hn⟩
   · simp at h2
 · exact ⟨fn,b,h1,h2,h3⟩
theorem wP {A:ki} {fn:Func} {af:aC} (h:mN P ns A fn=some af):af.mI=none:=by
 unfold mN at h
 split at h
 · simp only [Option.ite_none_right_eq_some,Option.map_eq_some_iff] at h
   obtain ⟨_,_,_,rfl⟩:=h
   rfl
 · simp at h
theorem nE:∀{rs:List AV} {ps:List PV},ez rs=some ps→rs=ps.map .pv
 | [],ps,h=>by simp [ez] at h;subst h;rfl
 | x::rs,ps,h=>by
   cases x with
   | pv p=>
     simp only [ez,Option.map_eq_some_iff] at h
     obtain ⟨qs,h1,rfl⟩:=h
     simp [nE h1]
   | _=>simp [ez] at h
theorem mh:∀{ps:List PV} {vs:List Value},al (num ns) G (ps.map .pv) vs→hZ G.K ps vs
 | [],vs,h=>by simp only [List.map_nil,al] at h;exact h
 | p::ps,vs,h=>by
   simp only [List.map_cons,al] at h
   obtain ⟨v,r,e,e1,e2⟩:=h
   simp only [aq] at e1
   exact ⟨v,r,e,e1,mh e2⟩
theorem Ax {ps:List PV} {v:Value} (h:cv (num ns) G (ps.map .pv) v):i7 G.K ps v:=by
 unfold i7
 split
 · rename_i p
   simp only [List.map_cons,List.map_nil,cv,aq] at h
   exact h
 · rename_i hn
   unfold cv at h
   split at h
   · rename_i r e
     cases ps with
     | nil=>simp at e
     | cons q qs=>
       cases qs with
       | nil=>exact absurd rfl (hn q)
       | cons _ _=>simp at e
   · obtain ⟨vs,e,h⟩:=h
     exact ⟨vs,e,mh h⟩
theorem oV {AP:Nat→Option aC} (hI:Impl P ns AP) (k:Nat):∀n,gV P ns (run AP k n)
 | 0=>⟨fun g f cU rs _ h=>by simp [run] at h,fun g f args ts rs sh sh' ts' _ _ h=>by simp [run] at h,fun g sz by_ f h1 h2=>(hI.F6 g sz by_ f h1 h2).elim sV⟩
 | n+1=>by
   have ih:=oV hI k n
   refine ⟨fun g f cU rs hg h=>?_,fun g f args ts rs sh sh' ts' hg hp h=>?_,ih.c⟩
   · rcases hI.funcs f g hg with ⟨fn,A,af,h1,h2,h3⟩ | ⟨_,h3 | ⟨af,pf,h3,h4,_,h5⟩⟩
     · simp only [run,h3,wP h2,Option.ite_none_right_eq_some] at h
       obtain ⟨⟨_,hN⟩,h⟩:=h
       split at h
       · rename_i xs x2 hb
         obtain ⟨sh',ts'⟩:=x2
         have hxs:=nE h
         subst hxs
         intro K w vs hK hr
         let G0:Gh:={ K,role:=fun _=>.dp,pm:=fun _=>none,sm:=fun _=>none,tk:=fun _=>none }
         have hi:Inv (num ns) G0 w [] [] []:={
           known:=hK,aY:=fun _ _ _ _=>.inl rfl,fresh:=fun _ _=>rfl,cm:=fun d c h=>by simp [look] at h,fp:=fun d b h=>by simp [G0] at h,
           cY:=fun s c h=>by simp at h,ek:=fun s b h=>by simp [G0] at h,ct:=fun τ n h=>by simp at h,d_:=fun τ t h=>by simp [G0] at h }
         have hC:=(nD hI.mixed hI.CC hI.w7 ih h1 h2 hi (eC (ρ:=num ns) (G:=G0) hr) (by simpa using hN) hb).1
         refine hC.mono ?_
         rintro e w' ⟨v,G',rfl,eD,hi',hevo⟩
         refine ⟨v,G'.K,rfl,Ax eD,hevo.K,fun b o u hb hk=>hevo.e_ b o u hb rfl hk,hi'.known,⟨hevo.os,hevo.tape,hevo.output,hevo.size,fun b hb=>(hevo.dp b hb rfl).2⟩⟩
       · simp at h
     · simp only [run,h3] at h;cases h
     · simp only [run,h3,h4] at h
       exact h5 _ _ h
   · rcases hI.funcs f g hg with ⟨fn,A,af,h1,h2,h3⟩ | ⟨_,h3 | ⟨af,pf,h3,_,h4,_⟩⟩
     · simp only [run,h3,Option.ite_none_right_eq_some] at h
       obtain ⟨hN,h⟩:=h
       exact ⟨fun G w vs hi hr=>(nD hI.mixed hI.CC hI.w7 ih h1 h2 hi hr hN h).1,oo h⟩
     · simp only [run,h3] at h;cases h
     · simp only [run,h3,Option.ite_none_right_eq_some] at h
       obtain ⟨_,h⟩:=h
       unfold bQ at h
       rw [h4] at h
       simp [cV] at h
end
end Go.Ab
