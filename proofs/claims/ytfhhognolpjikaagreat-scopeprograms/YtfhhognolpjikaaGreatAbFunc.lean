import Derived.Test.YtfhhognolpjikaaGreatAbControl
import Derived.Test.YtfhhognolpjikaaGreatAbClone
import Derived.RangeFuncLeaves
import Derived.RangeFuncRecord
/-
  Functions: n levels of calls of the evaluator are what the model does.
-/
set_option linter.unusedVariables false
set_option linter.unusedSimpArgs false
set_option maxRecDepth 100000
set_option maxHeartbeats 8000000
namespace Go.Ab
section
variable {P:Program} {ns:Names} {G:Gh} {w:World}
theorem qX:∀{l:List AV} {i t:Nat} {v:AV},look (cD i l) t=some v→i≤t∧l[t-i]?=some v
 | [],i,t,v,h=>by simp [cD,look] at h
 | x::l,i,t,v,h=>by
   simp only [cD,look] at h
   split at h
   · rename_i e;subst e;cases h;simp
   · rename_i hne
     obtain ⟨h1,h2⟩:=qX h
     refine ⟨by omega,?_⟩
     rw [show t-i=(t-(i+1))+1 from by omega]
     simpa using h2
theorem H4 {N:Nat} {args:List AV} {vs:List Value} (hr:aB (num ns) G args vs) (hN:args.length≤N) :
   kx (num ns) G N (cD 0 args) { tmps:=vs.toArray++Array.replicate (N-vs.toArray.size) undef,defers:=[] }:=by
 have hl:=hr.length
 refine ⟨by simp;omega,fun t x hx=>?_⟩
 obtain ⟨_,h2⟩:=qX hx
 simp only [Nat.sub_zero] at h2
 obtain ⟨v,h3,h4⟩:=hr.get h2
 refine ⟨v,?_,h4⟩
 rw [Array.getElem?_append_left (by have:=(List.getElem?_eq_some_iff.1 h3).1;simpa using this)]
 simpa using h3
theorem pr {n0 N:Nat} {st:St} {a:Act} (hs:gX (num ns) n0 N G st a w) {F:ResultVar→Sem Value} (hF1:∀t,F (.tmp t)=pure (a.tmps.getD t undef)) (hF2:∀ad t,F (.cell ad t)=(do loadVar t (←asAddr (a.tmps.getD ad undef)))):∀{rvs:List ResultVar} {rs:List qf} {xs:List AV},dI (BW P) rvs=some rs→eg st rs=some xs →
   ∃vs,(rvs.mapM F).run P w=.ok vs w∧aB (num ns) G xs vs
 | [],rs,xs,hc,hx=>by
   simp [dI] at hc;subst hc
   simp [eg] at hx;subst hx
   exact ⟨[],by simp,by simp [aB]⟩
 | r::rvs,rs,xs,hc,hx=>by
   simp only [dI] at hc
   split at hc
   · rename_i ar ars h1 h2
     simp at hc;subst hc
     simp only [eg] at hx
     split at hx
     · rename_i v vs' g1 g2
       simp at hx;subst hx
       obtain ⟨us,k1,k2⟩:=pr hs hF1 hF2 h2 g2
       have one:∃u,(F r).run P w=.ok u w∧aE (num ns) G v u:=by
         cases r with
         | tmp t=>
           simp [BW] at h1;subst h1
           simp only [oK] at g1
           obtain ⟨u,e1,e2⟩:=hs.env.env t v g1
           exact ⟨u,by rw [hF1];simp [e1],e2⟩
         | cell ad t=>
           simp only [BW] at h1
           split at h1
           · rename_i sz ag hsz hag
             simp at h1;subst h1
             simp only [oK] at g1
             split at g1
             · rename_i d e1
               split at g1
               · rename_i cs e2
                 simp only [Option.ite_none_right_eq_some] at g1
                 obtain ⟨rfl,g1⟩:=g1
                 obtain ⟨u,f1,f2⟩:=hs.env.env _ _ e1
                 simp only [aE] at f2
                 obtain ⟨b,hp,rfl⟩:=f2
                 obtain ⟨b',hp',hblk,_⟩:=hs.inv.da _ _ e2
                 rw [hp] at hp';cases hp'
                 obtain ⟨_,c,ty,hh,hrel⟩:=hblk
                 obtain ⟨u,q1,q2⟩:=iu (w:=w) hsz hag g1 hrel (jh hh)
                 exact ⟨u,by rw [hF2];simp [f1,asAddr,q1],q2⟩
               · cases g1
             · rename_i s e1
               split at g1
               · rename_i cs e2
                 split at g1
                 · cases g1
                 · rename_i hm
                   obtain ⟨u,f1,f2⟩:=hs.env.env _ _ e1
                   simp only [aE] at f2
                   obtain ⟨b,hp,rfl⟩:=f2
                   obtain ⟨b',hp',hblk,_⟩:=hs.inv.dN _ _ e2
                   rw [hp] at hp';cases hp'
                   obtain ⟨_,c,ty,vs,suf,hh,_,hsp,hrel⟩:=hblk.cells (by simpa using hm)
                   obtain ⟨u,q1,q2⟩:=iu (w:=w) hsz hag g1 hrel (mR hh hsp)
                   exact ⟨u,by rw [hF2];simp [f1,asAddr,q1],q2⟩
               · cases g1
             · cases g1
           · simp at h1
       obtain ⟨u,o1,o2⟩:=one
       refine ⟨u::us,?_,?_⟩
       · rw [List.mapM_cons]
         simp only [Sem.run_bind]
         rw [o1]
         simp only [Result.andThen_ok]
         rw [k1]
         rfl
       · simp only [aB];exact ⟨u,us,rfl,o2,k2⟩
     · simp at hx
   · simp at hc
theorem mr {G':Gh} {sh:Sh} {ks:List Nat} (hle:G.le G') (hf:ji ns G G' sh ks) (hl:∀(s:Nat) (cells:List AV),sh[s]?=some (some cells)→cells.all bm=true)
   {x:AV} {v:Value} (ha:∀s∈fo x,s∈ks) (h:aE (num ns) G x v):aE (num ns) G' (qj sh x) v:=by
 unfold qj
 split
 · rename_i p hp
   simp only [aE]
   exact qx hle hf hl ha hp h
 · exact h.mono hle
theorem H5 {G':Gh} {sh:Sh} {ks:List Nat} (hle:G.le G') (hf:ji ns G G' sh ks) (hl:∀(s:Nat) (cells:List AV),sh[s]?=some (some cells)→cells.all bm=true)
   {x:AV} {v:Value} (ha:bm x=true→∀s∈fo x,s∈ks) (h:aE (num ns) G x v):aE (num ns) G' (l5 sh x) v:=by
 unfold l5
 split
 · exact h.mono hle
 · split
   · rename_i hl'
     exact mr hle hf hl (ha hl') h
   · exact h.mono hle
theorem s9 {G':Gh} {sh:Sh} {ks:List Nat} (hle:G.le G') (hf:ji ns G G' sh ks) (hl:∀(s:Nat) (cells:List AV),sh[s]?=some (some cells)→cells.all bm=true) :
   ∀{cs:List AV} {vs:List Value},(∀s∈fo (.agg cs),s∈ks)→aB (num ns) G cs vs→aB (num ns) G' (cs.map (l5 sh)) vs
 | [],vs,_,h=>by simpa [aB] using h
 | c::cs,vs,ha,h=>by
   simp only [aB] at h
   obtain ⟨v,r,e,e1,e2⟩:=h
   simp only [List.map_cons,aB]
   refine ⟨v,r,e,H5 hle hf hl (fun hb s hs=>ha s ?_) e1,s9 hle hf hl (fun s hs=>ha s ?_) e2⟩
   · simp only [fo,List.flatMap_cons,List.mem_append]
     left
     cases c<;>simp_all [fo,bm]
   · simp only [fo,List.flatMap_cons,List.mem_append] at hs ⊢
     exact .inr hs
theorem H6 {G':Gh} {sh:Sh} {ks:List Nat} (hle:G.le G') (hf:ji ns G G' sh ks) (hl:∀(s:Nat) (cells:List AV),sh[s]?=some (some cells)→cells.all bm=true)
   {x:AV} {v:Value} (ha:∀s∈fo x,s∈ks) (h:aE (num ns) G x v):aE (num ns) G' (nP sh x) v:=by
 unfold nP
 split
 · exact h.mono hle
 · exact h.mono hle
 · simp only [aE] at h ⊢
   obtain ⟨vs,e,r⟩:=h
   exact ⟨vs,e,s9 hle hf hl ha r⟩
 · exact mr hle hf hl ha h
theorem mu {G':Gh} {sh:Sh} {ks:List Nat} {F:Sh→AV→AV} (hF:∀{x:AV} {v:Value},(∀s∈fo x,s∈ks)→aE (num ns) G x v→aE (num ns) G' (F sh x) v) :
   ∀{xs:List AV} {vs:List Value},(∀s∈xs.flatMap fo,s∈ks)→aB (num ns) G xs vs→aB (num ns) G' (xs.map (F sh)) vs
 | [],vs,_,h=>by simpa [aB] using h
 | x::xs,vs,ha,h=>by
   simp only [aB] at h
   obtain ⟨v,r,e,e1,e2⟩:=h
   simp only [List.flatMap_cons,List.mem_append] at ha
   simp only [List.map_cons,aB]
   exact ⟨v,r,e,hF (fun s hs=>ha s (.inl hs)) e1,mu hF (fun s hs=>ha s (.inr hs)) e2⟩
theorem Bt {G':Gh} {sh:Sh} {ks:List Nat} {bg kst:Bool} (hle:G.le G') (hf:ji ns G G' sh ks) (hl:∀(s:Nat) (cells:List AV),sh[s]?=some (some cells)→cells.all bm=true)
   {xs:List AV} {vs:List Value} (ha:∀s∈xs.flatMap fo,s∈ks) (h:aB (num ns) G xs vs):aB (num ns) G' (cL bg kst sh xs) vs:=by
 unfold cL
 split
 · split
   · exact aB.mono hle h
   · exact mu (H6 hle hf hl) ha h
 · exact mu (mr hle hf hl) ha h
theorem Bu {xs:List AV} {vs:List Value} (h:aB (num ns) G xs vs):dk (num ns) G xs (if h:vs.toArray.size=1 then vs.toArray[0] else .tuple vs.toArray):=by
 unfold dk
 split
 · rename_i r
   simp only [aB] at h
   obtain ⟨v,r',e,e1,e2⟩:=h
   subst e2;subst e
   simpa using e1
 · rename_i hn
   have hl:=h.length
   rw [dif_neg]
   · exact ⟨vs,rfl,h⟩
   · intro e
     simp at e
     rw [e] at hl
     cases xs with
     | nil=>simp at hl
     | cons x xs=>
       cases xs with
       | nil=>exact hn x rfl
       | cons _ _=>simp at hl
end
mutual
theorem qY {ρ:cg} {G G':Gh} {n:Nat} (hK:G.K.le G'.K) (hs:∀s b,s<n→G.sm s=some b→G'.sm s=some b):∀{x:AV} {v:Value},bQ x=true→aS n x=true→aE ρ G x v→aE ρ G' x v
 | .pv p,_,_,_,h=>by simp only [aE] at h ⊢;exact h.mono hK
 | .a_ s o,_,_,hr,h=>by simp [aS] at hr;simp only [aE] at h ⊢;obtain ⟨b,e,r⟩:=h;exact ⟨b,hs _ _ hr e,r⟩
 | .bu s _ n _,_,_,hr,h=>by simp [aS] at hr;simp only [aE] at h ⊢;obtain ⟨b,c,e,r⟩:=h;exact ⟨b,c,hs _ _ hr e,r⟩
 | .dw,_,_,_,h=>by simpa only [aE] using h
 | .cv s,_,_,hr,h=>by simp [aS] at hr;simp only [aE] at h ⊢;obtain ⟨b,e,r⟩:=h;exact ⟨b,hs _ _ hr e,r⟩
 | .lZ ..,_,hp,_,_=>by simp [bQ] at hp
 | .du _,_,_,_,h=>by simp only [aE] at h
 | .fn g cap,_,hp,hr,h=>by
   simp only [bQ] at hp
   simp only [aS] at hr
   simp only [aE] at h ⊢
   obtain ⟨f,vs,e1,e2,r⟩:=h
   exact ⟨f,vs,e1,e2,oq hK hs hp hr r⟩
 | .un,_,hp,_,_=>by simp [bQ] at hp
 | .bD _,_,_,_,h=>by simp only [aE] at h ⊢;obtain ⟨b,l,e,r⟩:=h;exact ⟨b,l,e,r.mono hK⟩
 | .own _ _,_,hp,_,_=>by simp [bQ] at hp
 | .agg _,_,hp,hr,h=>by
   simp only [bQ] at hp
   simp only [aS] at hr
   simp only [aE] at h ⊢
   obtain ⟨vs,e,r⟩:=h
   exact ⟨vs,e,oq hK hs hp hr r⟩
 | .lL _,_,hp,_,_=>by simp [bQ] at hp
 | .az _ _,_,hp,_,_=>by simp [bQ] at hp
 | .dz _,_,hp,_,_=>by simp [bQ] at hp
theorem oq {ρ:cg} {G G':Gh} {n:Nat} (hK:G.K.le G'.K) (hs:∀s b,s<n→G.sm s=some b→G'.sm s=some b):∀{xs:List AV} {vs:List Value},bQ.gG xs=true→aS.cO n xs=true→aB ρ G xs vs→aB ρ G' xs vs
 | [],_,_,_,h=>by simpa only [aB] using h
 | x::xs,_,hp,hr,h=>by
   simp only [bQ.gG,Bool.and_eq_true] at hp
   simp only [aS.cO,Bool.and_eq_true] at hr
   simp only [aB] at h ⊢
   obtain ⟨v,r,e,e1,e2⟩:=h
   exact ⟨v,r,e,qY hK hs hp.1 hr.1 e1,oq hK hs hp.2 hr.2 e2⟩
end
section
variable {P:Program} {ns:Names} {G:Gh} {w:World}
theorem qZ {ρ:cg} {G':Gh} {n:Nat} (hK:G.K.le G'.K) (hs:∀s b,s<n→G.sm s=some b→G'.sm s=some b) (ht:∀τ t,G.tk τ=some t→G'.tk τ=some t):∀{xs:List AV} {vs:List Value},eO xs=true→aS.cO n xs=true→aB ρ G xs vs→aB ρ G' xs vs
 | [],_,_,_,h=>by simpa only [aB] using h
 | x::xs,_,hp,hr,h=>by
   simp only [eO,Bool.and_eq_true] at hp
   simp only [aS.cO,Bool.and_eq_true] at hr
   simp only [aB] at h ⊢
   obtain ⟨v,r,e,e1,e2⟩:=h
   refine ⟨v,r,e,?_,qZ hK hs ht hp.2 hr.2 e2⟩
   cases x with
   | own l τ=>
     simp only [aE] at e1 ⊢
     obtain ⟨t,a1,a2,a3,a4⟩:=e1
     exact ⟨t,ht _ _ a1,a2,a3.mono hK,fun hl=>⟨(a4 hl).1,JI (a4 hl).2 fun ⟨b,o,e,r⟩=>⟨b,o,e,Row.mono hK _ _ _ _ r⟩⟩⟩
   | _=>exact qY hK hs (show bQ _=true from hp.1) hr.1 e1
theorem Fw {ρ:cg} {G':Gh} {n:Nat} (hK:G.K.le G'.K) (hs:∀s b,s<n→G.sm s=some b→G'.sm s=some b) (ht:∀τ t,G.tk τ=some t→G'.tk τ=some t) {x:AV} {v:Value} (hp:ca x=true) (hr:aS n x=true) (h:aE ρ G x v):aE ρ G' x v:=by
 cases x with
 | own l τ=>
   simp only [aE] at h ⊢
   obtain ⟨t,e1,e2,e3,e4⟩:=h
   exact ⟨t,ht _ _ e1,e2,e3.mono hK,fun hl=>⟨(e4 hl).1,JI (e4 hl).2 fun ⟨b,o,e,r⟩=>⟨b,o,e,Row.mono hK _ _ _ _ r⟩⟩⟩
 | agg cs=>
   simp only [aS] at hr
   simp only [aE] at h ⊢
   obtain ⟨vs,e,r⟩:=h
   exact ⟨vs,e,qZ hK hs ht (by simpa [ca] using hp) hr r⟩
 | _=>exact qY hK hs (show bQ _=true from hp) hr h
theorem mw {ρ:cg} {G':Gh} {n:Nat} (hK:G.K.le G'.K) (hs:∀s b,s<n→G.sm s=some b→G'.sm s=some b) (ht:∀τ t,G.tk τ=some t→G'.tk τ=some t):∀{xs:List AV} {vs:List Value},xs.all ca=true→xs.all (aS n)=true→aB ρ G xs vs→aB ρ G' xs vs
 | [],_,_,_,h=>by simpa only [aB] using h
 | x::xs,_,hp,hr,h=>by
   simp only [List.all_cons,Bool.and_eq_true] at hp hr
   simp only [aB] at h ⊢
   obtain ⟨v,r,e,e1,e2⟩:=h
   exact ⟨v,r,e,Fw hK hs ht hp.1 hr.1 e1,mw hK hs ht hp.2 hr.2 e2⟩
def Gh.bare (G:Gh):Gh:={ G with pm:=fun _=>none,role:=fun b=>match G.role b with | .mP _=>.dV | r=>r }
theorem Inv.bare {mem:List (Nat×List AV)} {sh:Sh} {ts:aM} (hi:Inv (num ns) G w mem sh ts):Inv (num ns) G.bare w [] sh ts where
 known:=hi.known
 bt:=fun b o v hk=>by
   rcases hi.bt b o v hk with h | ⟨τ,h⟩
   · exact .inl (by simp [Gh.bare,h])
   · exact .inr ⟨τ,by simp [Gh.bare,h]⟩
 fresh:=fun b hb=>by simp [Gh.bare,hi.fresh b hb]
 da:=fun d cells h=>by simp [look] at h
 gN:=fun d b h=>by simp [Gh.bare] at h
 dN:=fun s cells hs=>by
   obtain ⟨b,e1,e2,e3,e4⟩:=hi.dN s cells hs
   obtain ⟨hr,o,hh,hrel⟩:=e2
   exact ⟨b,e1,⟨by simp [Gh.bare,hr],o,hh,hrel.to (fun _ _ _ h=>h) (fun _ e=>e) (fun _ r=>iO (G:=G) (G':=G.bare) (bM.le_refl _) (fun _ _ h=>h) (fun _ _ h=>h) (iw e3) r)⟩,e3,e4⟩
 eZ:=hi.eZ
 dp:=fun τ n h=>by
   obtain ⟨t,e1,e2,e3⟩:=hi.dp τ n h
   refine ⟨t,e1,e2,e3.cap,e3.zero,fun hlt=>?_⟩
   obtain ⟨b,o,c,ty,f1,f2,f3,f4,f5⟩:=e3.spare hlt
   exact ⟨b,o,c,ty,f1,by simp [Gh.bare,f2],f3,f4,f5⟩
 e8:=hi.e8
def Gh.lR (G:Gh) (n:Nat):Gh:={ G with sm:=fun s=>if s<n then G.sm s else none }
theorem Inv.lR {sh:Sh} {ts:aM} (hi:Inv (num ns) G w [] sh ts) (n:Nat):Inv (num ns) (G.lR n) w [] (sh.take n) ts where
 known:=hi.known
 bt:=hi.bt
 fresh:=hi.fresh
 da:=fun d cells h=>by simp [look] at h
 gN:=hi.gN
 dN:=fun s cells hs=>by
   rw [List.getElem?_take] at hs
   split at hs
   · rename_i hlt
     obtain ⟨b,e1,e2,e3,e4⟩:=hi.dN s cells hs
     obtain ⟨hr,o,hh,hrel⟩:=e2
     exact ⟨b,by simp [Gh.lR,hlt,e1],⟨hr,o,hh,hrel.to (fun _ _ _ h=>h) (fun _ e=>e) (fun _ r=>mw (G:=G) (G':=G.lR n) (n:=s+1) (bM.le_refl G.K) (fun s' b' hs' h=>by simp only [Gh.lR];rw [if_pos (by omega)];exact h) (fun _ _ h=>h) (iw e3) e4 r)⟩,e3,e4⟩
   · simp at hs
 eZ:=fun s b h=>by
   simp only [Gh.lR] at h
   split at h
   · have:=hi.eZ s b h;simp;omega
   · simp at h
 dp:=fun τ n h=>by
   obtain ⟨t,e1,e2,e3⟩:=hi.dp τ n h
   exact ⟨t,e1,e2,e3.cap,e3.zero,e3.spare⟩
 e8:=hi.e8
theorem Inv.shut {mem:List (Nat×List AV)} {sh:Sh} {ah:aM} {D:Nat} {x:Option (List Deferred)} (hi:Inv (num ns) G w mem sh ah) (hD:w.heap[D]?=some (.deferred x)) :
   Inv (num ns) G (w.putObj D (.deferred none)) mem sh ah:=by
 have hne:∀{b:Nat} {c:Array Value} {t:TypeId},w.heap[b]?=some (.cells c t (0,0))→(w.putObj D (.deferred none)).heap[b]?=some (.cells c t (0,0)):=by
   intro b c t h
   rw [World.putObj_heap_other]
   · exact h
   · rintro rfl;rw [hD] at h;cases h
 have hsize:(w.putObj D (.deferred none)).heap.size=w.heap.size:=by simp [World.putObj]
 refine { hi with known:=?_,fresh:=?_,da:=?_,dN:=?_,dp:=?_ }
 · intro b o v hk
   have h:=hi.known b o v hk
   rw [←h]
   have:b≠D:=by rintro rfl;simp [World.cell?,hD] at h
   simp only [World.cell?,World.putObj_heap_other this]
 · intro b hb;exact hi.fresh b (by omega)
 · intro k cs hk
   obtain ⟨b,e1,⟨e2,c,t,e3,e4⟩,e5⟩:=hi.da k cs hk
   exact ⟨b,e1,⟨e2,c,t,hne e3,e4⟩,e5⟩
 · intro k cs hk
   obtain ⟨b,e1,⟨e2,o,e3,e4⟩,e5⟩:=hi.dN k cs hk
   refine ⟨b,e1,⟨e2,o,?_,e4⟩,e5⟩
   rw [World.putObj_heap_other]
   · exact e3
   · rintro rfl
     rw [hD] at e3;cases e3
     rcases e4 with ⟨_,_,_,_,h,_⟩ | ⟨_,_,_,h,_⟩<;>cases h
 · intro τ n hn
   obtain ⟨t,e1,e2,e3⟩:=hi.dp τ n hn
   refine ⟨t,e1,e2,e3.cap,e3.zero,fun hlt=>?_⟩
   obtain ⟨b,o,c,ty,f1,f2,f3,f4,f5⟩:=e3.spare hlt
   exact ⟨b,o,c,ty,f1,f2,hne f3,f4,f5⟩
theorem cu.shut {G':Gh} {w':World} {D:Nat} (he:cu G w G' w') (hD:w.heap.size≤D):cu G w G' (w'.putObj D (.deferred none)):=
 { he with
   size:=by simpa [World.putObj] using he.size
   os:=by simpa [World.putObj] using he.os
   tape:=by simpa [World.putObj] using he.tape
   output:=by simpa [World.putObj] using he.output
   dV:=fun b hb hr=>by
     obtain ⟨h1,h2⟩:=he.dV b hb hr
     exact ⟨h1,by rw [World.putObj_heap_other (by omega)];exact h2⟩ }
theorem pw {fn:Func} {tmps:Array Value} {R:Ending→World→Prop} {mem:List (Nat×List AV)} {sh:Sh} {ah:aM} {G':Gh}:∀(Ds:List Nat) (w':World),Inv (num ns) G' w' mem sh ah→cu G w G' w'→Ds.Nodup →
   (∀D∈Ds,w.heap.size≤D∧w'.heap[D]?=some (.deferred (some []))) →
   (∀w'',Inv (num ns) G' w'' mem sh ah→cu G w G' w''→∃v,(results fn tmps).run P w''=.ok v w''∧R (.returned v) w'') →
   LeavesInM Fence.wide 0 P fn tmps R (Ds.map (fun D=>{ target:=.collected D,args:=#[] })) .returning w'
 | [],w',hi,he,_,_,h=>h w' hi he
 | D::Ds,w',hi,he,hn,hD,h=>by
   obtain ⟨h1,h2⟩:=hD D (by simp)
   refine ⟨by simp,.inl ⟨D,_,rfl,run_takeDeferred h2,?_⟩⟩
   simp only [List.nodup_cons] at hn
   refine pw Ds _ (hi.shut h2) (he.shut h1) hn.2 (fun E hE=>?_) h
   obtain ⟨g1,g2⟩:=hD E (by simp [hE])
   refine ⟨g1,?_⟩
   rw [World.putObj_heap_other]
   · exact g2
   · rintro rfl;exact hn.1 hE
theorem q9 (hm:P.follows .mixedOrders=true) (hB:gQ P ns) (hBk:pV P ns) {orc:eM} (horc:jc P ns orc) {A:nO} {k f:Nat} {bg:Bool} {fn:Func} {af:aJ} (hf:P.funcs[f]?=some fn) (hc:qk P ns A fn=some af)
   {args rs:List AV} {vs:List Value} {sh sh':Sh} {ts ts':aM} (hi:Inv (num ns) G w [] sh ts) (hr:aB (num ns) G args vs) (hN:args.length≤af.ntmps) (h:cE orc k bg af args sh ts=some (rs,sh',ts')) :
   (Calls P f vs.toArray w fun e w'=>∃v G',e=.returned v∧dk (num ns) G' rs v∧Inv (num ns) G' w' [] sh' ts'∧cu G w G' w')∧rs.all ca=true:=by
 unfold qk at hc
 split at hc
 · rename_i c ars kJ fD
   simp only [Option.ite_none_right_eq_some,Option.map_eq_some_iff] at hc
   obtain ⟨_,ac,hcc,rfl⟩:=hc
   unfold cE at h
   split at h
   · rename_i e st hev
     simp only [Option.ite_none_right_eq_some] at h
     obtain ⟨he,h⟩:=h
     split at h
     · rename_i xs hxs
       simp only [Option.ite_none_right_eq_some] at h
       obtain ⟨hpass,h⟩:=h
       let kst:=A.ks
       let shk:Sh:=eJ bg kst st.sh xs
       let LH:Sh:=if (cL bg kst st.sh xs).all (aS sh.length)=true then shk.take sh.length else shk
       have h:some ((dh st.ah (cL bg kst st.sh xs) LH).1,(dh st.ah (cL bg kst st.sh xs) LH).2.1,(dh st.ah (cL bg kst st.sh xs) LH).2.2.2)=some (rs,sh',ts'):=h
       simp only [Option.some.injEq,Prod.mk.injEq] at h
       obtain ⟨hrs,hsh,hts⟩:=h
       have hpass':rs.all ca=true:=by rw [←hrs];exact g_ hpass
       refine ⟨?_,hpass'⟩
       refine callsIn_wide (n:=0).1 (callsIn_of_wp_marks hf kJ trivial ?_ rfl)
       have hs0:gX (num ns) w.heap.size fn.ntmps G { env:=cD 0 args,mem:=[],sh,ah:=ts } { tmps:=vs.toArray++Array.replicate (fn.ntmps-vs.toArray.size) undef,defers:=[] } w:=⟨H4 hr hN,hi,Nat.le_refl _,[],rfl,by simp,by simp⟩
       refine gr (ro:=none) hm hB horc hBk hcc (.inl rfl) hev hs0 fun G' a' w1 hs1 hevo1=>?_
       have key:LeavesInM Fence.wide 0 P fn a'.tmps (fun e w'=>∃v G',e=.returned v∧dk (num ns) G' rs v∧Inv (num ns) G' w' [] sh' ts'∧cu G w G' w') a'.defers .returning w1:=by
         obtain ⟨m0,Ds,m1,m2,m3⟩:=hs1.marks
         rw [m1]
         refine pw Ds w1 hs1.inv hevo1 m2 (fun D hD=>⟨(m3 D hD).1,(m3 D hD).2.2.2⟩) ?_
         intro w' hi' hevo
         have hs':gX (num ns) w.heap.size fn.ntmps G' st { tmps:=a'.tmps,defers:=[] } w':=⟨⟨hs1.env.size,hs1.env.env⟩,hi',hevo.size,[],rfl,by simp,by simp⟩
         obtain ⟨us,u1,u2⟩:=pr (P:=P) hs' (F:=fun | .tmp t=>pure (a'.tmps.getD t undef) | .cell ad t=>do loadVar t (←asAddr (a'.tmps.getD ad undef))) (fun _=>rfl) (fun _ _=>rfl) fD hxs
         refine ⟨(if h:us.toArray.size=1 then us.toArray[0] else .tuple us.toArray),?_,?_⟩
         · unfold results
           rw [Array.mapM_eq_mapM_toList]
           simp only [Sem.run_bind,Sem.run_map]
           erw [u1]
           rfl
         · obtain ⟨G1,k1,k2,k3,hout⟩:∃G1,Inv (num ns) G1 w' st.mem shk st.ah∧G'.le G1∧cu G' w' G1 w'∧aB (num ns) G1 (cL bg kst st.sh xs) us:=by
             by_cases hkk:(bg && kst)=true
             · refine ⟨G',?_,Gh.le_refl _,cu.refl _ _,?_⟩
               · have:shk=st.sh:=by simp only [shk,eJ,hkk,if_true]
                 rw [this];exact hs'.inv
               · have:cL bg kst st.sh xs=xs:=by
                   simp only [Bool.and_eq_true] at hkk
                   simp only [cL,hkk.1,hkk.2,if_true]
                 rw [this];exact u2
             · obtain ⟨G1,k1,k2,k3,k4,k5⟩:=Inv.kill (xs.flatMap fo) hs'.inv
               refine ⟨G1,?_,k2,k3,Bt (bg:=bg) k2 k4 hs'.inv.t4 (fun s hs=>hs) u2⟩
               have:shk=ep st.sh xs:=by
                 simp only [shk,eJ]
                 rw [if_neg hkk]
               rw [this];exact k1
           have hbare:=iO (G:=G1) (G':=G1.bare) (bM.le_refl _) (fun _ _ h=>h) (fun _ _ h=>h) hpass hout
           have k1b:=k1.bare
           have hevo0:=hevo.trans k3
           obtain ⟨G2,i2,r2,e2⟩:∃G2,Inv (num ns) G2 w' [] LH st.ah∧aB (num ns) G2 (cL bg kst st.sh xs) us∧cu G w G2 w':=by
             have bareEvo:cu G w G1.bare w':={
               size:=hevo0.size,os:=hevo0.os,tape:=hevo0.tape,output:=hevo0.output,K:=hevo0.K,sm:=hevo0.sm,
               dV:=fun b hb hr=>⟨by simp [Gh.bare,(hevo0.dV b hb hr).1],(hevo0.dV b hb hr).2⟩
               ir:=fun b τ hb hr=>by
                 rcases hevo0.ir b τ hb hr with h | ⟨τ',h⟩
                 · exact .inl (by simp [Gh.bare,h])
                 · exact .inr ⟨τ',by simp [Gh.bare,h]⟩
               gB:=hevo0.gB }
             by_cases href:(cL bg kst st.sh xs).all (aS sh.length)=true
             · have hshd:LH=shk.take sh.length:=if_pos href
               rw [hshd]
               refine ⟨G1.bare.lR sh.length,k1b.lR sh.length,mw (G:=G1.bare) (G':=G1.bare.lR sh.length) (n:=sh.length) (bM.le_refl _) (fun s b hs h=>by simp only [Gh.lR];rw [if_pos hs];exact h) (fun _ _ h=>h) hpass href hbare,?_⟩
               exact { size:=bareEvo.size,os:=bareEvo.os,tape:=bareEvo.tape,output:=bareEvo.output,K:=bareEvo.K,
                       sm:=fun s b hsb=>by
                         have:=hi.eZ s b hsb
                         show (if s<sh.length then G1.sm s else none)=some b
                         rw [if_pos this];exact bareEvo.sm s b hsb
                       dV:=bareEvo.dV,ir:=bareEvo.ir,gB:=bareEvo.gB }
             · have hshd:LH=shk:=if_neg href
               rw [hshd]
               exact ⟨G1.bare,k1b,hbare,bareEvo⟩
           obtain ⟨m,tks,hNS,hto,hrel⟩:=i2.Gb hpass r2
           rw [hrs] at hrel
           rw [hsh,hts] at hto
           exact ⟨_,G2.to m tks,rfl,Bu hrel,hto,e2.to m tks⟩
       cases e with
       | normal=>exact key
       | ret=>exact key
       | exit id=>simp at he
     · simp at h
   · simp at h
 · simp at hc
theorem ss {orc:eM} {k:Nat} {bg:Bool} {af:aJ} {args rs:List AV} {sh sh':Sh} {ts ts':aM} (h:cE orc k bg af args sh ts=some (rs,sh',ts')):rs.all ca=true:=by
 unfold cE at h
 split at h
 · split at h
   · split at h
     · simp only [Option.ite_none_right_eq_some] at h
       obtain ⟨hp,h⟩:=h
       have e:=congrArg Prod.fst (Option.some.inj h)
       dsimp only at e
       rw [←e];exact g_ hp
     · simp at h
   · simp at h
 · simp at h
structure Impl (P:Program) (ns:Names) (AP:Nat→Option aJ):Prop where
 mixed:P.follows .mixedOrders=true
 funcs:∀f g,ns.of f=some g→(∃fn A af,P.funcs[f]?=some fn∧qk P ns A fn=some af∧AP g=some af) ∨
   ((∃fn b,P.funcs[f]?=some fn∧fn.body=some b∧fn.name ≠ "runtime.NumGoroutine") ∧
     (AP g=none∨∃af pf,AP g=some af∧af.qg=some pf∧af.body=.exit 0∧∀dE rs,pf dE=some rs→LI P f dE rs))
 BU:pV P ns
 Nd:∀g sz bytes f,look ns.cl g=some (sz,bytes)→ns.of f=some g→Nonempty (kK P ns f sz bytes)
theorem Impl.H7 {AP:Nat→Option aJ} (h:Impl P ns AP):gQ P ns:=by
 intro f g hg
 rcases h.funcs f g hg with ⟨fn,A,af,h1,h2,_⟩ | ⟨⟨fn,b,h1,h2,h3⟩,_⟩
 · unfold qk at h2
   split at h2
   · rename_i b rs hb _
     simp only [Option.ite_none_right_eq_some] at h2
     obtain ⟨⟨_,hn⟩,_⟩:=h2
     exact ⟨fn,b,h1,hb,by simpa using hn⟩
   · simp at h2
 · exact ⟨fn,b,h1,h2,h3⟩
theorem Bv {A:nO} {fn:Func} {af:aJ} (h:qk P ns A fn=some af):af.qg=none:=by
 unfold qk at h
 split at h
 · simp only [Option.ite_none_right_eq_some,Option.map_eq_some_iff] at h
   obtain ⟨_,_,_,rfl⟩:=h
   rfl
 · simp at h
theorem q_:∀{rs:List AV} {ps:List PV},fq rs=some ps→rs=ps.map .pv
 | [],ps,h=>by simp [fq] at h;subst h;rfl
 | x::rs,ps,h=>by
   cases x with
   | pv p=>
     simp only [fq,Option.map_eq_some_iff] at h
     obtain ⟨qs,h1,rfl⟩:=h
     simp [q_ h1]
   | _=>simp [fq] at h
theorem pz:∀{ps:List PV} {vs:List Value},aB (num ns) G (ps.map .pv) vs→jo G.K ps vs
 | [],vs,h=>by simp only [List.map_nil,aB] at h;exact h
 | p::ps,vs,h=>by
   simp only [List.map_cons,aB] at h
   obtain ⟨v,r,e,e1,e2⟩:=h
   simp only [aE] at e1
   exact ⟨v,r,e,e1,pz e2⟩
theorem Fx {ps:List PV} {v:Value} (h:dk (num ns) G (ps.map .pv) v):kC G.K ps v:=by
 unfold kC
 split
 · rename_i p
   simp only [List.map_cons,List.map_nil,dk,aE] at h
   exact h
 · rename_i hn
   unfold dk at h
   split at h
   · rename_i r e
     cases ps with
     | nil=>simp at e
     | cons q qs=>
       cases qs with
       | nil=>exact absurd rfl (hn q)
       | cons _ _=>simp at e
   · obtain ⟨vs,e,h⟩:=h
     exact ⟨vs,e,pz h⟩
theorem s_ {AP:Nat→Option aJ} (hI:Impl P ns AP) (k:Nat):∀n,jc P ns (run AP k n)
 | 0=>⟨fun g f dE rs _ h=>by simp [run] at h,fun g f args ts rs sh sh' ts' _ _ h=>by simp [run] at h,fun g sz by_ f h1 h2=>(hI.Nd g sz by_ f h1 h2).elim xG⟩
 | n+1=>by
   have ih:=s_ hI k n
   refine ⟨fun g f dE rs hg h=>?_,fun g f args ts rs sh sh' ts' hg hp h=>?_,ih.c⟩
   · rcases hI.funcs f g hg with ⟨fn,A,af,h1,h2,h3⟩ | ⟨_,h3 | ⟨af,pf,h3,h4,_,h5⟩⟩
     · simp only [run,h3,Bv h2,Option.ite_none_right_eq_some] at h
       obtain ⟨⟨_,hN⟩,h⟩:=h
       split at h
       · rename_i xs x2 hb
         obtain ⟨sh',ts'⟩:=x2
         have hxs:=q_ h
         subst hxs
         intro K w vs hK hr
         let G0:Gh:={ K,role:=fun _=>.dV,pm:=fun _=>none,sm:=fun _=>none,tk:=fun _=>none }
         have hi:Inv (num ns) G0 w [] [] []:={
           known:=hK,bt:=fun _ _ _ _=>.inl rfl,fresh:=fun _ _=>rfl,da:=fun d c h=>by simp [look] at h,gN:=fun d b h=>by simp [G0] at h,
           dN:=fun s c h=>by simp at h,eZ:=fun s b h=>by simp [G0] at h,dp:=fun τ n h=>by simp at h,e8:=fun τ t h=>by simp [G0] at h }
         have hC:=(q9 hI.mixed hI.H7 hI.BU ih h1 h2 hi (fC (ρ:=num ns) (G:=G0) hr) (by simpa using hN) hb).1
         refine hC.mono ?_
         rintro e w' ⟨v,G',rfl,fD,hi',hevo⟩
         refine ⟨v,G'.K,rfl,Fx fD,hevo.K,fun b o u hb hk=>hevo.gB b o u hb rfl hk,hi'.known,⟨hevo.os,hevo.tape,hevo.output,hevo.size,fun b hb=>(hevo.dV b hb rfl).2⟩⟩
       · simp at h
     · simp only [run,h3] at h;cases h
     · simp only [run,h3,h4] at h
       exact h5 _ _ h
   · rcases hI.funcs f g hg with ⟨fn,A,af,h1,h2,h3⟩ | ⟨_,h3 | ⟨af,pf,h3,_,h4,_⟩⟩
     · simp only [run,h3,Option.ite_none_right_eq_some] at h
       obtain ⟨hN,h⟩:=h
       exact ⟨fun G w vs hi hr=>(q9 hI.mixed hI.H7 hI.BU ih h1 h2 hi hr hN h).1,ss h⟩
     · simp only [run,h3] at h;cases h
     · simp only [run,h3,Option.ite_none_right_eq_some] at h
       obtain ⟨_,h⟩:=h
       unfold cE at h
       rw [h4] at h
       simp [dF] at h
end
end Go.Ab
