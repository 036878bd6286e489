import Derived.Test.YthcoecdbgdhihaaGreatDoorAbControl
import Derived.Test.YthcoecdbgdhihaaGreatDoorAbClone
import Derived.RangeFuncLeaves
import Derived.RangeFuncRecord
/-
  Functions: n levels of calls of the evaluator are what the model does.
-/
set_option linter.unusedVariables false
set_option linter.unusedSimpArgs false
set_option linter.unnecessarySimpa false
set_option maxRecDepth 100000
set_option maxHeartbeats 8000000
namespace Go.Ab
section
variable {P:Program} {ns:Names} {G:Gh} {w:World}
theorem rC:∀{l:List AV} {i t:Nat} {v:AV},look (cE i l) t=some v→i≤t∧l[t-i]?=some v
 | [],i,t,v,h=>by simp [cE,look] at h
 | x::l,i,t,v,h=>by
   simp only [cE,look] at h
   split at h
   · rename_i e;subst e;cases h;simp
   · rename_i hne
     obtain ⟨h1,h2⟩:=rC h
     refine ⟨by omega,?_⟩
     rw [show t-i=(t-(i+1))+1 from by omega]
     simpa using h2
theorem Hl {N:Nat} {args:List AV} {vs:List Value} (hr:az (num ns) G args vs) (hN:args.length≤N) :
   lb (num ns) G N (cE 0 args) { tmps:=vs.toArray++Array.replicate (N-vs.toArray.size) undef,defers:=[] }:=by
 have hl:=hr.length
 refine ⟨by simp;omega,fun t x hx=>?_⟩
 obtain ⟨_,h2⟩:=rC hx
 simp only [Nat.sub_zero] at h2
 obtain ⟨v,h3,h4⟩:=hr.get h2
 refine ⟨v,?_,h4⟩
 rw [Array.getElem?_append_left (by have:=(List.getElem?_eq_some_iff.1 h3).1;simpa using this)]
 simpa using h3
theorem pC {n0 N:Nat} {st:St} {a:Act} (hs:gO (num ns) n0 N G st a w) {F:ResultVar→Sem Value} (hF1:∀t,F (.tmp t)=pure (a.tmps.getD t undef)) (hF2:∀ad t,F (.cell ad t)=(do loadVar t (←asAddr (a.tmps.getD ad undef)))):∀{rvs:List ResultVar} {rs:List qv} {xs:List AV},cK (BW P) rvs=some rs→eo st rs=some xs →
   ∃vs,(rvs.mapM F).run P w=.ok vs w∧az (num ns) G xs vs
 | [],rs,xs,hc,hx=>by
   simp [cK] at hc;subst hc
   simp [eo] at hx;subst hx
   exact ⟨[],by simp,by simp [az]⟩
 | r::rvs,rs,xs,hc,hx=>by
   simp only [cK] at hc
   split at hc
   · rename_i ar ars h1 h2
     simp at hc;subst hc
     simp only [eo] at hx
     split at hx
     · rename_i v vs' g1 g2
       simp at hx;subst hx
       obtain ⟨us,k1,k2⟩:=pC hs hF1 hF2 h2 g2
       have one:∃u,(F r).run P w=.ok u w∧aC (num ns) G v u:=by
         cases r with
         | tmp t=>
           simp [BW] at h1;subst h1
           simp only [oR] at g1
           obtain ⟨u,e1,e2⟩:=hs.env.env t v g1
           exact ⟨u,by rw [hF1];simp [e1],e2⟩
         | cell ad t=>
           simp only [BW] at h1
           split at h1
           · rename_i sz ag hsz hag
             simp at h1;subst h1
             simp only [oR] at g1
             split at g1
             · rename_i d e1
               split at g1
               · rename_i cs e2
                 simp only [Option.ite_none_right_eq_some] at g1
                 obtain ⟨rfl,g1⟩:=g1
                 obtain ⟨u,f1,f2⟩:=hs.env.env _ _ e1
                 simp only [aC] at f2
                 obtain ⟨b,hp,rfl⟩:=f2
                 obtain ⟨b',hp',hblk,_⟩:=hs.inv.dk _ _ e2
                 rw [hp] at hp';cases hp'
                 obtain ⟨_,c,ty,hh,hrel⟩:=hblk
                 obtain ⟨u,q1,q2⟩:=fq (w:=w) hsz hag g1 hrel (f_ hh)
                 exact ⟨u,by rw [hF2];simp [f1,asAddr,q1],q2⟩
               · cases g1
             · rename_i s e1
               split at g1
               · rename_i cs e2
                 split at g1
                 · cases g1
                 · rename_i hm
                   obtain ⟨u,f1,f2⟩:=hs.env.env _ _ e1
                   simp only [aC] at f2
                   obtain ⟨b,hp,rfl⟩:=f2
                   obtain ⟨b',hp',hblk,_⟩:=hs.inv.dM _ _ e2
                   rw [hp] at hp';cases hp'
                   obtain ⟨_,c,ty,vs,suf,hh,_,hsp,hrel⟩:=hblk.cells (by simpa using hm)
                   obtain ⟨u,q1,q2⟩:=fq (w:=w) hsz hag g1 hrel (m9 hh hsp)
                   exact ⟨u,by rw [hF2];simp [f1,asAddr,q1],q2⟩
               · cases g1
             · cases g1
           · simp at h1
       obtain ⟨u,o1,o2⟩:=one
       refine ⟨u::us,?_,?_⟩
       · rw [List.mapM_cons]
         simp only [Sem.run_bind]
         rw [o1]
         simp only [Result.andThen_ok]
         rw [k1]
         rfl
       · simp only [az];exact ⟨u,us,rfl,o2,k2⟩
     · simp at hx
   · simp at hc
theorem mQ {G':Gh} {sh:Sh} {ks:List Nat} (hle:G.le G') (hf:jz ns G G' sh ks) (hl:∀(s:Nat) (cells:List AV),sh[s]?=some (some cells)→cells.all bp=true)
   {x:AV} {v:Value} (ha:∀s∈eZ x,s∈ks) (h:aC (num ns) G x v):aC (num ns) G' (qC sh x) v:=by
 unfold qC
 split
 · rename_i p hp
   simp only [aC]
   exact qP hle hf hl ha hp h
 · exact h.mono hle
theorem Hm {G':Gh} {sh:Sh} {ks:List Nat} (hle:G.le G') (hf:jz ns G G' sh ks) (hl:∀(s:Nat) (cells:List AV),sh[s]?=some (some cells)→cells.all bp=true)
   {x:AV} {v:Value} (ha:bp x=true→∀s∈eZ x,s∈ks) (h:aC (num ns) G x v):aC (num ns) G' (sK sh x) v:=by
 unfold sK
 split
 · exact h.mono hle
 · split
   · rename_i hl'
     exact mQ hle hf hl (ha hl') h
   · exact h.mono hle
theorem tU {G':Gh} {sh:Sh} {ks:List Nat} (hle:G.le G') (hf:jz ns G G' sh ks) (hl:∀(s:Nat) (cells:List AV),sh[s]?=some (some cells)→cells.all bp=true) :
   ∀{cs:List AV} {vs:List Value},(∀s∈eZ (.agg cs),s∈ks)→az (num ns) G cs vs→az (num ns) G' (cs.map (sK sh)) vs
 | [],vs,_,h=>by simpa [az] using h
 | c::cs,vs,ha,h=>by
   simp only [az] at h
   obtain ⟨v,r,e,e1,e2⟩:=h
   simp only [List.map_cons,az]
   refine ⟨v,r,e,Hm hle hf hl (fun hb s hs=>ha s ?_) e1,tU hle hf hl (fun s hs=>ha s ?_) e2⟩
   · simp only [eZ,List.flatMap_cons,List.mem_append]
     left
     cases c<;>simp_all [eZ,bp]
   · simp only [eZ,List.flatMap_cons,List.mem_append] at hs ⊢
     exact .inr hs
theorem Hn {G':Gh} {sh:Sh} {ks:List Nat} (hle:G.le G') (hf:jz ns G G' sh ks) (hl:∀(s:Nat) (cells:List AV),sh[s]?=some (some cells)→cells.all bp=true)
   {x:AV} {v:Value} (ha:∀s∈eZ x,s∈ks) (h:aC (num ns) G x v):aC (num ns) G' (za sh x) v:=by
 unfold za
 split
 · exact h.mono hle
 · exact h.mono hle
 · simp only [aC] at h ⊢
   obtain ⟨vs,e,r⟩:=h
   exact ⟨vs,e,tU hle hf hl ha r⟩
 · exact mQ hle hf hl ha h
theorem mR {G':Gh} {sh:Sh} {ks:List Nat} {F:Sh→AV→AV} (hF:∀{x:AV} {v:Value},(∀s∈eZ x,s∈ks)→aC (num ns) G x v→aC (num ns) G' (F sh x) v) :
   ∀{xs:List AV} {vs:List Value},(∀s∈xs.flatMap eZ,s∈ks)→az (num ns) G xs vs→az (num ns) G' (xs.map (F sh)) vs
 | [],vs,_,h=>by simpa [az] using h
 | x::xs,vs,ha,h=>by
   simp only [az] at h
   obtain ⟨v,r,e,e1,e2⟩:=h
   simp only [List.flatMap_cons,List.mem_append] at ha
   simp only [List.map_cons,az]
   exact ⟨v,r,e,hF (fun s hs=>ha s (.inl hs)) e1,mR hF (fun s hs=>ha s (.inr hs)) e2⟩
theorem Br {G':Gh} {sh:Sh} {ks:List Nat} {bq kst:Bool} (hle:G.le G') (hf:jz ns G G' sh ks) (hl:∀(s:Nat) (cells:List AV),sh[s]?=some (some cells)→cells.all bp=true)
   {xs:List AV} {vs:List Value} (ha:∀s∈xs.flatMap eZ,s∈ks) (h:az (num ns) G xs vs):az (num ns) G' (cN bq kst sh xs) vs:=by
 unfold cN
 split
 · split
   · exact az.mono hle h
   · exact mR (Hn hle hf hl) ha h
 · exact mR (mQ hle hf hl) ha h
theorem Bs {xs:List AV} {vs:List Value} (h:az (num ns) G xs vs):dm (num ns) G xs (if h:vs.toArray.size=1 then vs.toArray[0] else .tuple vs.toArray):=by
 unfold dm
 split
 · rename_i r
   simp only [az] at h
   obtain ⟨v,r',e,e1,e2⟩:=h
   subst e2;subst e
   simpa using e1
 · rename_i hn
   have hl:=h.length
   rw [dif_neg]
   · exact ⟨vs,rfl,h⟩
   · intro e
     simp at e
     rw [e] at hl
     cases xs with
     | nil=>simp at hl
     | cons x xs=>
       cases xs with
       | nil=>exact hn x rfl
       | cons _ _=>simp at hl
end
mutual
theorem rD {ρ:cx} {G G':Gh} {n:Nat} (hK:G.K.le G'.K) (hs:∀s b,s<n→G.sm s=some b→G'.sm s=some b):∀{x:AV} {v:Value},cB x=true→aV n x=true→aC ρ G x v→aC ρ G' x v
 | .pv p,_,_,_,h=>by simp only [aC] at h ⊢;exact h.mono hK
 | .bu s o,_,_,hr,h=>by simp [aV] at hr;simp only [aC] at h ⊢;obtain ⟨b,e,r⟩:=h;exact ⟨b,hs _ _ hr e,r⟩
 | .bI s _ n _,_,_,hr,h=>by simp [aV] at hr;simp only [aC] at h ⊢;obtain ⟨b,c,e,r⟩:=h;exact ⟨b,c,hs _ _ hr e,r⟩
 | .jI,_,_,_,h=>by simpa only [aC] using h
 | .jJ s,_,_,hr,h=>by simp [aV] at hr;simp only [aC] at h ⊢;obtain ⟨b,e,r⟩:=h;exact ⟨b,hs _ _ hr e,r⟩
 | .pN ..,_,hp,_,_=>by simp [cB] at hp
 | .fo _,_,_,_,h=>by simp only [aC] at h
 | .fn g cap,_,hp,hr,h=>by
   simp only [cB] at hp
   simp only [aV] at hr
   simp only [aC] at h ⊢
   obtain ⟨f,vs,e1,e2,r⟩:=h
   exact ⟨f,vs,e1,e2,oD hK hs hp hr r⟩
 | .un,_,hp,_,_=>by simp [cB] at hp
 | .bN _,_,_,_,h=>by simp only [aC] at h ⊢;obtain ⟨b,l,e,r⟩:=h;exact ⟨b,l,e,r.mono hK⟩
 | .own _ _,_,hp,_,_=>by simp [cB] at hp
 | .agg _,_,hp,hr,h=>by
   simp only [cB] at hp
   simp only [aV] at hr
   simp only [aC] at h ⊢
   obtain ⟨vs,e,r⟩:=h
   exact ⟨vs,e,oD hK hs hp hr r⟩
 | .oP _,_,hp,_,_=>by simp [cB] at hp
 | .aG _ _,_,hp,_,_=>by simp [cB] at hp
 | .fR _,_,hp,_,_=>by simp [cB] at hp
theorem oD {ρ:cx} {G G':Gh} {n:Nat} (hK:G.K.le G'.K) (hs:∀s b,s<n→G.sm s=some b→G'.sm s=some b):∀{xs:List AV} {vs:List Value},cB.jL xs=true→aV.cU n xs=true→az ρ G xs vs→az ρ G' xs vs
 | [],_,_,_,h=>by simpa only [az] using h
 | x::xs,_,hp,hr,h=>by
   simp only [cB.jL,Bool.and_eq_true] at hp
   simp only [aV.cU,Bool.and_eq_true] at hr
   simp only [az] at h ⊢
   obtain ⟨v,r,e,e1,e2⟩:=h
   exact ⟨v,r,e,rD hK hs hp.1 hr.1 e1,oD hK hs hp.2 hr.2 e2⟩
end
section
variable {P:Program} {ns:Names} {G:Gh} {w:World}
theorem rE {ρ:cx} {G':Gh} {n:Nat} (hK:G.K.le G'.K) (hs:∀s b,s<n→G.sm s=some b→G'.sm s=some b) (ht:∀τ t,G.tk τ=some t→G'.tk τ=some t):∀{xs:List AV} {vs:List Value},e8 xs=true→aV.cU n xs=true→az ρ G xs vs→az ρ G' xs vs
 | [],_,_,_,h=>by simpa only [az] using h
 | x::xs,_,hp,hr,h=>by
   simp only [e8,Bool.and_eq_true] at hp
   simp only [aV.cU,Bool.and_eq_true] at hr
   simp only [az] at h ⊢
   obtain ⟨v,r,e,e1,e2⟩:=h
   refine ⟨v,r,e,?_,rE hK hs ht hp.2 hr.2 e2⟩
   cases x with
   | own l τ=>
     simp only [aC] at e1 ⊢
     obtain ⟨t,a1,a2,a3,a4⟩:=e1
     exact ⟨t,ht _ _ a1,a2,a3.mono hK,fun hl=>⟨(a4 hl).1,IS (a4 hl).2 fun ⟨b,o,e,r⟩=>⟨b,o,e,Row.mono hK _ _ _ _ r⟩⟩⟩
   | _=>exact rD hK hs (show cB _=true from hp.1) hr.1 e1
theorem EW {ρ:cx} {G':Gh} {n:Nat} (hK:G.K.le G'.K) (hs:∀s b,s<n→G.sm s=some b→G'.sm s=some b) (ht:∀τ t,G.tk τ=some t→G'.tk τ=some t) {x:AV} {v:Value} (hp:cr x=true) (hr:aV n x=true) (h:aC ρ G x v):aC ρ G' x v:=by
 cases x with
 | own l τ=>
   simp only [aC] at h ⊢
   obtain ⟨t,e1,e2,e3,e4⟩:=h
   exact ⟨t,ht _ _ e1,e2,e3.mono hK,fun hl=>⟨(e4 hl).1,IS (e4 hl).2 fun ⟨b,o,e,r⟩=>⟨b,o,e,Row.mono hK _ _ _ _ r⟩⟩⟩
 | agg cs=>
   simp only [aV] at hr
   simp only [aC] at h ⊢
   obtain ⟨vs,e,r⟩:=h
   exact ⟨vs,e,rE hK hs ht (by simpa [cr] using hp) hr r⟩
 | _=>exact rD hK hs (show cB _=true from hp) hr h
theorem mS {ρ:cx} {G':Gh} {n:Nat} (hK:G.K.le G'.K) (hs:∀s b,s<n→G.sm s=some b→G'.sm s=some b) (ht:∀τ t,G.tk τ=some t→G'.tk τ=some t):∀{xs:List AV} {vs:List Value},xs.all cr=true→xs.all (aV n)=true→az ρ G xs vs→az ρ G' xs vs
 | [],_,_,_,h=>by simpa only [az] using h
 | x::xs,_,hp,hr,h=>by
   simp only [List.all_cons,Bool.and_eq_true] at hp hr
   simp only [az] at h ⊢
   obtain ⟨v,r,e,e1,e2⟩:=h
   exact ⟨v,r,e,EW hK hs ht hp.1 hr.1 e1,mS hK hs ht hp.2 hr.2 e2⟩
def Gh.bare (G:Gh):Gh:={ G with pm:=fun _=>none,role:=fun b=>match G.role b with | .kK _=>.eA | r=>r }
theorem Inv.bare {mem:List (Nat×List AV)} {sh:Sh} {ts:aN} (hi:Inv (num ns) G w mem sh ts):Inv (num ns) G.bare w [] sh ts where
 known:=hi.known
 bt:=fun b o v hk=>by
   rcases hi.bt b o v hk with h | ⟨τ,h⟩
   · exact .inl (by simp [Gh.bare,h])
   · exact .inr ⟨τ,by simp [Gh.bare,h]⟩
 fresh:=fun b hb=>by simp [Gh.bare,hi.fresh b hb]
 dk:=fun d cells h=>by simp [look] at h
 gI:=fun d b h=>by simp [Gh.bare] at h
 dM:=fun s cells hs=>by
   obtain ⟨b,e1,e2,e3,e4⟩:=hi.dM s cells hs
   obtain ⟨hr,o,hh,hrel⟩:=e2
   exact ⟨b,e1,⟨by simp [Gh.bare,hr],o,hh,hrel.to (fun _ _ _ h=>h) (fun _ e=>e) (fun _ r=>jc (G:=G) (G':=G.bare) (bE.le_refl _) (fun _ _ h=>h) (fun _ _ h=>h) (iN e3) r)⟩,e3,e4⟩
 eE:=hi.eE
 dE:=fun τ n h=>by
   obtain ⟨t,e1,e2,e3⟩:=hi.dE τ n h
   refine ⟨t,e1,e2,e3.cap,e3.zero,fun hlt=>?_⟩
   obtain ⟨b,o,c,ty,f1,f2,f3,f4,f5⟩:=e3.spare hlt
   exact ⟨b,o,c,ty,f1,by simp [Gh.bare,f2],f3,f4,f5⟩
 eW:=hi.eW
 jM:=fun b c hb=>⟨by simp [Gh.bare,(hi.jM b c hb).1],(hi.jM b c hb).2⟩
def Gh.mm (G:Gh) (n:Nat):Gh:={ G with sm:=fun s=>if s<n then G.sm s else none }
theorem Inv.mm {sh:Sh} {ts:aN} (hi:Inv (num ns) G w [] sh ts) (n:Nat):Inv (num ns) (G.mm n) w [] (sh.take n) ts where
 known:=hi.known
 bt:=hi.bt
 fresh:=hi.fresh
 dk:=fun d cells h=>by simp [look] at h
 gI:=hi.gI
 dM:=fun s cells hs=>by
   rw [List.getElem?_take] at hs
   split at hs
   · rename_i hlt
     obtain ⟨b,e1,e2,e3,e4⟩:=hi.dM s cells hs
     obtain ⟨hr,o,hh,hrel⟩:=e2
     exact ⟨b,by simp [Gh.mm,hlt,e1],⟨hr,o,hh,hrel.to (fun _ _ _ h=>h) (fun _ e=>e) (fun _ r=>mS (G:=G) (G':=G.mm n) (n:=s+1) (bE.le_refl G.K) (fun s' b' hs' h=>by simp only [Gh.mm];rw [if_pos (by omega)];exact h) (fun _ _ h=>h) (iN e3) e4 r)⟩,e3,e4⟩
   · simp at hs
 eE:=fun s b h=>by
   simp only [Gh.mm] at h
   split at h
   · have:=hi.eE s b h;simp;omega
   · simp at h
 dE:=fun τ n h=>by
   obtain ⟨t,e1,e2,e3⟩:=hi.dE τ n h
   exact ⟨t,e1,e2,e3.cap,e3.zero,e3.spare⟩
 eW:=hi.eW
 jM:=hi.jM
theorem Inv.shut {mem:List (Nat×List AV)} {sh:Sh} {ah:aN} {D:Nat} {x:Option (List Deferred)} (hi:Inv (num ns) G w mem sh ah) (hD:w.heap[D]?=some (.deferred x)) :
   Inv (num ns) G (w.putObj D (.deferred none)) mem sh ah:=by
 have hne:∀{b:Nat} {c:Array Value} {t:TypeId},w.heap[b]?=some (.cells c t (0,0))→(w.putObj D (.deferred none)).heap[b]?=some (.cells c t (0,0)):=by
   intro b c t h
   rw [World.putObj_heap_other]
   · exact h
   · rintro rfl;rw [hD] at h;cases h
 have hsize:(w.putObj D (.deferred none)).heap.size=w.heap.size:=by simp [World.putObj]
 refine { hi with known:=?_,fresh:=?_,dk:=?_,dM:=?_,dE:=?_,jM:=?_ }
 · intro b o v hk
   have h:=hi.known b o v hk
   rw [←h]
   have:b≠D:=by rintro rfl;simp [World.cell?,hD] at h
   simp only [World.cell?,World.putObj_heap_other this]
 · intro b hb;exact hi.fresh b (by omega)
 · intro k cs hk
   obtain ⟨b,e1,⟨e2,c,t,e3,e4⟩,e5⟩:=hi.dk k cs hk
   exact ⟨b,e1,⟨e2,c,t,hne e3,e4⟩,e5⟩
 · intro k cs hk
   obtain ⟨b,e1,⟨e2,o,e3,e4⟩,e5⟩:=hi.dM k cs hk
   refine ⟨b,e1,⟨e2,o,?_,e4⟩,e5⟩
   rw [World.putObj_heap_other]
   · exact e3
   · rintro rfl
     rw [hD] at e3;cases e3
     rcases e4 with ⟨_,_,_,_,h,_⟩ | ⟨_,_,_,h,_⟩<;>cases h
 · intro τ n hn
   obtain ⟨t,e1,e2,e3⟩:=hi.dE τ n hn
   refine ⟨t,e1,e2,e3.cap,e3.zero,fun hlt=>?_⟩
   obtain ⟨b,o,c,ty,f1,f2,f3,f4,f5⟩:=e3.spare hlt
   exact ⟨b,o,c,ty,f1,f2,hne f3,f4,f5⟩
 · intro b c hb
   obtain ⟨h1,t',z,h2⟩:=hi.jM b c hb
   refine ⟨h1,t',z,?_⟩
   rw [World.putObj_heap_other]
   · exact h2
   · rintro rfl;rw [hD] at h2;cases h2
theorem cp.shut {G':Gh} {w':World} {D:Nat} (he:cp G w G' w') (hD:w.heap.size≤D):cp G w G' (w'.putObj D (.deferred none)):=
 { he with
   size:=by simpa [World.putObj] using he.size
   os:=by simpa [World.putObj] using he.os
   tape:=by simpa [World.putObj] using he.tape
   output:=by simpa [World.putObj] using he.output
   eA:=fun b hb hr=>by
     obtain ⟨h1,h2⟩:=he.eA b hb hr
     exact ⟨h1,by rw [World.putObj_heap_other (by omega)];exact h2⟩ }
theorem pD {fn:Func} {tmps:Array Value} {R:Ending→World→Prop} {mem:List (Nat×List AV)} {sh:Sh} {ah:aN} {G':Gh}:∀(Ds:List Nat) (w':World),Inv (num ns) G' w' mem sh ah→cp G w G' w'→Ds.Nodup →
   (∀D∈Ds,w.heap.size≤D∧w'.heap[D]?=some (.deferred (some []))) →
   (∀w'',Inv (num ns) G' w'' mem sh ah→cp G w G' w''→∃v,(results fn tmps).run P w''=.ok v w''∧R (.returned v) w'') →
   LeavesInM Fence.wide 0 P fn tmps R (Ds.map (fun D=>{ target:=.collected D,args:=#[] })) .returning w'
 | [],w',hi,he,_,_,h=>h w' hi he
 | D::Ds,w',hi,he,hn,hD,h=>by
   obtain ⟨h1,h2⟩:=hD D (by simp)
   refine ⟨by simp,.inl ⟨D,_,rfl,run_takeDeferred h2,?_⟩⟩
   simp only [List.nodup_cons] at hn
   refine pD Ds _ (hi.shut h2) (he.shut h1) hn.2 (fun E hE=>?_) h
   obtain ⟨g1,g2⟩:=hD E (by simp [hE])
   refine ⟨g1,?_⟩
   rw [World.putObj_heap_other]
   · exact g2
   · rintro rfl;exact hn.1 hE
theorem rG (hm:P.follows .mixedOrders=true) (hB:eO P ns) (hBk:qb P ns) {orc:ek} (horc:gB P ns orc) {A:kS} {k f:Nat} {bq:Bool} {fn:Func} {af:aD} (hf:P.funcs[f]?=some fn) (hc:oS P ns A fn=some af)
   {args rs:List AV} {vs:List Value} {sh sh':Sh} {ts ts':aN} (hi:Inv (num ns) G w [] sh ts) (hr:az (num ns) G args vs) (hN:args.length≤af.ntmps) (h:cG orc k bq af args sh ts=some (rs,sh',ts')) :
   (Calls P f vs.toArray w fun e w'=>∃v G',e=.returned v∧dm (num ns) G' rs v∧Inv (num ns) G' w' [] sh' ts'∧cp G w G' w')∧rs.all cr=true:=by
 unfold oS at hc
 split at hc
 · rename_i c ars jv ga
   simp only [Option.ite_none_right_eq_some,Option.map_eq_some_iff] at hc
   obtain ⟨_,ac,hcc,rfl⟩:=hc
   unfold cG at h
   split at h
   · rename_i e st hev
     simp only [Option.ite_none_right_eq_some] at h
     obtain ⟨he,h⟩:=h
     split at h
     · rename_i xs hxs
       simp only [Option.ite_none_right_eq_some] at h
       obtain ⟨hpass,h⟩:=h
       let kst:=A.ks
       let shk:Sh:=eQ bq kst st.sh xs
       let KD:Sh:=if (cN bq kst st.sh xs).all (aV sh.length)=true then shk.take sh.length else shk
       have h:some ((dj st.ah (cN bq kst st.sh xs) KD).1,(dj st.ah (cN bq kst st.sh xs) KD).2.1,(dj st.ah (cN bq kst st.sh xs) KD).2.2.2)=some (rs,sh',ts'):=h
       simp only [Option.some.injEq,Prod.mk.injEq] at h
       obtain ⟨L2,hsh,hts⟩:=h
       have hpass':rs.all cr=true:=by rw [←L2];exact iw hpass
       refine ⟨?_,hpass'⟩
       refine callsIn_wide (n:=0).1 (callsIn_of_wp_marks hf jv trivial ?_ rfl)
       have hs0:gO (num ns) w.heap.size fn.ntmps G { env:=cE 0 args,mem:=[],sh,ah:=ts } { tmps:=vs.toArray++Array.replicate (fn.ntmps-vs.toArray.size) undef,defers:=[] } w:=⟨Hl hr hN,hi,Nat.le_refl _,[],rfl,by simp,by simp⟩
       refine iP (ro:=none) hm hB horc hBk hcc (.inl rfl) hev hs0 fun G' a' w1 hs1 hevo1=>?_
       have key:LeavesInM Fence.wide 0 P fn a'.tmps (fun e w'=>∃v G',e=.returned v∧dm (num ns) G' rs v∧Inv (num ns) G' w' [] sh' ts'∧cp G w G' w') a'.defers .returning w1:=by
         obtain ⟨m0,Ds,m1,m2,m3⟩:=hs1.marks
         rw [m1]
         refine pD Ds w1 hs1.inv hevo1 m2 (fun D hD=>⟨(m3 D hD).1,(m3 D hD).2.2.2⟩) ?_
         intro w' hi' hevo
         have hs':gO (num ns) w.heap.size fn.ntmps G' st { tmps:=a'.tmps,defers:=[] } w':=⟨⟨hs1.env.size,hs1.env.env⟩,hi',hevo.size,[],rfl,by simp,by simp⟩
         obtain ⟨us,u1,u2⟩:=pC (P:=P) hs' (F:=fun | .tmp t=>pure (a'.tmps.getD t undef) | .cell ad t=>do loadVar t (←asAddr (a'.tmps.getD ad undef))) (fun _=>rfl) (fun _ _=>rfl) ga hxs
         refine ⟨(if h:us.toArray.size=1 then us.toArray[0] else .tuple us.toArray),?_,?_⟩
         · unfold results
           rw [Array.mapM_eq_mapM_toList]
           simp only [Sem.run_bind,Sem.run_map]
           erw [u1]
           rfl
         · obtain ⟨G1,k1,k2,k3,hout⟩:∃G1,Inv (num ns) G1 w' st.mem shk st.ah∧G'.le G1∧cp G' w' G1 w'∧az (num ns) G1 (cN bq kst st.sh xs) us:=by
             by_cases hkk:(bq && kst)=true
             · refine ⟨G',?_,Gh.le_refl _,cp.refl _ _,?_⟩
               · have:shk=st.sh:=by simp only [shk,eQ,hkk,if_true]
                 rw [this];exact hs'.inv
               · have:cN bq kst st.sh xs=xs:=by
                   simp only [Bool.and_eq_true] at hkk
                   simp only [cN,hkk.1,hkk.2,if_true]
                 rw [this];exact u2
             · obtain ⟨G1,k1,k2,k3,k4,k5⟩:=Inv.kill (xs.flatMap eZ) hs'.inv
               refine ⟨G1,?_,k2,k3,Br (bq:=bq) k2 k4 hs'.inv.qQ (fun s hs=>hs) u2⟩
               have:shk=dZ st.sh xs:=by
                 simp only [shk,eQ]
                 rw [if_neg hkk]
               rw [this];exact k1
           have hbare:=jc (G:=G1) (G':=G1.bare) (bE.le_refl _) (fun _ _ h=>h) (fun _ _ h=>h) hpass hout
           have k1b:=k1.bare
           have hevo0:=hevo.trans k3
           obtain ⟨G2,i2,r2,e2⟩:∃G2,Inv (num ns) G2 w' [] KD st.ah∧az (num ns) G2 (cN bq kst st.sh xs) us∧cp G w G2 w':=by
             have bareEvo:cp G w G1.bare w':={
               size:=hevo0.size,os:=hevo0.os,tape:=hevo0.tape,output:=hevo0.output,K:=hevo0.K,sm:=hevo0.sm,
               eA:=fun b hb hr=>⟨by simp [Gh.bare,(hevo0.eA b hb hr).1],(hevo0.eA b hb hr).2⟩
               iD:=fun b τ hb hr=>by
                 rcases hevo0.iD b τ hb hr with h | ⟨τ',h⟩
                 · exact .inl (by simp [Gh.bare,h])
                 · exact .inr ⟨τ',by simp [Gh.bare,h]⟩
               gJ:=hevo0.gJ }
             by_cases href:(cN bq kst st.sh xs).all (aV sh.length)=true
             · have hshd:KD=shk.take sh.length:=if_pos href
               rw [hshd]
               refine ⟨G1.bare.mm sh.length,k1b.mm sh.length,mS (G:=G1.bare) (G':=G1.bare.mm sh.length) (n:=sh.length) (bE.le_refl _) (fun s b hs h=>by simp only [Gh.mm];rw [if_pos hs];exact h) (fun _ _ h=>h) hpass href hbare,?_⟩
               exact { size:=bareEvo.size,os:=bareEvo.os,tape:=bareEvo.tape,output:=bareEvo.output,K:=bareEvo.K,
                       sm:=fun s b hsb=>by
                         have:=hi.eE s b hsb
                         show (if s<sh.length then G1.sm s else none)=some b
                         rw [if_pos this];exact bareEvo.sm s b hsb
                       eA:=bareEvo.eA,iD:=bareEvo.iD,gJ:=bareEvo.gJ }
             · have hshd:KD=shk:=if_neg href
               rw [hshd]
               exact ⟨G1.bare,k1b,hbare,bareEvo⟩
           obtain ⟨m,tks,hNS,hto,hrel⟩:=i2.FY hpass r2
           rw [L2] at hrel
           rw [hsh,hts] at hto
           exact ⟨_,G2.to m tks,rfl,Bs hrel,hto,e2.to m tks⟩
       cases e with
       | normal=>exact key
       | ret=>exact key
       | exit id=>simp at he
     · simp at h
   · simp at h
 · simp at hc
theorem sY {orc:ek} {k:Nat} {bq:Bool} {af:aD} {args rs:List AV} {sh sh':Sh} {ts ts':aN} (h:cG orc k bq af args sh ts=some (rs,sh',ts')):rs.all cr=true:=by
 unfold cG at h
 split at h
 · split at h
   · split at h
     · simp only [Option.ite_none_right_eq_some] at h
       obtain ⟨hp,h⟩:=h
       have e:=congrArg Prod.fst (Option.some.inj h)
       dsimp only at e
       rw [←e];exact iw hp
     · simp at h
   · simp at h
 · simp at h
structure Impl (P:Program) (ns:Names) (AP:Nat→Option aD):Prop where
 mixed:P.follows .mixedOrders=true
 funcs:∀f g,ns.of f=some g→(∃fn A af,P.funcs[f]?=some fn∧oS P ns A fn=some af∧AP g=some af) ∨
   ((∃fn b,P.funcs[f]?=some fn∧fn.body=some b∧fn.name ≠ "runtime.NumGoroutine") ∧
     (AP g=none∨∃af pf,AP g=some af∧af.pO=some pf∧af.body=.exit 0∧∀orc,gB P ns orc→∀dt rs,pf.f orc.p dt=some rs→tz P ns f dt rs))
 FR:qb P ns
 L3:∀g sz bytes f,look ns.cl g=some (sz,bytes)→ns.of f=some g→Nonempty (ix P ns f sz bytes)
theorem Impl.vB {AP:Nat→Option aD} (h:Impl P ns AP):eO P ns:=by
 intro f g hg
 rcases h.funcs f g hg with ⟨fn,A,af,h1,h2,_⟩ | ⟨⟨fn,b,h1,h2,h3⟩,_⟩
 · unfold oS at h2
   split at h2
   · rename_i b rs hb _
     simp only [Option.ite_none_right_eq_some] at h2
     obtain ⟨⟨_,hn⟩,_⟩:=h2
     exact ⟨fn,b,h1,hb,by simpa using hn⟩
   · simp at h2
 · exact ⟨fn,b,h1,h2,h3⟩
theorem Bt {A:kS} {fn:Func} {af:aD} (h:oS P ns A fn=some af):af.pO=none:=by
 unfold oS at h
 split at h
 · simp only [Option.ite_none_right_eq_some,Option.map_eq_some_iff] at h
   obtain ⟨_,_,_,rfl⟩:=h
   rfl
 · simp at h
theorem rH:∀{rs:List AV} {ps:List PV},fK rs=some ps→rs=ps.map .pv
 | [],ps,h=>by simp [fK] at h;subst h;rfl
 | x::rs,ps,h=>by
   cases x with
   | pv p=>
     simp only [fK,Option.map_eq_some_iff] at h
     obtain ⟨qs,h1,rfl⟩:=h
     simp [rH h1]
   | _=>simp [fK] at h
theorem pE:∀{ps:List PV} {vs:List Value},az (num ns) G (ps.map .pv) vs→iV G.K ps vs
 | [],vs,h=>by simp only [List.map_nil,az] at h;exact h
 | p::ps,vs,h=>by
   simp only [List.map_cons,az] at h
   obtain ⟨v,r,e,e1,e2⟩:=h
   simp only [aC] at e1
   exact ⟨v,r,e,e1,pE e2⟩
theorem EX {ps:List PV} {v:Value} (h:dm (num ns) G (ps.map .pv) v):hZ G.K ps v:=by
 unfold hZ
 split
 · rename_i p
   simp only [List.map_cons,List.map_nil,dm,aC] at h
   exact h
 · rename_i hn
   unfold dm at h
   split at h
   · rename_i r e
     cases ps with
     | nil=>simp at e
     | cons q qs=>
       cases qs with
       | nil=>exact absurd rfl (hn q)
       | cons _ _=>simp at e
   · obtain ⟨vs,e,h⟩:=h
     exact ⟨vs,e,pE h⟩
theorem tV {AP:Nat→Option aD} (hI:Impl P ns AP) (k:Nat):∀n,gB P ns (run AP k n)
 | 0=>⟨fun g f dt rs _ h=>by simp [run] at h,fun g f args ts rs sh sh' ts' _ _ h=>by simp [run] at h,fun g sz by_ f h1 h2=>(hI.L3 g sz by_ f h1 h2).elim yc⟩
 | n+1=>by
   have ih:=tV hI k n
   refine ⟨fun g f dt rs hg h=>?_,fun g f args ts rs sh sh' ts' hg hp h=>?_,ih.c⟩
   · rcases hI.funcs f g hg with ⟨fn,A,af,h1,h2,h3⟩ | ⟨_,h3 | ⟨af,pf,h3,h4,_,h5⟩⟩
     · simp only [run,h3,Bt h2,Option.ite_none_right_eq_some] at h
       obtain ⟨⟨_,hN⟩,h⟩:=h
       split at h
       · rename_i xs x2 hb
         obtain ⟨sh',ts'⟩:=x2
         have hxs:=rH h
         subst hxs
         intro K w vs hpin hK hr
         let G0:Gh:={ K,role:=fun _=>.eA,pm:=fun _=>none,sm:=fun _=>none,tk:=fun _=>none }
         have hi:Inv (num ns) G0 w [] [] []:={
           known:=hK,bt:=fun _ _ _ _=>.inl rfl,fresh:=fun _ _=>rfl,dk:=fun d c h=>by simp [look] at h,gI:=fun d b h=>by simp [G0] at h,
           dM:=fun s c h=>by simp at h,eE:=fun s b h=>by simp [G0] at h,dE:=fun τ n h=>by simp at h,eW:=fun τ t h=>by simp [G0] at h,jM:=fun b c hb=>⟨rfl,hpin b c hb⟩ }
         have hC:=(rG hI.mixed hI.vB hI.FR ih h1 h2 hi (fZ (ρ:=num ns) (G:=G0) hr) (by simpa using hN) hb).1
         refine hC.mono ?_
         rintro e w' ⟨v,G',rfl,ga,hi',hevo⟩
         refine ⟨v,G'.K,rfl,EX ga,hevo.K,fun b o u hb hk=>hevo.gJ b o u hb rfl hk,hi'.known,⟨hevo.os,hevo.tape,hevo.output,hevo.size,fun b hb=>(hevo.eA b hb rfl).2⟩⟩
       · simp at h
     · simp only [run,h3] at h;cases h
     · simp only [run,h3,h4] at h
       exact h5 _ ih _ _ h
   · rcases hI.funcs f g hg with ⟨fn,A,af,h1,h2,h3⟩ | ⟨_,h3 | ⟨af,pf,h3,_,h4,_⟩⟩
     · simp only [run,h3,Option.ite_none_right_eq_some] at h
       obtain ⟨hN,h⟩:=h
       exact ⟨fun G w vs hi hr=>(rG hI.mixed hI.vB hI.FR ih h1 h2 hi hr hN h).1,sY h⟩
     · simp only [run,h3] at h;cases h
     · simp only [run,h3,Option.ite_none_right_eq_some] at h
       obtain ⟨_,h⟩:=h
       unfold cG at h
       rw [h4] at h
       simp [dd] at h
end
end Go.Ab
