import Derived.Test.YthcoecdbgdhihaaGreatDoorAbControl
import Derived.Test.YthcoecdbgdhihaaGreatDoorAbClone
import Derived.RangeFuncLeaves
import Derived.RangeFuncRecord
/-
  Functions: n levels of calls of the evaluator are what the model does.
-/
set_option linter.unusedVariables false
set_option linter.unusedSimpArgs false
set_option linter.unnecessarySimpa false
set_option maxRecDepth 100000
set_option maxHeartbeats 8000000
namespace Go.Ab
section
variable {P:Program} {ns:Names} {G:Gh} {w:World}
theorem rX:∀{l:List AV} {i t:Nat} {v:AV},look (cG i l) t=some v→i≤t∧l[t-i]?=some v
 | [],i,t,v,h=>by simp [cG,look] at h
 | x::l,i,t,v,h=>by
   simp only [cG,look] at h;split at h
   · rename_i e;subst e;cases h;simp
   · rename_i hne;obtain ⟨h1,h2⟩:=rX h;refine ⟨by omega,?_⟩;rw [show t-i=(t-(i+1))+1 from by omega];simpa using h2
theorem HZ {N:Nat} {args:List AV} {vs:List Value} (hr:aB (num ns) G args vs) (hN:args.length≤N) :
   lu (num ns) G N (cG 0 args) { tmps:=vs.toArray++Array.replicate (N-vs.toArray.size) undef,defers:=[] }:=by
 have hl:=hr.length;refine ⟨by simp;omega,fun t x hx=>?_⟩;obtain ⟨_,h2⟩:=rX hx;simp only [Nat.sub_zero] at h2;obtain ⟨v,h3,h4⟩:=hr.get h2;refine ⟨v,?_,h4⟩;rw [Array.getElem?_append_left (by have:=(List.getElem?_eq_some_iff.1 h3).1;simpa using this)];simpa using h3
theorem pW {n0 N:Nat} {st:St} {a:Act} (hs:gT (num ns) n0 N G st a w) {F:ResultVar→Sem Value} (hF1:∀t,F (.tmp t)=pure (a.tmps.getD t undef)) (hF2:∀ad t,F (.cell ad t)=(do loadVar t (←asAddr (a.tmps.getD ad undef)))):∀{rvs:List ResultVar} {rs:List qN} {xs:List AV},cL (Ct P) rvs=some rs→et st rs=some xs →
   ∃vs,(rvs.mapM F).run P w=.ok vs w∧aB (num ns) G xs vs
 | [],rs,xs,hc,hx=>by
   simp [cL] at hc;subst hc;simp [et] at hx;subst hx;exact ⟨[],by simp,by simp [aB]⟩
 | r::rvs,rs,xs,hc,hx=>by
   simp only [cL] at hc;split at hc
   · rename_i ar ars h1 h2;simp at hc;subst hc;simp only [et] at hx;split at hx
     · rename_i v vs' g1 g2;simp at hx;subst hx;obtain ⟨us,k1,k2⟩:=pW hs hF1 hF2 h2 g2
       have one:∃u,(F r).run P w=.ok u w∧aC (num ns) G v u:=by
         cases r with
         | tmp t=>
           simp [Ct] at h1;subst h1;simp only [pj] at g1;obtain ⟨u,e1,e2⟩:=hs.env.env t v g1;exact ⟨u,by rw [hF1];simp [e1],e2⟩
         | cell ad t=>
           simp only [Ct] at h1;split at h1
           · rename_i sz ag hsz hag;simp at h1;subst h1;simp only [pj] at g1;split at g1
             · rename_i d e1;split at g1
               · rename_i cs e2;simp only [Option.ite_none_right_eq_some] at g1;obtain ⟨rfl,g1⟩:=g1;obtain ⟨u,f1,f2⟩:=hs.env.env _ _ e1;simp only [aC] at f2;obtain ⟨b,hp,rfl⟩:=f2;obtain ⟨b',hp',hblk,_⟩:=hs.inv.dq _ _ e2;rw [hp] at hp';cases hp';obtain ⟨_,c,ty,hh,hrel⟩:=hblk;obtain ⟨u,q1,q2⟩:=fH (w:=w) hsz hag g1 hrel (gj hh);exact ⟨u,by rw [hF2];simp [f1,asAddr,q1],q2⟩
               · cases g1
             · rename_i s e1;split at g1
               · rename_i cs e2;split at g1
                 · cases g1
                 · rename_i hm;obtain ⟨u,f1,f2⟩:=hs.env.env _ _ e1;simp only [aC] at f2;obtain ⟨b,hp,rfl⟩:=f2;obtain ⟨b',hp',hblk,_⟩:=hs.inv.dP _ _ e2;rw [hp] at hp';cases hp';obtain ⟨_,c,ty,vs,suf,hh,_,hsp,hrel⟩:=hblk.cells (by simpa using hm);obtain ⟨u,q1,q2⟩:=fH (w:=w) hsz hag g1 hrel (nr hh hsp);exact ⟨u,by rw [hF2];simp [f1,asAddr,q1],q2⟩
               · cases g1
             · cases g1
           · simp at h1
       obtain ⟨u,o1,o2⟩:=one;refine ⟨u::us,?_,?_⟩
       · rw [List.mapM_cons];simp only [Sem.run_bind];rw [o1];simp only [Result.andThen_ok];rw [k1];rfl
       · simp only [aB];exact ⟨u,us,rfl,o2,k2⟩
     · simp at hx
   · simp at hc
theorem na {G':Gh} {sh:Sh} {ks:List Nat} (hle:G.le G') (hf:jE ns G G' sh ks) (hl:∀(s:Nat) (cells:List AV),sh[s]?=some (some cells)→cells.all bp=true)
   {x:AV} {v:Value} (ha:∀s∈fm x,s∈ks) (h:aC (num ns) G x v):aC (num ns) G' (qU sh x) v:=by
 unfold qU;split
 · rename_i p hp;simp only [aC];exact rh hle hf hl ha hp h
 · exact h.mono hle
theorem H0 {G':Gh} {sh:Sh} {ks:List Nat} (hle:G.le G') (hf:jE ns G G' sh ks) (hl:∀(s:Nat) (cells:List AV),sh[s]?=some (some cells)→cells.all bp=true)
   {x:AV} {v:Value} (ha:bp x=true→∀s∈fm x,s∈ks) (h:aC (num ns) G x v):aC (num ns) G' (th sh x) v:=by
 unfold th;split
 · exact h.mono hle
 · split
   · rename_i hl';exact na hle hf hl (ha hl') h
   · exact h.mono hle
theorem um {G':Gh} {sh:Sh} {ks:List Nat} (hle:G.le G') (hf:jE ns G G' sh ks) (hl:∀(s:Nat) (cells:List AV),sh[s]?=some (some cells)→cells.all bp=true) :
   ∀{cs:List AV} {vs:List Value},(∀s∈fm (.agg cs),s∈ks)→aB (num ns) G cs vs→aB (num ns) G' (cs.map (th sh)) vs
 | [],vs,_,h=>by simpa [aB] using h
 | c::cs,vs,ha,h=>by
   simp only [aB] at h;obtain ⟨v,r,e,e1,e2⟩:=h;simp only [List.map_cons,aB];refine ⟨v,r,e,H0 hle hf hl (fun hb s hs=>ha s ?_) e1,um hle hf hl (fun s hs=>ha s ?_) e2⟩
   · simp only [fm,List.flatMap_cons,List.mem_append];left;cases c<;>simp_all [fm,bp]
   · simp only [fm,List.flatMap_cons,List.mem_append] at hs ⊢;exact .inr hs
theorem H3 {G':Gh} {sh:Sh} {ks:List Nat} (hle:G.le G') (hf:jE ns G G' sh ks) (hl:∀(s:Nat) (cells:List AV),sh[s]?=some (some cells)→cells.all bp=true)
   {x:AV} {v:Value} (ha:∀s∈fm x,s∈ks) (h:aC (num ns) G x v):aC (num ns) G' (zM sh x) v:=by
 unfold zM;split
 · exact h.mono hle
 · exact h.mono hle
 · simp only [aC] at h ⊢;obtain ⟨vs,e,r⟩:=h;exact ⟨vs,e,um hle hf hl ha r⟩
 · exact na hle hf hl ha h
theorem nb {G':Gh} {sh:Sh} {ks:List Nat} {F:Sh→AV→AV} (hF:∀{x:AV} {v:Value},(∀s∈fm x,s∈ks)→aC (num ns) G x v→aC (num ns) G' (F sh x) v) :
   ∀{xs:List AV} {vs:List Value},(∀s∈xs.flatMap fm,s∈ks)→aB (num ns) G xs vs→aB (num ns) G' (xs.map (F sh)) vs
 | [],vs,_,h=>by simpa [aB] using h
 | x::xs,vs,ha,h=>by
   simp only [aB] at h;obtain ⟨v,r,e,e1,e2⟩:=h;simp only [List.flatMap_cons,List.mem_append] at ha;simp only [List.map_cons,aB];exact ⟨v,r,e,hF (fun s hs=>ha s (.inl hs)) e1,nb hF (fun s hs=>ha s (.inr hs)) e2⟩
theorem BX {G':Gh} {sh:Sh} {ks:List Nat} {bq kst:Bool} (hle:G.le G') (hf:jE ns G G' sh ks) (hl:∀(s:Nat) (cells:List AV),sh[s]?=some (some cells)→cells.all bp=true)
   {xs:List AV} {vs:List Value} (ha:∀s∈xs.flatMap fm,s∈ks) (h:aB (num ns) G xs vs):aB (num ns) G' (cP bq kst sh xs) vs:=by
 unfold cP;split
 · split
   · exact aB.mono hle h
   · exact nb (H3 hle hf hl) ha h
 · exact nb (na hle hf hl) ha h
theorem BY {xs:List AV} {vs:List Value} (h:aB (num ns) G xs vs):dt (num ns) G xs (if h:vs.toArray.size=1 then vs.toArray[0] else .tuple vs.toArray):=by
 unfold dt;split
 · rename_i r;simp only [aB] at h;obtain ⟨v,r',e,e1,e2⟩:=h;subst e2;subst e;simpa using e1
 · rename_i hn;have hl:=h.length;rw [dif_neg]
   · exact ⟨vs,rfl,h⟩
   · intro e;simp at e;rw [e] at hl;cases xs with
     | nil=>simp at hl
     | cons x xs=>
       cases xs with
       | nil=>exact hn x rfl
       | cons _ _=>simp at hl
end
mutual
theorem rY {ρ:cy} {G G':Gh} {n:Nat} (hK:G.K.le G'.K) (hs:∀s b,s<n→G.sm s=some b→G'.sm s=some b):∀{x:AV} {v:Value},cC x=true→aW n x=true→aC ρ G x v→aC ρ G' x v
 | .pv p,_,_,_,h=>by simp only [aC] at h ⊢;exact h.mono hK
 | .br s o,_,_,hr,h=>by simp [aW] at hr;simp only [aC] at h ⊢;obtain ⟨b,e,r⟩:=h;exact ⟨b,hs _ _ hr e,r⟩
 | .bE s _ n _,_,_,hr,h=>by simp [aW] at hr;simp only [aC] at h ⊢;obtain ⟨b,c,e,r⟩:=h;exact ⟨b,c,hs _ _ hr e,r⟩
 | .jN,_,_,_,h=>by simpa only [aC] using h
 | .jO s,_,_,hr,h=>by simp [aW] at hr;simp only [aC] at h ⊢;obtain ⟨b,e,r⟩:=h;exact ⟨b,hs _ _ hr e,r⟩
 | .oA ..,_,hp,_,_=>by simp [cC] at hp
 | .fF _,_,_,_,h=>by simp only [aC] at h
 | .fn g cap,_,hp,hr,h=>by
   simp only [cC] at hp;simp only [aW] at hr;simp only [aC] at h ⊢;obtain ⟨f,vs,e1,e2,r⟩:=h;exact ⟨f,vs,e1,e2,oU hK hs hp hr r⟩
 | .un,_,hp,_,_=>by simp [cC] at hp
 | .bM _,_,_,_,h=>by simp only [aC] at h ⊢;obtain ⟨b,l,e,r⟩:=h;exact ⟨b,l,e,r.mono hK⟩
 | .own _ _,_,hp,_,_=>by simp [cC] at hp
 | .agg _,_,hp,hr,h=>by
   simp only [cC] at hp;simp only [aW] at hr;simp only [aC] at h ⊢;obtain ⟨vs,e,r⟩:=h;exact ⟨vs,e,oU hK hs hp hr r⟩
 | .pg _,_,hp,_,_=>by simp [cC] at hp
 | .aG _ _,_,hp,_,_=>by simp [cC] at hp
 | .gf _,_,hp,_,_=>by simp [cC] at hp
theorem oU {ρ:cy} {G G':Gh} {n:Nat} (hK:G.K.le G'.K) (hs:∀s b,s<n→G.sm s=some b→G'.sm s=some b):∀{xs:List AV} {vs:List Value},cC.jQ xs=true→aW.cX n xs=true→aB ρ G xs vs→aB ρ G' xs vs
 | [],_,_,_,h=>by simpa only [aB] using h
 | x::xs,_,hp,hr,h=>by
   simp only [cC.jQ,Bool.and_eq_true] at hp;simp only [aW.cX,Bool.and_eq_true] at hr;simp only [aB] at h ⊢;obtain ⟨v,r,e,e1,e2⟩:=h;exact ⟨v,r,e,rY hK hs hp.1 hr.1 e1,oU hK hs hp.2 hr.2 e2⟩
end
section
variable {P:Program} {ns:Names} {G:Gh} {w:World}
theorem rZ {ρ:cy} {G':Gh} {n:Nat} (hK:G.K.le G'.K) (hs:∀s b,s<n→G.sm s=some b→G'.sm s=some b) (ht:∀τ t,G.tk τ=some t→G'.tk τ=some t):∀{xs:List AV} {vs:List Value},fo xs=true→aW.cX n xs=true→aB ρ G xs vs→aB ρ G' xs vs
 | [],_,_,_,h=>by simpa only [aB] using h
 | x::xs,_,hp,hr,h=>by
   simp only [fo,Bool.and_eq_true] at hp;simp only [aW.cX,Bool.and_eq_true] at hr;simp only [aB] at h ⊢;obtain ⟨v,r,e,e1,e2⟩:=h;refine ⟨v,r,e,?_,rZ hK hs ht hp.2 hr.2 e2⟩;cases x with
   | own l τ=>
     simp only [aC] at e1 ⊢;obtain ⟨t,a1,a2,a3,a4⟩:=e1;exact ⟨t,ht _ _ a1,a2,a3.mono hK,fun hl=>⟨(a4 hl).1,JH (a4 hl).2 fun ⟨b,o,e,r⟩=>⟨b,o,e,Row.mono hK _ _ _ _ r⟩⟩⟩
   | _=>exact rY hK hs (show cC _=true from hp.1) hr.1 e1
theorem FK {ρ:cy} {G':Gh} {n:Nat} (hK:G.K.le G'.K) (hs:∀s b,s<n→G.sm s=some b→G'.sm s=some b) (ht:∀τ t,G.tk τ=some t→G'.tk τ=some t) {x:AV} {v:Value} (hp:ct x=true) (hr:aW n x=true) (h:aC ρ G x v):aC ρ G' x v:=by
 cases x with
 | own l τ=>
   simp only [aC] at h ⊢;obtain ⟨t,e1,e2,e3,e4⟩:=h;exact ⟨t,ht _ _ e1,e2,e3.mono hK,fun hl=>⟨(e4 hl).1,JH (e4 hl).2 fun ⟨b,o,e,r⟩=>⟨b,o,e,Row.mono hK _ _ _ _ r⟩⟩⟩
 | agg cs=>
   simp only [aW] at hr;simp only [aC] at h ⊢;obtain ⟨vs,e,r⟩:=h;exact ⟨vs,e,rZ hK hs ht (by simpa [ct] using hp) hr r⟩
 | _=>exact rY hK hs (show cC _=true from hp) hr h
theorem nc {ρ:cy} {G':Gh} {n:Nat} (hK:G.K.le G'.K) (hs:∀s b,s<n→G.sm s=some b→G'.sm s=some b) (ht:∀τ t,G.tk τ=some t→G'.tk τ=some t):∀{xs:List AV} {vs:List Value},xs.all ct=true→xs.all (aW n)=true→aB ρ G xs vs→aB ρ G' xs vs
 | [],_,_,_,h=>by simpa only [aB] using h
 | x::xs,_,hp,hr,h=>by
   simp only [List.all_cons,Bool.and_eq_true] at hp hr;simp only [aB] at h ⊢;obtain ⟨v,r,e,e1,e2⟩:=h;exact ⟨v,r,e,FK hK hs ht hp.1 hr.1 e1,nc hK hs ht hp.2 hr.2 e2⟩
def Gh.bare (G:Gh):Gh:={ G with pm:=fun _=>none,role:=fun b=>match G.role b with | .kT _=>.eE | r=>r }
theorem Inv.bare {mem:List (Nat×List AV)} {sh:Sh} {ts:aN} (hi:Inv (num ns) G w mem sh ts):Inv (num ns) G.bare w [] sh ts where
 known:=hi.known
 bz:=fun b o v hk=>by
   rcases hi.bz b o v hk with h | ⟨τ,h⟩
   · exact .inl (by simp [Gh.bare,h])
   · exact .inr ⟨τ,by simp [Gh.bare,h]⟩
 fresh:=fun b hb=>by simp [Gh.bare,hi.fresh b hb]
 dq:=fun d cells h=>by simp [look] at h
 gN:=fun d b h=>by simp [Gh.bare] at h
 dP:=fun s cells hs=>by
   obtain ⟨b,e1,e2,e3,e4⟩:=hi.dP s cells hs;obtain ⟨hr,o,hh,hrel⟩:=e2;exact ⟨b,e1,⟨by simp [Gh.bare,hr],o,hh,hrel.to (fun _ _ _ h=>h) (fun _ e=>e) (fun _ r=>jg (G:=G) (G':=G.bare) (bJ.le_refl _) (fun _ _ h=>h) (fun _ _ h=>h) (iR e3) r)⟩,e3,e4⟩
 eJ:=hi.eJ
 dI:=fun τ n h=>by
   obtain ⟨t,e1,e2,e3⟩:=hi.dI τ n h;refine ⟨t,e1,e2,e3.cap,e3.zero,fun hlt=>?_⟩;obtain ⟨b,o,c,ty,f1,f2,f3,f4,f5⟩:=e3.spare hlt;exact ⟨b,o,c,ty,f1,by simp [Gh.bare,f2],f3,f4,f5⟩
 fc:=hi.fc
 jS:=fun b c hb=>⟨by simp [Gh.bare,(hi.jS b c hb).1],(hi.jS b c hb).2⟩
def Gh.mI (G:Gh) (n:Nat):Gh:={ G with sm:=fun s=>if s<n then G.sm s else none }
theorem Inv.mI {sh:Sh} {ts:aN} (hi:Inv (num ns) G w [] sh ts) (n:Nat):Inv (num ns) (G.mI n) w [] (sh.take n) ts where
 known:=hi.known
 bz:=hi.bz
 fresh:=hi.fresh
 dq:=fun d cells h=>by simp [look] at h
 gN:=hi.gN
 dP:=fun s cells hs=>by
   rw [List.getElem?_take] at hs;split at hs
   · rename_i hlt;obtain ⟨b,e1,e2,e3,e4⟩:=hi.dP s cells hs;obtain ⟨hr,o,hh,hrel⟩:=e2;exact ⟨b,by simp [Gh.mI,hlt,e1],⟨hr,o,hh,hrel.to (fun _ _ _ h=>h) (fun _ e=>e) (fun _ r=>nc (G:=G) (G':=G.mI n) (n:=s+1) (bJ.le_refl G.K) (fun s' b' hs' h=>by simp only [Gh.mI];rw [if_pos (by omega)];exact h) (fun _ _ h=>h) (iR e3) e4 r)⟩,e3,e4⟩
   · simp at hs
 eJ:=fun s b h=>by
   simp only [Gh.mI] at h;split at h
   · have:=hi.eJ s b h;simp;omega
   · simp at h
 dI:=fun τ n h=>by
   obtain ⟨t,e1,e2,e3⟩:=hi.dI τ n h;exact ⟨t,e1,e2,e3.cap,e3.zero,e3.spare⟩
 fc:=hi.fc
 jS:=hi.jS
theorem Inv.shut {mem:List (Nat×List AV)} {sh:Sh} {ah:aN} {D:Nat} {x:Option (List Deferred)} (hi:Inv (num ns) G w mem sh ah) (hD:w.heap[D]?=some (.deferred x)) :
   Inv (num ns) G (w.putObj D (.deferred none)) mem sh ah:=by
 have hne:∀{b:Nat} {c:Array Value} {t:TypeId},w.heap[b]?=some (.cells c t (0,0))→(w.putObj D (.deferred none)).heap[b]?=some (.cells c t (0,0)):=by
   intro b c t h;rw [World.putObj_heap_other]
   · exact h
   · rintro rfl;rw [hD] at h;cases h
 have hsize:(w.putObj D (.deferred none)).heap.size=w.heap.size:=by simp [World.putObj]
 refine { hi with known:=?_,fresh:=?_,dq:=?_,dP:=?_,dI:=?_,jS:=?_ }
 · intro b o v hk;have h:=hi.known b o v hk;rw [←h];have:b≠D:=by rintro rfl;simp [World.cell?,hD] at h
   simp only [World.cell?,World.putObj_heap_other this]
 · intro b hb;exact hi.fresh b (by omega)
 · intro k cs hk;obtain ⟨b,e1,⟨e2,c,t,e3,e4⟩,e5⟩:=hi.dq k cs hk;exact ⟨b,e1,⟨e2,c,t,hne e3,e4⟩,e5⟩
 · intro k cs hk;obtain ⟨b,e1,⟨e2,o,e3,e4⟩,e5⟩:=hi.dP k cs hk;refine ⟨b,e1,⟨e2,o,?_,e4⟩,e5⟩;rw [World.putObj_heap_other]
   · exact e3
   · rintro rfl
     rw [hD] at e3;cases e3;rcases e4 with ⟨_,_,_,_,h,_⟩ | ⟨_,_,_,h,_⟩<;>cases h
 · intro τ n hn;obtain ⟨t,e1,e2,e3⟩:=hi.dI τ n hn;refine ⟨t,e1,e2,e3.cap,e3.zero,fun hlt=>?_⟩;obtain ⟨b,o,c,ty,f1,f2,f3,f4,f5⟩:=e3.spare hlt;exact ⟨b,o,c,ty,f1,f2,hne f3,f4,f5⟩
 · intro b c hb;obtain ⟨h1,t',z,h2⟩:=hi.jS b c hb;refine ⟨h1,t',z,?_⟩;rw [World.putObj_heap_other]
   · exact h2
   · rintro rfl;rw [hD] at h2;cases h2
theorem cq.shut {G':Gh} {w':World} {D:Nat} (he:cq G w G' w') (hD:w.heap.size≤D):cq G w G' (w'.putObj D (.deferred none)):=
 { he with
   size:=by simpa [World.putObj] using he.size
   os:=by simpa [World.putObj] using he.os
   tape:=by simpa [World.putObj] using he.tape
   output:=by simpa [World.putObj] using he.output
   eE:=fun b hb hr=>by
     obtain ⟨h1,h2⟩:=he.eE b hb hr;exact ⟨h1,by rw [World.putObj_heap_other (by omega)];exact h2⟩ }
theorem pX {fn:Func} {tmps:Array Value} {R:Ending→World→Prop} {mem:List (Nat×List AV)} {sh:Sh} {ah:aN} {G':Gh}:∀(Ds:List Nat) (w':World),Inv (num ns) G' w' mem sh ah→cq G w G' w'→Ds.Nodup →
   (∀D∈Ds,w.heap.size≤D∧w'.heap[D]?=some (.deferred (some []))) →
   (∀w'',Inv (num ns) G' w'' mem sh ah→cq G w G' w''→∃v,(results fn tmps).run P w''=.ok v w''∧R (.returned v) w'') →
   LeavesInM Fence.wide 0 P fn tmps R (Ds.map (fun D=>{ target:=.collected D,args:=#[] })) .returning w'
 | [],w',hi,he,_,_,h=>h w' hi he
 | D::Ds,w',hi,he,hn,hD,h=>by
   obtain ⟨h1,h2⟩:=hD D (by simp);refine ⟨by simp,.inl ⟨D,_,rfl,run_takeDeferred h2,?_⟩⟩;simp only [List.nodup_cons] at hn;refine pX Ds _ (hi.shut h2) (he.shut h1) hn.2 (fun E hE=>?_) h;obtain ⟨g1,g2⟩:=hD E (by simp [hE]);refine ⟨g1,?_⟩;rw [World.putObj_heap_other]
   · exact g2
   · rintro rfl;exact hn.1 hE
theorem r5 (hm:P.follows .mixedOrders=true) (hB:eT P ns) (hBk:qv P ns) {orc:ep} (horc:gF P ns orc) {A:lf} {k f:Nat} {bq:Bool} {fn:Func} {af:aD} (hf:P.funcs[f]?=some fn) (hc:pk P ns A fn=some af)
   {args rs:List AV} {vs:List Value} {sh sh':Sh} {ts ts':aN} (hi:Inv (num ns) G w [] sh ts) (hr:aB (num ns) G args vs) (hN:args.length≤af.ntmps) (h:cH orc k bq af args sh ts=some (rs,sh',ts')) :
   (Calls P f vs.toArray w fun e w'=>∃v G',e=.returned v∧dt (num ns) G' rs v∧Inv (num ns) G' w' [] sh' ts'∧cq G w G' w')∧rs.all ct=true:=by
 unfold pk at hc;split at hc
 · rename_i c ars jA gk;simp only [Option.ite_none_right_eq_some,Option.map_eq_some_iff] at hc;obtain ⟨_,ac,hcc,rfl⟩:=hc;unfold cH at h;split at h
   · rename_i e st hev;simp only [Option.ite_none_right_eq_some] at h;obtain ⟨he,h⟩:=h;split at h
     · rename_i xs hxs;simp only [Option.ite_none_right_eq_some] at h;obtain ⟨hpass,h⟩:=h;let kst:=A.ks;let shk:Sh:=eW bq kst st.sh xs;let Lz:Sh:=if (cP bq kst st.sh xs).all (aW sh.length)=true then shk.take sh.length else shk;have h:some ((dm st.ah (cP bq kst st.sh xs) Lz).1,(dm st.ah (cP bq kst st.sh xs) Lz).2.1,(dm st.ah (cP bq kst st.sh xs) Lz).2.2.2)=some (rs,sh',ts'):=h;simp only [Option.some.injEq,Prod.mk.injEq] at h;obtain ⟨MT,hsh,hts⟩:=h;have hpass':rs.all ct=true:=by rw [←MT];exact iA hpass
       refine ⟨?_,hpass'⟩;refine callsIn_wide (n:=0).1 (callsIn_of_wp_marks hf jA trivial ?_ rfl);have hs0:gT (num ns) w.heap.size fn.ntmps G { env:=cG 0 args,mem:=[],sh,ah:=ts } { tmps:=vs.toArray++Array.replicate (fn.ntmps-vs.toArray.size) undef,defers:=[] } w:=⟨HZ hr hN,hi,Nat.le_refl _,[],rfl,by simp,by simp⟩;refine iT (ro:=none) hm hB horc hBk hcc (.inl rfl) hev hs0 fun G' a' w1 hs1 hevo1=>?_
       have key:LeavesInM Fence.wide 0 P fn a'.tmps (fun e w'=>∃v G',e=.returned v∧dt (num ns) G' rs v∧Inv (num ns) G' w' [] sh' ts'∧cq G w G' w') a'.defers .returning w1:=by
         obtain ⟨m0,Ds,m1,m2,m3⟩:=hs1.marks;rw [m1];refine pX Ds w1 hs1.inv hevo1 m2 (fun D hD=>⟨(m3 D hD).1,(m3 D hD).2.2.2⟩) ?_;intro w' hi' hevo;have hs':gT (num ns) w.heap.size fn.ntmps G' st { tmps:=a'.tmps,defers:=[] } w':=⟨⟨hs1.env.size,hs1.env.env⟩,hi',hevo.size,[],rfl,by simp,by simp⟩;obtain ⟨us,u1,u2⟩:=pW (P:=P) hs' (F:=fun | .tmp t=>pure (a'.tmps.getD t undef) | .cell ad t=>do loadVar t (←asAddr (a'.tmps.getD ad undef))) (fun _=>rfl) (fun _ _=>rfl) gk hxs;refine ⟨(if h:us.toArray.size=1 then us.toArray[0] else .tuple us.toArray),?_,?_⟩
         · unfold results;rw [Array.mapM_eq_mapM_toList];simp only [Sem.run_bind,Sem.run_map]
           erw [u1]
           rfl
         · obtain ⟨G1,k1,k2,k3,hout⟩:∃G1,Inv (num ns) G1 w' st.mem shk st.ah∧G'.le G1∧cq G' w' G1 w'∧aB (num ns) G1 (cP bq kst st.sh xs) us:=by
             by_cases hkk:(bq && kst)=true
             · refine ⟨G',?_,Gh.le_refl _,cq.refl _ _,?_⟩
               · have:shk=st.sh:=by simp only [shk,eW,hkk,if_true]
                 rw [this];exact hs'.inv
               · have:cP bq kst st.sh xs=xs:=by
                   simp only [Bool.and_eq_true] at hkk;simp only [cP,hkk.1,hkk.2,if_true]
                 rw [this];exact u2
             · obtain ⟨G1,k1,k2,k3,k4,k5⟩:=Inv.kill (xs.flatMap fm) hs'.inv;refine ⟨G1,?_,k2,k3,BX (bq:=bq) k2 k4 hs'.inv.ri (fun s hs=>hs) u2⟩
               have:shk=d5 st.sh xs:=by
                 simp only [shk,eW];rw [if_neg hkk]
               rw [this];exact k1
           have hbare:=jg (G:=G1) (G':=G1.bare) (bJ.le_refl _) (fun _ _ h=>h) (fun _ _ h=>h) hpass hout;have k1b:=k1.bare;have hevo0:=hevo.trans k3
           obtain ⟨G2,i2,r2,e2⟩:∃G2,Inv (num ns) G2 w' [] Lz st.ah∧aB (num ns) G2 (cP bq kst st.sh xs) us∧cq G w G2 w':=by
             have bareEvo:cq G w G1.bare w':={
               size:=hevo0.size,os:=hevo0.os,tape:=hevo0.tape,output:=hevo0.output,K:=hevo0.K,sm:=hevo0.sm,
               eE:=fun b hb hr=>⟨by simp [Gh.bare,(hevo0.eE b hb hr).1],(hevo0.eE b hb hr).2⟩
               iG:=fun b τ hb hr=>by
                 rcases hevo0.iG b τ hb hr with h | ⟨τ',h⟩
                 · exact .inl (by simp [Gh.bare,h])
                 · exact .inr ⟨τ',by simp [Gh.bare,h]⟩
               gO:=hevo0.gO }
             by_cases href:(cP bq kst st.sh xs).all (aW sh.length)=true
             · have hshd:Lz=shk.take sh.length:=if_pos href;rw [hshd];refine ⟨G1.bare.mI sh.length,k1b.mI sh.length,nc (G:=G1.bare) (G':=G1.bare.mI sh.length) (n:=sh.length) (bJ.le_refl _) (fun s b hs h=>by simp only [Gh.mI];rw [if_pos hs];exact h) (fun _ _ h=>h) hpass href hbare,?_⟩
               exact { size:=bareEvo.size,os:=bareEvo.os,tape:=bareEvo.tape,output:=bareEvo.output,K:=bareEvo.K,
                       sm:=fun s b hsb=>by
                         have:=hi.eJ s b hsb;show (if s<sh.length then G1.sm s else none)=some b;rw [if_pos this];exact bareEvo.sm s b hsb
                       eE:=bareEvo.eE,iG:=bareEvo.iG,gO:=bareEvo.gO }
             · have hshd:Lz=shk:=if_neg href;rw [hshd];exact ⟨G1.bare,k1b,hbare,bareEvo⟩
           obtain ⟨m,tks,hNS,hto,hrel⟩:=i2.GF hpass r2;rw [MT] at hrel;rw [hsh,hts] at hto;exact ⟨_,G2.to m tks,rfl,BY hrel,hto,e2.to m tks⟩
       cases e with
       | normal=>exact key
       | ret=>exact key
       | exit id=>simp at he
     · simp at h
   · simp at h
 · simp at hc
theorem tI {orc:ep} {k:Nat} {bq:Bool} {af:aD} {args rs:List AV} {sh sh':Sh} {ts ts':aN} (h:cH orc k bq af args sh ts=some (rs,sh',ts')):rs.all ct=true:=by
 unfold cH at h;split at h
 · split at h
   · split at h
     · simp only [Option.ite_none_right_eq_some] at h;obtain ⟨hp,h⟩:=h;have e:=congrArg Prod.fst (Option.some.inj h);dsimp only at e;rw [←e];exact iA hp
     · simp at h
   · simp at h
 · simp at h
structure Impl (P:Program) (ns:Names) (AP:Nat→Option aD):Prop where
 mixed:P.follows .mixedOrders=true
 funcs:∀f g,ns.of f=some g→(∃fn A af,P.funcs[f]?=some fn∧pk P ns A fn=some af∧AP g=some af) ∨
   ((∃fn b,P.funcs[f]?=some fn∧fn.body=some b∧fn.name ≠ "runtime.NumGoroutine") ∧
     (AP g=none∨∃af pf,AP g=some af∧af.qb=some pf∧af.body=.exit 0∧∀orc,gF P ns orc→∀dC rs,pf.f orc.p dC=some rs→tX P ns f dC rs))
 Gy:qv P ns
 MU:∀g sz bytes f,look ns.cl g=some (sz,bytes)→ns.of f=some g→Nonempty (iB P ns f sz bytes)
theorem Impl.vZ {AP:Nat→Option aD} (h:Impl P ns AP):eT P ns:=by
 intro f g hg;rcases h.funcs f g hg with ⟨fn,A,af,h1,h2,_⟩ | ⟨⟨fn,b,h1,h2,h3⟩,_⟩
 · unfold pk at h2;split at h2
   · rename_i b rs hb _;simp only [Option.ite_none_right_eq_some] at h2;obtain ⟨⟨_,hn⟩,_⟩:=h2;exact ⟨fn,b,h1,hb,by simpa using hn⟩
   · simp at h2
 · exact ⟨fn,b,h1,h2,h3⟩
theorem BZ {A:lf} {fn:Func} {af:aD} (h:pk P ns A fn=some af):af.qb=none:=by
 unfold pk at h;split at h
 · simp only [Option.ite_none_right_eq_some,Option.map_eq_some_iff] at h;obtain ⟨_,_,_,rfl⟩:=h;rfl
 · simp at h
theorem r_:∀{rs:List AV} {ps:List PV},fZ rs=some ps→rs=ps.map .pv
 | [],ps,h=>by simp [fZ] at h;subst h;rfl
 | x::rs,ps,h=>by
   cases x with
   | pv p=>
     simp only [fZ,Option.map_eq_some_iff] at h;obtain ⟨qs,h1,rfl⟩:=h;simp [r_ h1]
   | _=>simp [fZ] at h
theorem pY:∀{ps:List PV} {vs:List Value},aB (num ns) G (ps.map .pv) vs→iZ G.K ps vs
 | [],vs,h=>by simp only [List.map_nil,aB] at h;exact h
 | p::ps,vs,h=>by
   simp only [List.map_cons,aB] at h;obtain ⟨v,r,e,e1,e2⟩:=h;simp only [aC] at e1;exact ⟨v,r,e,e1,pY e2⟩
theorem FL {ps:List PV} {v:Value} (h:dt (num ns) G (ps.map .pv) v):ic G.K ps v:=by
 unfold ic;split
 · rename_i p;simp only [List.map_cons,List.map_nil,dt,aC] at h;exact h
 · rename_i hn;unfold dt at h;split at h
   · rename_i r e;cases ps with
     | nil=>simp at e
     | cons q qs=>
       cases qs with
       | nil=>exact absurd rfl (hn q)
       | cons _ _=>simp at e
   · obtain ⟨vs,e,h⟩:=h;exact ⟨vs,e,pY h⟩
theorem uo {AP:Nat→Option aD} (hI:Impl P ns AP) (k:Nat):∀n,gF P ns (run AP k n)
 | 0=>⟨fun g f dC rs _ h=>by simp [run] at h,fun g f args ts rs sh sh' ts' _ _ h=>by simp [run] at h,fun g sz by_ f h1 h2=>(hI.MU g sz by_ f h1 h2).elim yL⟩
 | n+1=>by
   have ih:=uo hI k n;refine ⟨fun g f dC rs hg h=>?_,fun g f args ts rs sh sh' ts' hg hp h=>?_,ih.c⟩
   · rcases hI.funcs f g hg with ⟨fn,A,af,h1,h2,h3⟩ | ⟨_,h3 | ⟨af,pf,h3,h4,_,h5⟩⟩
     · simp only [run,h3,BZ h2,Option.ite_none_right_eq_some] at h;obtain ⟨⟨_,hN⟩,h⟩:=h;split at h
       · rename_i xs x2 hb;obtain ⟨sh',ts'⟩:=x2;have hxs:=r_ h;subst hxs;intro K w vs hpin hK hr;let G0:Gh:={ K,role:=fun _=>.eE,pm:=fun _=>none,sm:=fun _=>none,tk:=fun _=>none }
         have hi:Inv (num ns) G0 w [] [] []:={
           known:=hK,bz:=fun _ _ _ _=>.inl rfl,fresh:=fun _ _=>rfl,dq:=fun d c h=>by simp [look] at h,gN:=fun d b h=>by simp [G0] at h,
           dP:=fun s c h=>by simp at h,eJ:=fun s b h=>by simp [G0] at h,dI:=fun τ n h=>by simp at h,fc:=fun τ t h=>by simp [G0] at h,jS:=fun b c hb=>⟨rfl,hpin b c hb⟩ }
         have hC:=(r5 hI.mixed hI.vZ hI.Gy ih h1 h2 hi (gi (ρ:=num ns) (G:=G0) hr) (by simpa using hN) hb).1;refine hC.mono ?_
         rintro e w' ⟨v,G',rfl,gk,hi',hevo⟩
         refine ⟨v,G'.K,rfl,FL gk,hevo.K,fun b o u hb hk=>hevo.gO b o u hb rfl hk,hi'.known,⟨hevo.os,hevo.tape,hevo.output,hevo.size,fun b hb=>(hevo.eE b hb rfl).2⟩⟩
       · simp at h
     · simp only [run,h3] at h;cases h
     · simp only [run,h3,h4] at h;exact h5 _ ih _ _ h
   · rcases hI.funcs f g hg with ⟨fn,A,af,h1,h2,h3⟩ | ⟨_,h3 | ⟨af,pf,h3,_,h4,_⟩⟩
     · simp only [run,h3,Option.ite_none_right_eq_some] at h;obtain ⟨hN,h⟩:=h;exact ⟨fun G w vs hi hr=>(r5 hI.mixed hI.vZ hI.Gy ih h1 h2 hi hr hN h).1,tI h⟩
     · simp only [run,h3] at h;cases h
     · simp only [run,h3,Option.ite_none_right_eq_some] at h;obtain ⟨_,h⟩:=h;unfold cH at h;rw [h4] at h;simp [de] at h
end
end Go.Ab
