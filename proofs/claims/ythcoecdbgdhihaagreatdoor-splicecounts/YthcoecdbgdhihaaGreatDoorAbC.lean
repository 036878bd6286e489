import Derived.Test.YthcoecdbgdhihaaGreatDoorAbB
import Derived.RangeFuncLeaves
import Derived.RangeFuncRecord
import Derived.WalkKit
import Derived.ProofKit
import Derived.OpenShut
import Derived.Carry
import Derived.Lib.Join
import Derived.Lib.ItoaNum
import Derived.Lib.LaidTab
import Derived.Sort.Grow
import Derived.Deep.Draws
import Derived.Lib.Builder
import Derived.Lib.UnsafeStr
import Derived.Lib.AppendStr
/-
  Functions: n levels of calls of the evaluator are what the model does.
  The pieces of a function's code by their places: for functions that are known by their code's shape.
  From the rows' readings to pure data, and from what the evaluator gives to a law's contract.
  The evaluator for the kernel: what an operation lays is brought to its last form at once. It answers as the evaluator does.
  Functions of Go's library that the kit knows: strings.Join, and strconv.Itoa of small numbers.
  The table that strconv reads, as the rows list it.
  A program's text written through a strings.Builder: what the declarations' and the bindings' texts are, one after another.
-/
set_option linter.unusedVariables false
set_option linter.unusedSimpArgs false
set_option linter.unnecessarySimpa false
set_option maxRecDepth 100000
set_option maxHeartbeats 8000000
namespace Go.Ab
section
variable {P:Program} {ns:Names} {G:Gh} {w:World}
theorem tJ:∀{l:List AV} {i t:Nat} {v:AV},look (bY i l) t=some v→i≤t∧l[t-i]?=some v
 |[],i,t,v,h=>by simp[bY,look]at h
 |x::l,i,t,v,h=>by
   simp only[bY,look]at h;split at h
   ·rename_i e;subst e;cases h;simp
   ·rename_i hne;obtain⟨h1,h2⟩:=tJ h;refine⟨by omega,?_⟩;rw[show t-i=(t-(i+1))+1 from by omega];simpa using h2
theorem KJ{N:Nat}{args:List AV}{vs:List Value}(hr:aw (num ns) G args vs)(hN:args.length≤N) :
   lM (num ns) G N (bY 0 args) { tmps:=vs.toArray++Array.replicate (N-vs.toArray.size) undef,defers:=[] }:=by
 have hl:=hr.length;refine⟨by simp;omega,fun t x hx=>?_⟩;obtain⟨_,h2⟩:=tJ hx;simp only[Nat.sub_zero]at h2;obtain⟨v,h3,h4⟩:=hr.get h2;refine⟨v,?_,h4⟩;rw[Array.getElem?_append_left (by have:=(List.getElem?_eq_some_iff.1 h3).1;simpa using this)];simpa using h3
theorem q_{n0 N:Nat}{st:St}{a:Act}(hs:gK (num ns) n0 N G st a w){F:ResultVar→Sem Value}(hF1:∀t,F (.tmp t)=pure (a.tmps.getD t undef))(hF2:∀ad t,F (.cell ad t)=(do loadVar t (←asAddr (a.tmps.getD ad undef)))):∀{rvs:List ResultVar} {rs:List pL} {xs:List AV},cd (EA P) rvs=some rs→d7 st rs=some xs →
   ∃vs,(rvs.mapM F).run P w=.ok vs w∧aw (num ns) G xs vs
 |[],rs,xs,hc,hx=>by
   simp[cd]at hc;subst hc;simp[d7]at hx;subst hx;exact⟨[],by simp,by simp[aw]⟩
 |r::rvs,rs,xs,hc,hx=>by
   simp only[cd]at hc;split at hc
   · rename_i ar ars h1 h2;simp at hc;subst hc;simp only[d7]at hx;split at hx
     · rename_i v vs' g1 g2;simp at hx;subst hx;obtain⟨us,k1,k2⟩:=q_ hs hF1 hF2 h2 g2
       have one:∃u,(F r).run P w=.ok u w∧aB (num ns) G v u:=by
         cases r with
         |tmp t=>
           simp[EA]at h1;subst h1;simp only[qz]at g1;obtain⟨u,e1,e2⟩:=hs.env.env t v g1;exact⟨u,by rw[hF1];simp[e1],e2⟩
         |cell ad t=>
           simp only[EA]at h1;split at h1
           · rename_i sz ag hsz hag;simp at h1;subst h1;simp only[qz]at g1;split at g1
             · rename_i d e1;split at g1
               ·rename_i cs e2;simp only[Option.ite_none_right_eq_some]at g1;obtain⟨rfl,g1⟩:=g1;obtain⟨u,f1,f2⟩:=hs.env.env _ _ e1;simp only[aB]at f2;obtain⟨b,hp,rfl⟩:=f2;obtain⟨b',hp',hblk,_⟩:=hs.inv.cR _ _ e2;rw[hp]at hp';cases hp';obtain⟨_,c,ty,hh,hrel⟩:=hblk;obtain⟨u,q1,q2⟩:=fe (w:=w) hsz hag g1 hrel (fR hh);exact⟨u,by rw[hF2];simp[f1,asAddr,q1],q2⟩
               ·cases g1
             · rename_i s e1;split at g1
               · rename_i cs e2;split at g1
                 ·cases g1
                 ·rename_i hm;obtain⟨u,f1,f2⟩:=hs.env.env _ _ e1;simp only[aB]at f2;obtain⟨b,hp,rfl⟩:=f2;obtain⟨b',hp',hblk,_⟩:=hs.inv.di _ _ e2;rw[hp]at hp';cases hp';obtain⟨_,c,ty,vs,suf,hh,_,hsp,hrel⟩:=hblk.cells (by simpa using hm);obtain⟨u,q1,q2⟩:=fe (w:=w) hsz hag g1 hrel (oB hh hsp);exact⟨u,by rw[hF2];simp[f1,asAddr,q1],q2⟩
               ·cases g1
             ·cases g1
           ·simp at h1
       obtain⟨u,o1,o2⟩:=one;refine⟨u::us,?_,?_⟩
       ·rw[List.mapM_cons];simp only[Sem.run_bind];rw[o1];simp only[Result.andThen_ok];rw[k1];rfl
       ·simp only[aw];exact⟨u,us,rfl,o2,k2⟩
     ·simp at hx
   ·simp at hc
theorem nS{G':Gh}{sh:Sh}{ks:List Nat}(hle:G.le G')(hf:jJ ns G G' sh ks)(hl:∀(s:Nat) (cells:List AV),sh[s]?=some (some cells)→cells.all aT=true)
   {x:AV} {v:Value} (ha:∀s∈ei x,s∈ks) (h:aB (num ns) G x v):aB (num ns) G' (sA sh x) v:=by
 unfold sA;split
 ·rename_i p hp;simp only[aB];exact sN hle hf hl ha hp h
 ·exact h.mono hle
theorem KK{G':Gh}{sh:Sh}{ks:List Nat}(hle:G.le G')(hf:jJ ns G G' sh ks)(hl:∀(s:Nat) (cells:List AV),sh[s]?=some (some cells)→cells.all aT=true)
   {x:AV} {v:Value} (ha:aT x=true→∀s∈ei x,s∈ks) (h:aB (num ns) G x v):aB (num ns) G' (uI sh x) v:=by
 unfold uI;split
 ·exact h.mono hle
 · split
   ·rename_i hl';exact nS hle hf hl (ha hl') h
   ·exact h.mono hle
theorem vL{G':Gh}{sh:Sh}{ks:List Nat}(hle:G.le G')(hf:jJ ns G G' sh ks)(hl:∀(s:Nat) (cells:List AV),sh[s]?=some (some cells)→cells.all aT=true) :
   ∀{cs:List AV} {vs:List Value},(∀s∈ei (.agg cs),s∈ks)→aw (num ns) G cs vs→aw (num ns) G' (cs.map (uI sh)) vs
 |[],vs,_,h=>by simpa[aw] using h
 |c::cs,vs,ha,h=>by
   simp only[aw]at h;obtain⟨v,r,e,e1,e2⟩:=h;simp only[List.map_cons,aw];refine⟨v,r,e,KK hle hf hl (fun hb s hs=>ha s ?_) e1,vL hle hf hl (fun s hs=>ha s ?_) e2⟩
   ·simp only[ei,List.flatMap_cons,List.mem_append];left;cases c<;>simp_all[ei,aT]
   ·simp only[ei,List.flatMap_cons,List.mem_append]at hs⊢;exact .inr hs
theorem KL{G':Gh}{sh:Sh}{ks:List Nat}(hle:G.le G')(hf:jJ ns G G' sh ks)(hl:∀(s:Nat) (cells:List AV),sh[s]?=some (some cells)→cells.all aT=true)
   {x:AV} {v:Value} (ha:∀s∈ei x,s∈ks) (h:aB (num ns) G x v):aB (num ns) G' (BL sh x) v:=by
 unfold BL;split
 ·exact h.mono hle
 ·exact h.mono hle
 ·simp only[aB]at h⊢;obtain⟨vs,e,r⟩:=h;exact⟨vs,e,vL hle hf hl ha r⟩
 ·exact nS hle hf hl ha h
theorem nT{G':Gh}{sh:Sh}{ks:List Nat}{F:Sh→AV→AV}(hF:∀{x:AV} {v:Value},(∀s∈ei x,s∈ks)→aB (num ns) G x v→aB (num ns) G' (F sh x) v) :
   ∀{xs:List AV} {vs:List Value},(∀s∈xs.flatMap ei,s∈ks)→aw (num ns) G xs vs→aw (num ns) G' (xs.map (F sh)) vs
 |[],vs,_,h=>by simpa[aw] using h
 |x::xs,vs,ha,h=>by
   simp only[aw]at h;obtain⟨v,r,e,e1,e2⟩:=h;simp only[List.flatMap_cons,List.mem_append]at ha;simp only[List.map_cons,aw];exact⟨v,r,e,hF (fun s hs=>ha s (.inl hs)) e1,nT hF (fun s hs=>ha s (.inr hs)) e2⟩
theorem DR{G':Gh}{sh:Sh}{ks:List Nat}{aU kst:Bool}(hle:G.le G')(hf:jJ ns G G' sh ks)(hl:∀(s:Nat) (cells:List AV),sh[s]?=some (some cells)→cells.all aT=true)
   {xs:List AV} {vs:List Value} (ha:∀s∈xs.flatMap ei,s∈ks) (h:aw (num ns) G xs vs):aw (num ns) G' (cm aU kst sh xs) vs:=by
 unfold cm;split
 · split
   ·exact aw.mono hle h
   ·exact nT (KL hle hf hl) ha h
 ·exact nT (nS hle hf hl) ha h
theorem DS{xs:List AV}{vs:List Value}(h:aw (num ns) G xs vs):cS (num ns) G xs (if h:vs.toArray.size=1 then vs.toArray[0] else .tuple vs.toArray):=by
 unfold cS;split
 ·rename_i r;simp only[aw]at h;obtain⟨v,r',e,e1,e2⟩:=h;subst e2;subst e;simpa using e1
 · rename_i hn;have hl:=h.length;rw[dif_neg]
   ·exact⟨vs,rfl,h⟩
   · intro e;simp at e;rw[e]at hl;cases xs with
     |nil=>simp at hl
     |cons x xs=>
       cases xs with
       |nil=>exact hn x rfl
       |cons _ _=>simp at hl
end
mutual
theorem tK{ρ:bO}{G G':Gh}{n:Nat}(hK:G.K.le G'.K)(hs:∀s b,s<n→G.sm s=some b→G'.sm s=some b):∀{x:AV} {v:Value},bL x=true→aK n x=true→aB ρ G x v→aB ρ G' x v
 | .pv p,_,_,_,h=>by simp only[aB]at h⊢;exact h.mono hK
 | .aW s o,_,_,hr,h=>by simp[aK]at hr;simp only[aB]at h⊢;obtain⟨b,e,r⟩:=h;exact⟨b,hs _ _ hr e,r⟩
 | .aP s _ n _,_,_,hr,h=>by simp[aK]at hr;simp only[aB]at h⊢;obtain⟨b,c,e,r⟩:=h;exact⟨b,c,hs _ _ hr e,r⟩
 | .jT,_,_,_,h=>by simpa only[aB] using h
 | .jU s,_,_,hr,h=>by simp[aK]at hr;simp only[aB]at h⊢;obtain⟨b,e,r⟩:=h;exact⟨b,hs _ _ hr e,r⟩
 | .pJ ..,_,hp,_,_=>by simp[bL]at hp
 | .fJ _,_,_,_,h=>by simp only[aB]at h
 | .fn g cap,_,hp,hr,h=>by
   simp only[bL]at hp;simp only[aK]at hr;simp only[aB]at h⊢;obtain⟨f,vs,e1,e2,r⟩:=h;exact⟨f,vs,e1,e2,qa hK hs hp hr r⟩
 | .un,_,hp,_,_=>by simp[bL]at hp
 | .dB _,_,_,_,h=>by simp only[aB]at h⊢;obtain⟨b,l,e,r⟩:=h;exact⟨b,l,e,r.mono hK⟩
 | .own _ _,_,hp,_,_=>by simp[bL]at hp
 | .agg _,_,hp,hr,h=>by
   simp only[bL]at hp;simp only[aK]at hr;simp only[aB]at h⊢;obtain⟨vs,e,r⟩:=h;exact⟨vs,e,qa hK hs hp hr r⟩
 | .qx _,_,hp,_,_=>by simp[bL]at hp
 | .az _ _,_,hp,_,_=>by simp[bL]at hp
 | .fH _,_,hp,_,_=>by simp[bL]at hp
theorem qa{ρ:bO}{G G':Gh}{n:Nat}(hK:G.K.le G'.K)(hs:∀s b,s<n→G.sm s=some b→G'.sm s=some b):∀{xs:List AV} {vs:List Value},bL.iI xs=true→aK.cz n xs=true→aw ρ G xs vs→aw ρ G' xs vs
 |[],_,_,_,h=>by simpa only[aw] using h
 |x::xs,_,hp,hr,h=>by
   simp only[bL.iI,Bool.and_eq_true]at hp;simp only[aK.cz,Bool.and_eq_true]at hr;simp only[aw]at h⊢;obtain⟨v,r,e,e1,e2⟩:=h;exact⟨v,r,e,tK hK hs hp.1 hr.1 e1,qa hK hs hp.2 hr.2 e2⟩
end
section
variable {P:Program} {ns:Names} {G:Gh} {w:World}
theorem tL{ρ:bO}{G':Gh}{n:Nat}(hK:G.K.le G'.K)(hs:∀s b,s<n→G.sm s=some b→G'.sm s=some b)(ht:∀τ t,G.tk τ=some t→G'.tk τ=some t):∀{xs:List AV} {vs:List Value},eV xs=true→aK.cz n xs=true→aw ρ G xs vs→aw ρ G' xs vs
 |[],_,_,_,h=>by simpa only[aw] using h
 |x::xs,_,hp,hr,h=>by
   simp only[eV,Bool.and_eq_true]at hp;simp only[aK.cz,Bool.and_eq_true]at hr;simp only[aw]at h⊢;obtain⟨v,r,e,e1,e2⟩:=h;refine⟨v,r,e,?_,tL hK hs ht hp.2 hr.2 e2⟩;cases x with
   |own l τ=>
     simp only[aB]at e1⊢;obtain⟨t,a1,a2,a3,a4⟩:=e1;exact⟨t,ht _ _ a1,a2,a3.mono hK,fun hl=>⟨(a4 hl).1,M3 (a4 hl).2 fun⟨b,o,e,r⟩=>⟨b,o,e,Row.mono hK _ _ _ _ r⟩⟩⟩
   |_=>exact tK hK hs (show bL _=true from hp.1) hr.1 e1
theorem Ib{ρ:bO}{G':Gh}{n:Nat}(hK:G.K.le G'.K)(hs:∀s b,s<n→G.sm s=some b→G'.sm s=some b)(ht:∀τ t,G.tk τ=some t→G'.tk τ=some t){x:AV}{v:Value}(hp:bI x=true)(hr:aK n x=true)(h:aB ρ G x v):aB ρ G' x v:=by
 cases x with
 |own l τ=>
   simp only[aB]at h⊢;obtain⟨t,e1,e2,e3,e4⟩:=h;exact⟨t,ht _ _ e1,e2,e3.mono hK,fun hl=>⟨(e4 hl).1,M3 (e4 hl).2 fun⟨b,o,e,r⟩=>⟨b,o,e,Row.mono hK _ _ _ _ r⟩⟩⟩
 |agg cs=>
   simp only[aK]at hr;simp only[aB]at h⊢;obtain⟨vs,e,r⟩:=h;exact⟨vs,e,tL hK hs ht (by simpa[bI] using hp) hr r⟩
 |_=>exact tK hK hs (show bL _=true from hp) hr h
theorem nU{ρ:bO}{G':Gh}{n:Nat}(hK:G.K.le G'.K)(hs:∀s b,s<n→G.sm s=some b→G'.sm s=some b)(ht:∀τ t,G.tk τ=some t→G'.tk τ=some t):∀{xs:List AV} {vs:List Value},xs.all bI=true→xs.all (aK n)=true→aw ρ G xs vs→aw ρ G' xs vs
 |[],_,_,_,h=>by simpa only[aw] using h
 |x::xs,_,hp,hr,h=>by
   simp only[List.all_cons,Bool.and_eq_true]at hp hr;simp only[aw]at h⊢;obtain⟨v,r,e,e1,e2⟩:=h;exact⟨v,r,e,Ib hK hs ht hp.1 hr.1 e1,nU hK hs ht hp.2 hr.2 e2⟩
def Gh.bare(G:Gh):Gh:={ G with pm:=fun _=>none,role:=fun b=>match G.role b with| .lB _=>.eg|r=>r }
theorem Inv.bare{mem:List (Nat×List AV)}{sh:Sh}{ts:aG}(hi:Inv (num ns) G w mem sh ts):Inv (num ns) G.bare w [] sh ts where
 known:=hi.known
 aZ:=fun b o v hk=>by
   rcases hi.aZ b o v hk with h|⟨τ,h⟩
   ·exact .inl (by simp[Gh.bare,h])
   ·exact .inr ⟨τ,by simp[Gh.bare,h]⟩
 fresh:=fun b hb=>by simp[Gh.bare,hi.fresh b hb]
 cR:=fun d cells h=>by simp[look]at h
 gA:=fun d b h=>by simp[Gh.bare]at h
 di:=fun s cells hs=>by
   obtain⟨b,e1,e2,e3,e4⟩:=hi.di s cells hs;obtain⟨hr,o,hh,hrel⟩:=e2;exact⟨b,e1,⟨by simp[Gh.bare,hr],o,hh,hrel.to (fun _ _ _ h=>h) (fun _ e=>e) (fun _ r=>jj (G:=G) (G':=G.bare) (bl.le_refl _) (fun _ _ h=>h) (fun _ _ h=>h) (iO e3) r)⟩,e3,e4⟩
 eo:=hi.eo
 db:=fun τ n h=>by
   obtain⟨t,e1,e2,e3⟩:=hi.db τ n h;refine⟨t,e1,e2,e3.cap,e3.zero,fun hlt=>?_⟩;obtain⟨b,o,c,ty,f1,f2,f3,f4,f5⟩:=e3.spare hlt;exact⟨b,o,c,ty,f1,by simp[Gh.bare,f2],f3,f4,f5⟩
 eS:=hi.eS
 jX:=fun b c hb=>⟨by simp[Gh.bare,(hi.jX b c hb).1],(hi.jX b c hb).2⟩
def Gh.np(G:Gh)(n:Nat):Gh:={ G with sm:=fun s=>if s<n then G.sm s else none }
theorem Inv.np{sh:Sh}{ts:aG}(hi:Inv (num ns) G w [] sh ts)(n:Nat):Inv (num ns) (G.np n) w [] (sh.take n) ts where
 known:=hi.known
 aZ:=hi.aZ
 fresh:=hi.fresh
 cR:=fun d cells h=>by simp[look]at h
 gA:=hi.gA
 di:=fun s cells hs=>by
   rw[List.getElem?_take]at hs;split at hs
   ·rename_i hlt;obtain⟨b,e1,e2,e3,e4⟩:=hi.di s cells hs;obtain⟨hr,o,hh,hrel⟩:=e2;exact⟨b,by simp[Gh.np,hlt,e1],⟨hr,o,hh,hrel.to (fun _ _ _ h=>h) (fun _ e=>e) (fun _ r=>nU (G:=G) (G':=G.np n) (n:=s+1) (bl.le_refl G.K) (fun s' b' hs' h=>by simp only[Gh.np];rw[if_pos (by omega)];exact h) (fun _ _ h=>h) (iO e3) e4 r)⟩,e3,e4⟩
   ·simp at hs
 eo:=fun s b h=>by
   simp only[Gh.np]at h;split at h
   ·have:=hi.eo s b h;simp;omega
   ·simp at h
 db:=fun τ n h=>by
   obtain⟨t,e1,e2,e3⟩:=hi.db τ n h;exact⟨t,e1,e2,e3.cap,e3.zero,e3.spare⟩
 eS:=hi.eS
 jX:=hi.jX
theorem Inv.shut{mem:List (Nat×List AV)}{sh:Sh}{aa:aG}{D:Nat}{x:Option (List Deferred)}(hi:Inv (num ns) G w mem sh aa)(hD:w.heap[D]?=some (.deferred x)) :
   Inv (num ns) G (w.putObj D (.deferred none)) mem sh aa:=by
 have hne:∀{b:Nat} {c:Array Value} {t:TypeId},w.heap[b]?=some (.cells c t (0,0))→(w.putObj D (.deferred none)).heap[b]?=some (.cells c t (0,0)):=by
   intro b c t h;rw[World.putObj_heap_other]
   ·exact h
   ·rintro rfl;rw[hD]at h;cases h
 have hsize:(w.putObj D (.deferred none)).heap.size=w.heap.size:=by simp[World.putObj]
 refine { hi with known:=?_,fresh:=?_,cR:=?_,di:=?_,db:=?_,jX:=?_ }
 · intro b o v hk;have h:=hi.known b o v hk;rw[←h];have:b≠D:=by rintro rfl;simp[World.cell?,hD]at h
   simp only[World.cell?,World.putObj_heap_other this]
 ·intro b hb;exact hi.fresh b (by omega)
 ·intro k cs hk;obtain⟨b,e1,⟨e2,c,t,e3,e4⟩,e5⟩:=hi.cR k cs hk;exact⟨b,e1,⟨e2,c,t,hne e3,e4⟩,e5⟩
 · intro k cs hk;obtain⟨b,e1,⟨e2,o,e3,e4⟩,e5⟩:=hi.di k cs hk;refine⟨b,e1,⟨e2,o,?_,e4⟩,e5⟩;rw[World.putObj_heap_other]
   ·exact e3
   · rintro rfl
     rw[hD]at e3;cases e3;rcases e4 with⟨_,_,_,_,h,_⟩|⟨_,_,_,h,_⟩<;>cases h
 ·intro τ n hn;obtain⟨t,e1,e2,e3⟩:=hi.db τ n hn;refine⟨t,e1,e2,e3.cap,e3.zero,fun hlt=>?_⟩;obtain⟨b,o,c,ty,f1,f2,f3,f4,f5⟩:=e3.spare hlt;exact⟨b,o,c,ty,f1,f2,hne f3,f4,f5⟩
 · intro b c hb;obtain⟨h1,t',z,h2⟩:=hi.jX b c hb;refine⟨h1,t',z,?_⟩;rw[World.putObj_heap_other]
   ·exact h2
   ·rintro rfl;rw[hD]at h2;cases h2
theorem bJ.shut{G':Gh}{w':World}{D:Nat}(he:bJ G w G' w')(hD:w.heap.size≤D):bJ G w G' (w'.putObj D (.deferred none)):=
 { he with
   size:=by simpa[World.putObj] using he.size
   os:=by simpa[World.putObj] using he.os
   tape:=by simpa[World.putObj] using he.tape
   output:=by simpa[World.putObj] using he.output
   eg:=fun b hb hr=>by
     obtain⟨h1,h2⟩:=he.eg b hb hr;exact⟨h1,by rw[World.putObj_heap_other (by omega)];exact h2⟩ }
theorem rb{fn:Func}{tmps:Array Value}{R:Ending→World→Prop}{mem:List (Nat×List AV)}{sh:Sh}{aa:aG}{G':Gh}:∀(Ds:List Nat) (w':World),Inv (num ns) G' w' mem sh aa→bJ G w G' w'→Ds.Nodup →
   (∀D∈Ds,w.heap.size≤D∧w'.heap[D]?=some (.deferred (some []))) →
   (∀w'',Inv (num ns) G' w'' mem sh aa→bJ G w G' w''→∃v,(results fn tmps).run P w''=.ok v w''∧R (.returned v) w'') →
   LeavesInM Fence.wide 0 P fn tmps R (Ds.map (fun D=>{ target:=.collected D,args:=#[] })) .returning w'
 |[],w',hi,he,_,_,h=>h w' hi he
 |D::Ds,w',hi,he,hn,hD,h=>by
   obtain⟨h1,h2⟩:=hD D (by simp);refine⟨by simp,.inl ⟨D,_,rfl,run_takeDeferred h2,?_⟩⟩;simp only[List.nodup_cons]at hn;refine rb Ds _ (hi.shut h2) (he.shut h1) hn.2 (fun E hE=>?_) h;obtain⟨g1,g2⟩:=hD E (by simp[hE]);refine⟨g1,?_⟩;rw[World.putObj_heap_other]
   ·exact g2
   ·rintro rfl;exact hn.1 hE
theorem tM(hm:P.follows .mixedOrders=true)(hB:eK P ns)(hBk:rV P ns){orc:dX}(horc:gi P ns orc){A:jS}{k f:Nat}{aU:Bool}{fn:Func}{af:aA}(hf:P.funcs[f]?=some fn)(hc:oA P ns A fn=some af)
   {args rs:List AV} {vs:List Value} {sh sh':Sh} {ts ts':aG} (hi:Inv (num ns) G w [] sh ts) (hr:aw (num ns) G args vs) (hN:args.length≤af.ntmps) (h:bZ orc k aU af args sh ts=some (rs,sh',ts')) :
   (Calls P f vs.toArray w fun e w'=>∃v G',e=.returned v∧cS (num ns) G' rs v∧Inv (num ns) G' w' [] sh' ts'∧bJ G w G' w')∧rs.all bI=true:=by
 unfold oA at hc;split at hc
 · rename_i c ars tH gW;simp only[Option.ite_none_right_eq_some,Option.map_eq_some_iff]at hc;obtain⟨_,ac,hcc,rfl⟩:=hc;unfold bZ at h;split at h
   · rename_i e st hev;simp only[Option.ite_none_right_eq_some]at h;obtain⟨he,h⟩:=h;split at h
     · rename_i xs hxs;simp only[Option.ite_none_right_eq_some]at h;obtain⟨hpass,h⟩:=h;let kst:=A.ks;let shk:Sh:=eM aU kst st.sh xs;let Pe:Sh:=if (cm aU kst st.sh xs).all (aK sh.length)=true then shk.take sh.length else shk;have h:some ((cQ st.aa (cm aU kst st.sh xs) Pe).1,(cQ st.aa (cm aU kst st.sh xs) Pe).2.1,(cQ st.aa (cm aU kst st.sh xs) Pe).2.2.2)=some (rs,sh',ts'):=h;simp only[Option.some.injEq,Prod.mk.injEq]at h;obtain⟨QP,hsh,hts⟩:=h;have hpass':rs.all bI=true:=by rw[←QP];exact iv hpass
       refine⟨?_,hpass'⟩;refine callsIn_wide (n:=0).1 (callsIn_of_wp_marks hf tH trivial ?_ rfl);have hs0:gK (num ns) w.heap.size fn.ntmps G { env:=bY 0 args,mem:=[],sh,aa:=ts } { tmps:=vs.toArray++Array.replicate (fn.ntmps-vs.toArray.size) undef,defers:=[] } w:=⟨KJ hr hN,hi,Nat.le_refl _,[],rfl,by simp,by simp⟩;refine iQ (ro:=none) hm hB horc hBk hcc (.inl rfl) hev hs0 fun G' a' w1 hs1 hevo1=>?_
       have key:LeavesInM Fence.wide 0 P fn a'.tmps (fun e w'=>∃v G',e=.returned v∧cS (num ns) G' rs v∧Inv (num ns) G' w' [] sh' ts'∧bJ G w G' w') a'.defers .returning w1:=by
         obtain⟨m0,Ds,m1,m2,m3⟩:=hs1.marks;rw[m1];refine rb Ds w1 hs1.inv hevo1 m2 (fun D hD=>⟨(m3 D hD).1,(m3 D hD).2.2.2⟩) ?_;intro w' hi' hevo;have hs':gK (num ns) w.heap.size fn.ntmps G' st { tmps:=a'.tmps,defers:=[] } w':=⟨⟨hs1.env.size,hs1.env.env⟩,hi',hevo.size,[],rfl,by simp,by simp⟩;obtain⟨us,u1,u2⟩:=q_ (P:=P) hs' (F:=fun| .tmp t=>pure (a'.tmps.getD t undef)| .cell ad t=>do loadVar t (←asAddr (a'.tmps.getD ad undef))) (fun _=>rfl) (fun _ _=>rfl) gW hxs;refine⟨(if h:us.toArray.size=1 then us.toArray[0] else .tuple us.toArray),?_,?_⟩
         · unfold results;rw[Array.mapM_eq_mapM_toList];simp only[Sem.run_bind,Sem.run_map]
           erw [u1]
           rfl
         · obtain⟨G1,k1,k2,k3,hout⟩:∃G1,Inv (num ns) G1 w' st.mem shk st.aa∧G'.le G1∧bJ G' w' G1 w'∧aw (num ns) G1 (cm aU kst st.sh xs) us:=by
             by_cases hkk:(aU && kst)=true
             · refine⟨G',?_,Gh.le_refl _,bJ.refl _ _,?_⟩
               · have:shk=st.sh:=by simp only[shk,eM,hkk,if_true]
                 rw[this];exact hs'.inv
               · have:cm aU kst st.sh xs=xs:=by
                   simp only[Bool.and_eq_true]at hkk;simp only[cm,hkk.1,hkk.2,if_true]
                 rw[this];exact u2
             · obtain⟨G1,k1,k2,k3,k4,k5⟩:=Inv.kill (xs.flatMap ei) hs'.inv;refine⟨G1,?_,k2,k3,DR (aU:=aU) k2 k4 hs'.inv.sO (fun s hs=>hs) u2⟩
               have:shk=cy st.sh xs:=by
                 simp only[shk,eM];rw[if_neg hkk]
               rw[this];exact k1
           have hbare:=jj (G:=G1) (G':=G1.bare) (bl.le_refl _) (fun _ _ h=>h) (fun _ _ h=>h) hpass hout;have k1b:=k1.bare;have hevo0:=hevo.trans k3
           obtain⟨G2,i2,r2,e2⟩:∃G2,Inv (num ns) G2 w' [] Pe st.aa∧aw (num ns) G2 (cm aU kst st.sh xs) us∧bJ G w G2 w':=by
             have bareEvo:bJ G w G1.bare w':={
               size:=hevo0.size,os:=hevo0.os,tape:=hevo0.tape,output:=hevo0.output,K:=hevo0.K,sm:=hevo0.sm,
               eg:=fun b hb hr=>⟨by simp[Gh.bare,(hevo0.eg b hb hr).1],(hevo0.eg b hb hr).2⟩
               iD:=fun b τ hb hr=>by
                 rcases hevo0.iD b τ hb hr with h|⟨τ',h⟩
                 ·exact .inl (by simp[Gh.bare,h])
                 ·exact .inr ⟨τ',by simp[Gh.bare,h]⟩
               gB:=hevo0.gB }
             by_cases href:(cm aU kst st.sh xs).all (aK sh.length)=true
             · have hshd:Pe=shk.take sh.length:=if_pos href;rw[hshd];refine⟨G1.bare.np sh.length,k1b.np sh.length,nU (G:=G1.bare) (G':=G1.bare.np sh.length) (n:=sh.length) (bl.le_refl _) (fun s b hs h=>by simp only[Gh.np];rw[if_pos hs];exact h) (fun _ _ h=>h) hpass href hbare,?_⟩
               exact { size:=bareEvo.size,os:=bareEvo.os,tape:=bareEvo.tape,output:=bareEvo.output,K:=bareEvo.K,
                       sm:=fun s b hsb=>by
                         have:=hi.eo s b hsb;show (if s<sh.length then G1.sm s else none)=some b;rw[if_pos this];exact bareEvo.sm s b hsb
                       eg:=bareEvo.eg,iD:=bareEvo.iD,gB:=bareEvo.gB }
             ·have hshd:Pe=shk:=if_neg href;rw[hshd];exact⟨G1.bare,k1b,hbare,bareEvo⟩
           obtain⟨m,tks,hNS,hto,hrel⟩:=i2.Jf hpass r2;rw[QP]at hrel;rw[hsh,hts]at hto;exact⟨_,G2.to m tks,rfl,DS hrel,hto,e2.to m tks⟩
       cases e with
       |normal=>exact key
       |ret=>exact key
       |exit id=>simp at he
     ·simp at h
   ·simp at h
 ·simp at hc
theorem uV{orc:dX}{k:Nat}{aU:Bool}{af:aA}{args rs:List AV}{sh sh':Sh}{ts ts':aG}(h:bZ orc k aU af args sh ts=some (rs,sh',ts')):rs.all bI=true:=by
 unfold bZ at h;split at h
 · split at h
   · split at h
     ·simp only[Option.ite_none_right_eq_some]at h;obtain⟨hp,h⟩:=h;have e:=congrArg Prod.fst (Option.some.inj h);dsimp only at e;rw[←e];exact iv hp
     ·simp at h
   ·simp at h
 ·simp at h
structure Impl(P:Program)(ns:Names)(AP:Nat→Option aA):Prop where
 mixed:P.follows .mixedOrders=true
 funcs:∀f g,ns.of f=some g→(∃fn A af,P.funcs[f]?=some fn∧oA P ns A fn=some af∧AP g=some af) ∨
   ((∃fn b,P.funcs[f]?=some fn∧fn.body=some b∧fn.name ≠ "runtime.NumGoroutine") ∧
     (AP g=none∨∃af pf,AP g=some af∧af.pM=some pf∧af.body=.exit 0∧∀orc,gi P ns orc→∀cV rs,pf.f orc.p cV=some rs→vj P ns f cV rs))
 Jj:rV P ns
 QQ:∀g sz bytes f,look ns.cl g=some (sz,bytes)→ns.of f=some g→Nonempty (iw P ns f sz bytes)
theorem Impl.xM{AP:Nat→Option aA}(h:Impl P ns AP):eK P ns:=by
 intro f g hg;rcases h.funcs f g hg with⟨fn,A,af,h1,h2,_⟩|⟨⟨fn,b,h1,h2,h3⟩,_⟩
 · unfold oA at h2;split at h2
   ·rename_i b rs hb _;simp only[Option.ite_none_right_eq_some]at h2;obtain⟨⟨_,hn⟩,_⟩:=h2;exact⟨fn,b,h1,hb,by simpa using hn⟩
   ·simp at h2
 ·exact⟨fn,b,h1,h2,h3⟩
theorem DT{A:jS}{fn:Func}{af:aA}(h:oA P ns A fn=some af):af.pM=none:=by
 unfold oA at h;split at h
 ·simp only[Option.ite_none_right_eq_some,Option.map_eq_some_iff]at h;obtain⟨_,_,_,rfl⟩:=h;rfl
 ·simp at h
theorem tN:∀{rs:List AV} {ps:List PV},fC rs=some ps→rs=ps.map .pv
 |[],ps,h=>by simp[fC]at h;subst h;rfl
 |x::rs,ps,h=>by
   cases x with
   |pv p=>
     simp only[fC,Option.map_eq_some_iff]at h;obtain⟨qs,h1,rfl⟩:=h;simp[tN h1]
   |_=>simp[fC]at h
theorem re:∀{ps:List PV} {vs:List Value},aw (num ns) G (ps.map .pv) vs→ja G.K ps vs
 |[],vs,h=>by simp only[List.map_nil,aw]at h;exact h
 |p::ps,vs,h=>by
   simp only[List.map_cons,aw]at h;obtain⟨v,r,e,e1,e2⟩:=h;simp only[aB]at e1;exact⟨v,r,e,e1,re e2⟩
theorem Ic{ps:List PV}{v:Value}(h:cS (num ns) G (ps.map .pv) v):gZ G.K ps v:=by
 unfold gZ;split
 ·rename_i p;simp only[List.map_cons,List.map_nil,cS,aB]at h;exact h
 · rename_i hn;unfold cS at h;split at h
   · rename_i r e;cases ps with
     |nil=>simp at e
     |cons q qs=>
       cases qs with
       |nil=>exact absurd rfl (hn q)
       |cons _ _=>simp at e
   ·obtain⟨vs,e,h⟩:=h;exact⟨vs,e,re h⟩
theorem vM{AP:Nat→Option aA}(hI:Impl P ns AP)(k:Nat):∀n,gi P ns (run AP k n)
 |0=>⟨fun g f cV rs _ h=>by simp[run]at h,fun g f args ts rs sh sh' ts' _ _ h=>by simp[run]at h,fun g sz by_ f h1 h2=>(hI.QQ g sz by_ f h1 h2).elim Az⟩
 |n+1=>by
   have ih:=vM hI k n;refine⟨fun g f cV rs hg h=>?_,fun g f args ts rs sh sh' ts' hg hp h=>?_,ih.c⟩
   · rcases hI.funcs f g hg with⟨fn,A,af,h1,h2,h3⟩|⟨_,h3|⟨af,pf,h3,h4,_,h5⟩⟩
     · simp only[run,h3,DT h2,Option.ite_none_right_eq_some]at h;obtain⟨⟨_,hN⟩,h⟩:=h;split at h
       · rename_i xs x2 hb;obtain⟨sh',ts'⟩:=x2;have hxs:=tN h;subst hxs;intro K w vs hpin hK hr;let G0:Gh:={ K,role:=fun _=>.eg,pm:=fun _=>none,sm:=fun _=>none,tk:=fun _=>none }
         have hi:Inv (num ns) G0 w [] [] []:={
           known:=hK,aZ:=fun _ _ _ _=>.inl rfl,fresh:=fun _ _=>rfl,cR:=fun d c h=>by simp[look]at h,gA:=fun d b h=>by simp[G0]at h,
           di:=fun s c h=>by simp at h,eo:=fun s b h=>by simp[G0]at h,db:=fun τ n h=>by simp at h,eS:=fun τ t h=>by simp[G0]at h,jX:=fun b c hb=>⟨rfl,hpin b c hb⟩ }
         have hC:=(tM hI.mixed hI.xM hI.Jj ih h1 h2 hi (fQ (ρ:=num ns) (G:=G0) hr) (by simpa using hN) hb).1;refine hC.mono ?_
         rintro e w' ⟨v,G',rfl,gW,hi',hevo⟩
         refine⟨v,G'.K,rfl,Ic gW,hevo.K,fun b o u hb hk=>hevo.gB b o u hb rfl hk,hi'.known,⟨hevo.os,hevo.tape,hevo.output,hevo.size,fun b hb=>(hevo.eg b hb rfl).2⟩⟩
       ·simp at h
     ·simp only[run,h3]at h;cases h
     ·simp only[run,h3,h4]at h;exact h5 _ ih _ _ h
   · rcases hI.funcs f g hg with⟨fn,A,af,h1,h2,h3⟩|⟨_,h3|⟨af,pf,h3,_,h4,_⟩⟩
     ·simp only[run,h3,Option.ite_none_right_eq_some]at h;obtain⟨hN,h⟩:=h;exact⟨fun G w vs hi hr=>(tM hI.mixed hI.xM hI.Jj ih h1 h2 hi hr hN h).1,uV h⟩
     ·simp only[run,h3]at h;cases h
     ·simp only[run,h3,Option.ite_none_right_eq_some]at h;obtain⟨_,h⟩:=h;unfold bZ at h;rw[h4]at h;simp[cK]at h
end
end Go.Ab
namespace Go.Ab
def tO:Code→List (Nat×Array Oper)
 | .region id ops _=>[(id,ops)]
 | .seq a b| .cond _ a b| .rangeFunc _ _ a b=>tO a++tO b
 | .block _ c| .loop c| .scope c=>tO c
 |_=>[]
def lW:Code→List Nat
 | .seq a b| .cond _ a b| .rangeFunc _ _ a b=>lW a++lW b
 | .block i c=>i::lW c
 | .loop c| .scope c=>lW c
 |_=>[]
def fE(fn:Func):Code:=match fn.body with|some c=>c|none=>.skip
def lX(fn:Func)(i:Nat):Array Oper:=match (tO (fE fn))[i]? with|some (_,o)=>o|none=>#[]
def de(fn:Func)(i:Nat):Nat:=match (tO (fE fn))[i]? with|some (n,_)=>n|none=>0
def rW(fn:Func)(i:Nat):Nat:=match (lW (fE fn))[i]? with|some n=>n|none=>0
def aS(fn:Func)(i j:Nat):Oper:=match (lX fn i).toList[j]? with|some o=>o|none=>default
def typesOf(o:Oper):Array TypeId:=match o.op with| .call c=>c.argTypes|_=>#[]
def dy(o:Oper):TypeId×TypeId:=match o.op with| .binOp _ t _ _ u=>(t,u)|_=>(0,0)
def KM(P:Program)(t:TypeId):TypeId:=match P.underlying t with|some (.slice e)=>e|_=>0
open Go.ChangeShapes Go.WideShapes Go.ChangeAt Go.RowKit
def KW(w:World):bl:=fun b o=>w.cell? ⟨b,o,none⟩
theorem SI(w:World):BB (KW w) w:=fun _ _ _ h=>h
def NU(S:TypeId→PV→Prop):List Field→List PV→Prop
 |[],[]=>True
 |f::fs,p::ps=>S f.type p∧NU S fs ps
 |_,_=>False
def tP(P:Program):Nat→TypeId→PV→Prop
 |0,_,_=>False
 |n+1,t,p=>match P.underlying t with
   |some .bool=>∃b,p=.bool b
   |some (.int k)=>∃i,p=.int k i∧(Lit.int k i).wf=true
   |some .string=>∃s,p=.str s∧s.length≤maxLen
   |some (.slice e)=>∃els,p=.au els∧els.length≤maxLen∧∀q∈els,tP P n e q
   |some (.struct fs)=>∃ps:List PV,p=.agg (ps.flatMap aX)∧NU (tP P n) fs.toList ps
   |_=>False
def KN(P:Program):Nat→List Field→Nat→Bool
 |o,[],total=>o == total
 |o,f::fs,total=>f.offset == o && KN P (o+P.cellsOf f.type) fs total
def EO(P:Program)(T:List TypeId):Bool:=T.all fun t=>match P.underlying t with
 |some .bool|some (.int _)|some .string=>true
 |some (.slice e)=>T.contains e && decide (0<P.cellsOf e)
 |some (.struct fs)=>fs.toList.all (fun f=>T.contains f.type) && KN P 0 fs.toList (P.cellsOf t)
 |_=>false
section
variable {H:Type} {enc:TypeId×Value→H} {P:Program} {w:World} {base:Nat} {sp:Nat→Bool} {held:Bool}
theorem AE{α β:Type}{f:α→Option β}:∀{l:List α} {r:List β},l.mapM f=some r→∀{i:Nat} {x:α},l[i]?=some x→∃y,r[i]?=some y∧f x=some y
 |[],_,_,i,x,hx=>by simp at hx
 |a::l,r,h,i,x,hx=>by
   simp only[List.mapM_cons,Option.bind_eq_bind,Option.bind_eq_some_iff,Option.pure_def,Option.some.injEq]at h;obtain⟨y,h1,ys,h2,rfl⟩:=h;cases i with
   |zero=>simp at hx;subst hx;exact⟨y,by simp,h1⟩
   |succ i=>simpa using AE h2 (i:=i) (by simpa using hx)
theorem AF{α β:Type}{f:α→Option β}:∀{l:List α} {r:List β},l.mapM f=some r→r.length=l.length
 |[],r,h=>by simp at h;subst h;rfl
 |a::l,r,h=>by
   simp only[List.mapM_cons,Option.bind_eq_bind,Option.bind_eq_some_iff,Option.pure_def,Option.some.injEq]at h;obtain⟨y,h1,ys,h2,rfl⟩:=h;simp[AF h2]
theorem Ie{a:Addr}{n:Nat}{cs:List Value}(hn:0<n)(h:w.cells? base a n=some cs):cs.length=n∧a.spot=none∧At (KW w) a.block a.off cs:=by
 unfold World.cells? at h;split at h
 · have hl:cs.length=n:=by simpa using AF h
   have key:∀i,i<n→∃y,cs[i]?=some y∧w.cell? (a.add i)=some y:=by
     intro i hi;exact AE h (i:=i) (x:=i) (by simp[hi])
   obtain⟨y0,_,h0⟩:=key 0 hn
   have hspot:a.spot=none:=by
     cases hsp:a.spot with
     |none=>rfl
     |some s=>
       simp only[Addr.add,if_true,World.cell?]at h0;split at h0
       ·simp[hsp]at h0
       ·cases h0
   refine⟨hl,hspot,?_⟩;intro j v hj;have hjn:j<n:=by have:=(List.getElem?_eq_some_iff.1 hj).1;omega
   have e:a.add j=⟨a.block,a.off+j,none⟩:=by
     unfold Addr.add;split
     ·rename_i h0;subst h0;cases a;simp_all
     ·rfl
   obtain⟨y,h1,h2⟩:=key j hjn;rw[e]at h2;rw[hj]at h1;cases h1;exact h2
 ·cases h
theorem EP{K:bl}{S:PV→Prop}{b sz:Nat}:∀{n:Nat} {o:Nat},(∀i,i<n→∃vs q,vs.length=sz∧At K b (o+i*sz) vs∧S q∧R K true q vs)→∃els:List PV,els.length=n∧(∀q∈els,S q)∧Row K b o sz els
 |0,o,_=>⟨[],rfl,by simp,by simp only[Row]⟩
 |n+1,o,h=>by
   obtain⟨vs,q,h1,h2,h3,h4⟩:=h 0 (by omega)
   obtain⟨els,e1,e2,e3⟩:=EP (K:=K) (S:=S) (b:=b) (sz:=sz) (n:=n) (o:=o+sz) fun i hi=>by
     obtain⟨vs,q,h1,h2,h3,h4⟩:=h (i+1) (by omega);refine⟨vs,q,h1,?_,h3,h4⟩
     rwa [show o+sz+i*sz=o+(i+1)*sz from by rw[Nat.add_mul];omega]
   refine⟨q::els,by simp[e1],?_,?_⟩
   · intro x hx;simp only[List.mem_cons]at hx;rcases hx with rfl|hx
     ·exact h3
     ·exact e2 x hx
   ·simp only[Row];exact⟨⟨vs,h1,by simpa using h2,h4⟩,e3⟩
theorem vN{K:bl}{S:TypeId→PV→Prop}{cs:List Value}:∀{fs:List Field} {o total:Nat},KN P o fs total=true→cs.length=total →
   (∀f∈fs,∃q,S f.type q∧R K true q ((cs.drop f.offset).take (P.cellsOf f.type)))→∃ps:List PV,NU S fs ps∧dF K (ps.flatMap aX) (cs.drop o)
 |[],o,total,hl,hc,_=>⟨[],by simp[NU],by
     simp[KN]at hl;simp[dF];omega⟩
 |f::fs,o,total,hl,hc,h=>by
   simp only[KN,Bool.and_eq_true,beq_iff_eq]at hl;obtain⟨hf,hl⟩:=hl;obtain⟨q,h1,h2⟩:=h f (by simp);obtain⟨ps,e1,e2⟩:=vN (K:=K) (S:=S) (cs:=cs) hl hc (fun f' hf'=>h f' (by simp[hf']));refine⟨q::ps,⟨h1,e1⟩,?_⟩;simp only[List.flatMap_cons];have:=(R.cells h2).append e2;rw[hf]at this
   rwa [←List.drop_drop,List.take_append_drop]at this
theorem tQ{T:List TypeId}(hT:EO P T=true):∀(n:Nat) (t:TypeId) (cs:List Value) (x:DataW H×List MemPlace),t∈T →
   DataW.trod enc P w base sp held n t cs=some x→∃p,tP P n t p∧R (KW w) true p cs
 |0,t,cs,x,_,h=>by simp[DataW.trod]at h
 |n+1,t,cs,x,ht,h=>by
   have hp:=List.all_eq_true.1 hT t ht;simp only[tP];split at hp
   ·rename_i hu;obtain⟨b,rfl,_⟩:=DataW.trod_bool hu h;exact⟨.bool b,by exact⟨b,rfl⟩,by simp[R]⟩
   ·rename_i k hu;obtain⟨i,rfl,_,hw⟩:=DataW.trod_int hu h;exact⟨.int k i,by exact⟨i,rfl,hw⟩,by simp[R]⟩
   ·rename_i hu;obtain⟨s,rfl,_,hl⟩:=DataW.trod_string hu h;exact⟨.str s.data.toList,by exact⟨_,rfl,by simpa using hl⟩,by simp[R]⟩
   · rename_i e hu;simp only[Bool.and_eq_true,List.contains_iff_mem,decide_eq_true_eq]at hp;rcases DataW.trod_slice hu h with⟨rfl,_⟩|⟨a,len,cap,elems,rest,m,e0,rfl,_,_,hlen,hcap,hel,hget,_,_⟩
     ·exact⟨.au [],by exact⟨[],rfl,by simp,by simp⟩,by simp only[R];exact⟨none,0,0,rfl,Nat.le_refl _,rfl,.inl trivial⟩⟩
     · have hm:m=n:=(by omega);subst hm;by_cases h0:len=0
       ·subst h0;exact⟨.au [],by exact⟨[],rfl,by simp,by simp⟩,by simp only[R];exact⟨some a,0,cap,rfl,hlen,rfl,.inl trivial⟩⟩
       · have key:∀i,i<len→∃vs q,vs.length=P.cellsOf e∧(a.add (i*P.cellsOf e)).spot=none∧At (KW w) (a.add (i*P.cellsOf e)).block (a.add (i*P.cellsOf e)).off vs∧tP P m e q∧R (KW w) true q vs:=by
           intro i hi;have hg:=hget i hi;rw[List.getElem?_eq_getElem (by omega)]at hg;simp only[Option.bind_eq_some_iff]at hg;obtain⟨vs,h1,h2⟩:=hg;obtain⟨c1,c2,c3⟩:=Ie hp.2 h1;obtain⟨q,q1,q2⟩:=tQ hT m e vs _ hp.1 h2;exact⟨vs,q,c1,c2,c3,q1,q2⟩
         have hspot:a.spot=none:=by
           obtain⟨_,_,_,h2,_⟩:=key 0 (by omega);simpa[Addr.add] using h2
         obtain⟨els,e1,e2,e3⟩:=EP (K:=KW w) (S:=tP P m e) (b:=a.block) (sz:=P.cellsOf e) (n:=len) (o:=a.off) fun i hi=>by
           obtain⟨vs,q,c1,c2,c3,q1,q2⟩:=key i hi;refine⟨vs,q,c1,?_,q1,q2⟩
           have:(a.add (i*P.cellsOf e)).block=a.block∧(a.add (i*P.cellsOf e)).off=a.off+i*P.cellsOf e:=by
             unfold Addr.add;split
             ·rename_i h0;simp[h0]
             ·exact⟨rfl,rfl⟩
           rwa [this.1,this.2]at c3
         refine⟨.au els,by exact⟨els,rfl,by omega,e2⟩,?_⟩;simp only[R];refine⟨some a,len,cap,rfl,hlen,e1,.inr ⟨a.block,a.off,P.cellsOf e,?_,e3⟩⟩;cases a;simp_all
   · rename_i fs hu;simp only[Bool.and_eq_true,List.all_eq_true,List.contains_iff_mem]at hp;obtain⟨xs,m,e0,_,hcs,hxs,hget⟩:=DataW.trod_struct hu h;have hm:m=n:=by omega
     subst hm
     obtain⟨ps,e1,e2⟩:=vN (K:=KW w) (S:=tP P m) (cs:=cs) hp.2 hcs fun f hf=>by
       obtain⟨i,hi,RR⟩:=List.getElem_of_mem hf;have hg:=hget i f (by rw[←Array.getElem?_toList];rw[List.getElem?_eq_getElem hi,RR]);rw[List.getElem?_eq_getElem (by simp at hi;omega)]at hg;exact tQ hT m f.type _ _ (hp.1 f hf) hg
     refine⟨.agg (ps.flatMap aX),by exact⟨ps,rfl,e1⟩,?_⟩;simp only[R];exact⟨trivial,by simpa using e2⟩
   ·cases hp
theorem NV{T:List TypeId}(hT:EO P T=true){t:TypeId}{v:Value}{d:DataW H}{ps:List MemPlace}{r:Reach}{b0:Nat}(ht:t∈T)(hv:Value.okWide P w r b0 t v)
   (h:DataW.Trod enc P w base sp held t v d ps):∃n p,tP P n t p∧Rel (KW w) p v:=by
 obtain⟨n,hn⟩:=h;obtain⟨p,h1,h2⟩:=tQ hT n t _ _ ht hn;refine⟨n,p,h1,?_⟩;have hp:=List.all_eq_true.1 hT t ht;cases n with
 |zero=>simp[tP]at h1
 |succ n=>
   simp only[tP]at h1;simp only[Value.okWide]at hv;split at hp
   ·rename_i hu;rw[hu]at h1 hv;obtain⟨b,rfl⟩:=h1;simp only[Cell.okWide,hu,Cell.ok]at hv;cases v<;>simp_all[Value.cells,R,Rel]
   ·rename_i k hu;rw[hu]at h1 hv;obtain⟨b,rfl,_⟩:=h1;simp only[Cell.okWide,hu,Cell.ok]at hv;cases v<;>simp_all[Value.cells,R,Rel]
   ·rename_i hu;rw[hu]at h1 hv;obtain⟨b,rfl,_⟩:=h1;simp only[Cell.okWide,hu,Cell.ok]at hv;cases v<;>simp_all[Value.cells,R,Rel]
   · rename_i e hu;rw[hu]at h1 hv;obtain⟨b,rfl,_⟩:=h1;simp only[Cell.okWide,hu,Cell.ok]at hv;cases v with
     |slice a l c=>
       simp only[R]at h2;simp only[Rel,R];simpa[Value.cells] using h2
     |agg cs=>simp at hv
     |_=>simp_all[Value.cells,R]
   ·rename_i fs hu;rw[hu]at h1 hv;obtain⟨b,rfl,_⟩:=h1;obtain⟨cs,rfl,_⟩:=hv;simp only[Value.cells,R]at h2;exact⟨cs.toList,by simp,h2.2⟩
   ·cases hp
def Ig(P:Program):List TypeId→List PV→Prop
 |[],[]=>True
 |t::ts,p::ps=>(∃n,tP P n t p)∧Ig P ts ps
 |_,_=>False
theorem AG{T:List TypeId}(hT:EO P T=true){r:Reach}{b0:Nat}:∀{ts:List TypeId} {vs:List Value} {ds:List (DataW H)} {ps:List MemPlace},(∀t∈ts,t∈T) →
   (∀(j:Nat) t v,ts[j]?=some t→vs[j]?=some v→Value.okWide P w r b0 t v)→DataW.TrodAll enc P w base sp held ts vs ds ps→∃cV,Ig P ts cV∧ja (KW w) cV vs∧ds.length=ts.length
 |[],vs,ds,ps,_,_,h=>by
   obtain⟨rfl,rfl,rfl⟩:=trodAll_nil h;exact⟨[],by simp[Ig],by simp[ja],rfl⟩
 |t::ts,vs,ds,ps,hts,hv,h=>by
   obtain⟨v,vs',d,ds',p,q,rfl,rfl,rfl,h1,h2⟩:=trodAll_cons h;obtain⟨n,pv,a1,a2⟩:=NV hT (hts t (by simp)) (hv 0 t v (by simp) (by simp)) h1;obtain⟨cV,b1,b2,b3⟩:=AG hT (fun t ht=>hts t (by simp[ht])) (fun j t v hj hj'=>hv (j+1) t v (by simpa using hj) (by simpa using hj')) h2;exact⟨pv::cV,⟨⟨n,a1⟩,b1⟩,⟨v,vs',rfl,a2,b2⟩,by simp[b3]⟩
theorem tR{W W':World}(hl:laidOutB P=true)(hb:Below W.heap.size W W'):∀{ts:List TypeId} {vs:List Value} {ds:List (DataW H)} {ps:List MemPlace},(∀t∈ts,P.readableRec t=true∧t<P.types.size) →
   DataW.TrodAll enc P W 0 (fun _=>true) true ts vs ds ps→(∀x∈ps,x.block<W.heap.size)→∀{sp:Nat→Bool},(∀x∈ps,sp x.block=true)→DataW.TrodAll enc P W' 0 sp true ts vs ds ps
 |[],vs,ds,ps,_,h,_,_,_=>by
   obtain⟨rfl,rfl,rfl⟩:=trodAll_nil h;exact trodAll_mk0
 |t::ts,vs,ds,ps,hts,h,hlt,sp,hs=>by
   obtain⟨v,vs',d,ds',p,q,rfl,rfl,rfl,h1,h2⟩:=trodAll_cons h;refine trodAll_cons_mk ?_ (tR hl hb (fun t ht=>hts t (by simp[ht])) h2 (fun x hx=>hlt x (by simp[hx])) (fun x hx=>hs x (by simp[hx])));exact WideElems.Trod_stays hl (hts t (by simp)).1 (hts t (by simp)).2 h1 (fun x hx=>hb.same (hlt x (by simp[hx]))) (fun x hx=>hs x (by simp[hx]))
end
theorem Ih{H:Type}{enc:TypeId×Value→H}{P:Program}{f:Func}{s:ChangeSpec}{apart fresh handsOn again:Bool}{W W':World}{args:Array Value}{v:Value}{ds gs:List (DataW H)}{before:List MemPlace}
   (hW:DataW.Whole enc P f.params.toList s.vars apart W args.toList ds gs before)
   (gW:∀(b:Nat) (sp:Nat→Bool) (hd:Bool),DataW.TrodAll enc P W' b sp hd f.resultTypes.toList (v.resultList f.resultTypes.size) (s.fn H (ds++gs)).results [])
   (hargs:∀sp:Nat→Bool,(∀p∈before,sp p.block=true)→DataW.TrodAll enc P W' 0 sp true f.params.toList args.toList (s.fn H (ds++gs)).args before)
   (hvars:∀sp:Nat→Bool,DataW.TrodVars enc P W' sp s.vars (s.fn H (ds++gs)).vars []) (hB:Below W.heap.size W W')
   (hok:∀(j:Nat) (t:TypeId) (r:Value),f.resultTypes[j]?=some t→(v.resultList f.resultTypes.size)[j]?=some r→Value.okWide P W' .any 0 t r) :
   s.post enc P f apart fresh handsOn again W args v W':=by
 have hlt:∀p∈before,p.block<W.heap.size:=fun p hp=>by simpa using hW.lt p hp
 have hold:∀p∈before,(fun b=>decide (b<W.heap.size)) p.block=true:=fun p hp=>by simpa using hlt p hp
 refine⟨ds,gs,before,[],before,[],hW,gW _ _ _,hargs _ hold,hvars _,World.keptBut_mono (fun p hp=>⟨hp,.inr (.inl hp)⟩) (hB.frame _),fun _=>⟨hok,_,_,([]++before)++[],⟨[]++before,[],trodAll_append (hargs _ (fun _ _=>rfl)) (gW _ _ _),hvars _,rfl,?_,?_⟩,?_⟩⟩
 ·obtain⟨_,_,_,_,_,hz,_⟩:=hW;intro b off hp;simp only[List.nil_append,List.append_nil]at hp;rw[hB.frozen (hlt _ hp)];exact hz b off hp
 ·obtain⟨_,_,_,_,_,_,hn⟩:=hW;intro ha;simpa using hn ha
 ·intro p hp _;simpa using hp
theorem xN{H:Type}{enc:TypeId×Value→H}{P:Program}{ns:Names}{AP:Nat→Option aA}(hI:Impl P ns AP){f g:Nat}{fn:Func}{s:ChangeSpec}{T:List TypeId}{tb:TypeId}
   (hg:ns.of f=some g) (hvars:s.vars=[]) (gW:fn.resultTypes=#[tb]) (RS:P.underlying tb=some .bool) (hl:laidOutB P=true)
   (hrd:∀t∈fn.params.toList,P.readableRec t=true∧t<P.types.size) (hT:EO P T=true) (hin:∀t∈fn.params.toList,t∈T)
   (hs:∀ds:List (DataW H),ds.length=fn.params.size→s.fn H ds={ results:=[.lit (.bool true)],args:=ds })
   (law:∀cV,Ig P fn.params.toList cV→(aC AP).p g cV=some [.bool true])
   (W:World) (base:Nat) (args:Array Value) (ds gs:List (DataW H)) (before:List MemPlace)
   (hval:∀(j:Nat) t v,fn.params[j]?=some t→args[j]?=some v→Value.okWide P W .any base t v)
   (hW:DataW.Whole enc P fn.params.toList s.vars false W args.toList ds gs before)
   (hpin:nD ns.jX W:=by intro _ _ h;exact Option.noConfusion (show (none:Option (Array Value))=some _ from h)) :
   Calls P f args W fun e W'=>∃v,e=.returned v∧s.post enc P fn false true false false W args v W':=by
 have hW':=hW;obtain⟨p,q,hA,hV,rfl,hfz,hnd⟩:=hW;rw[hvars]at hV;obtain⟨rfl,rfl⟩:=trodVars_none hV;simp only[List.append_nil]at hW';obtain⟨cV,h1,h2,h3⟩:=AG (r:=.any) (b0:=base) hT hin (fun j t v hj hj'=>hval j t v (by simpa using hj) (by simpa using hj')) hA;obtain⟨n,hn⟩:=rS (law cV h1);have hC:=(vM hI n n).p g f cV _ hg hn (KW W) W args.toList hpin (SI W) h2;rw[Array.toArray_toList]at hC;refine hC.mono ?_
 rintro e W' ⟨v,K',rfl,hr,_,_,_,hB⟩
 simp only[gZ,Rel,R]at hr;obtain rfl:v=.bool true:=by simpa using hr
 have hlt:∀x∈p,x.block<W.heap.size:=fun x hx=>by simpa using hW'.lt x hx
 have hspec:=hs ds (by simpa using h3);refine⟨_,rfl,Ih hW' (fun _ _ _=>?_) (fun sp hsp=>?_) (fun _=>?_) hB (ok_one gW rfl (okWide_bool_mk RS _))⟩
 ·simp only[List.append_nil];rw[hspec,gW];exact trodAll_cons_mk (p:=[]) (p':=[]) (shut_bool RS _) trodAll_mk0
 ·simp only[List.append_nil];rw[hspec];exact tR hl hB hrd hA hlt hsp
 ·rw[hvars];simp only[List.append_nil];rw[hspec];rfl
end Go.Ab
namespace Go.Ab.Fc
variable {α:Type}
def fN(n:Nat)(K:Nat→Option α):Option α:=match n with
 |0=>K 0
 |m+1=>K (m+1)
theorem rf{n:Nat}{K:Nat→Option α}:fN n K=K n:=by cases n<;>rfl
def fI(n:Int)(K:Int→Option α):Option α:=match n with
 | .ofNat m=>fN m fun m=>K (.ofNat m)
 | .negSucc m=>fN m fun m=>K (.negSucc m)
theorem KO{n:Int}{K:Int→Option α}:fI n K=K n:=by cases n<;>simp[fI,rf]
def fB(b:Bool)(K:Bool→Option α):Option α:=match b with
 |true=>K true
 |false=>K false
theorem tS{b:Bool}{K:Bool→Option α}:fB b K=K b:=by cases b<;>rfl
def fS{β:Type}:List β→(List β→Option α)→Option α
 |[],K=>K []
 |a::r,K=>fS r fun r=>K (a::r)
theorem AH{β:Type}:∀{l:List β} {K:List β→Option α},fS l K=K l
 |[],_=>rfl
 |a::r,K=>by simp only[fS];rw[AH]
def fL(p:PV)(K:PV→Option α):Option α:=match p with
 | .bool b=>fB b fun b=>K (.bool b)
 | .int k n=>fI n fun n=>K (.int k n)
 | .str s=>K (.str s)
 | .agg cs=>K (.agg cs)
 | .au l=>K (.au l)
theorem Pl{p:PV}{K:PV→Option α}:fL p K=K p:=by cases p<;>simp[fL,tS,KO]
def SJ:List PV→(List PV→Option α)→Option α
 |[],K=>K []
 |a::r,K=>fL a fun a=>SJ r fun r=>K (a::r)
theorem DU:∀{l:List PV} {K:List PV→Option α},SJ l K=K l
 |[],_=>rfl
 |a::r,K=>by simp only[SJ];rw[Pl,DU]
def fP(p:PV)(K:PV→Option α):Option α:=match p with
 | .agg cs=>SJ cs fun cs=>K (.agg cs)
 |p=>fL p K
theorem KP{p:PV}{K:PV→Option α}:fP p K=K p:=by cases p<;>simp[fP,DU,Pl]
def U'(v:AV)(K:AV→Option α):Option α:=match v with
 | .un=>K .un
 | .pv p=>fP p fun p=>K (.pv p)
 | .dB l=>K (.dB l)
 | .own l τ=>fN τ fun τ=>K (.own l τ)
 | .agg cs=>K (.agg cs)
 | .qx cs=>K (.qx cs)
 | .az a b=>fN a fun a=>fN b fun b=>K (.az a b)
 | .aW a b=>fN a fun a=>fN b fun b=>K (.aW a b)
 | .fH cs=>fS cs fun cs=>K (.fH cs)
 | .aP a b c d=>fN a fun a=>fN c fun c=>K (.aP a b c d)
 | .fn g c=>K (.fn g c)
 | .jT=>K .jT
 | .jU s=>fN s fun s=>K (.jU s)
 | .fJ kvs=>fS kvs fun kvs=>K (.fJ kvs)
 | .pJ a b c=>fN a fun a=>fN b fun b=>fN c fun c=>K (.pJ a b c)
 | .jt a b=>fN a fun a=>fN b fun b=>K (.jt a b)
theorem KQ{v:AV}{K:AV→Option α}:U' v K=K v:=by cases v<;>simp[U',KP,rf,AH]
def NW:List AV→(List AV→Option α)→Option α
 |[],K=>K []
 |a::r,K=>U' a fun a=>NW r fun r=>K (a::r)
theorem tT:∀{l:List AV} {K:List AV→Option α},NW l K=K l
 |[],_=>rfl
 |a::r,K=>by simp only[NW];rw[KQ,tT]
def fA(v:AV)(K:AV→Option α):Option α:=match v with
 | .agg cs=>NW cs fun cs=>K (.agg cs)
 | .qx cs=>NW cs fun cs=>K (.qx cs)
 | .fn g cs=>NW cs fun cs=>K (.fn g cs)
 |v=>U' v K
theorem rh{v:AV}{K:AV→Option α}:fA v K=K v:=by cases v<;>simp[fA,tT,KQ]
def SK:List AV→(List AV→Option α)→Option α
 |[],K=>K []
 |a::r,K=>fA a fun a=>SK r fun r=>K (a::r)
theorem tU:∀{l:List AV} {K:List AV→Option α},SK l K=K l
 |[],_=>rfl
 |a::r,K=>by simp only[SK];rw[rh,tU]
def fV(v:AV)(K:AV→Option α):Option α:=match v with
 | .pv (.str s)=>fS s fun s=>K (.pv (.str s))
 | .pv (.au l)=>fS l fun l=>K (.pv (.au l))
 | .dB l=>fS l fun l=>SJ l fun l=>K (.dB l)
 | .own l τ=>fS l fun l=>fN τ fun τ=>K (.own l τ)
 |v=>fA v K
theorem KR{v:AV}{K:AV→Option α}:fV v K=K v:=by
 cases v with
 |pv p=>cases p<;>simp[fV,AH,rh]
 |_=>simp[fV,AH,rh,DU,rf]
def SL:List PV→(List PV→Option α)→Option α
 |[],K=>K []
 |a::r,K=>fP a fun a=>SL r fun r=>K (a::r)
theorem KU:∀{l:List PV} {K:List PV→Option α},SL l K=K l
 |[],_=>rfl
 |a::r,K=>by simp only[SL];rw[KP,KU]
def fresh:AK→Bool
 | .v (.d4 _)| .v (.slice ..)| .append ..| .v (.bin .add)=>true
 |_=>false
def WC(op:AK)(v:AV)(K:AV→Option α):Option α:=match op,v with
 | .v (.d4 _),.dB l=>SL l fun l=>K (.dB l)
 |op,v=>if fresh op then fV v K else fA v K
def fO{β:Type}(f:β→(β→Option α)→Option α)(o:Option β)(K:Option β→Option α):Option α:=match o with
 |none=>K none
 |some x=>f x fun x=>K (some x)
theorem SM{β:Type}{f:β→(β→Option α)→Option α}(hf:∀x K,f x K=K x){o:Option β}{K:Option β→Option α}:fO f o K=K o:=by cases o<;>simp[fO,hf]
def RU:Sh→(Sh→Option α)→Option α
 |[],K=>K []
 |a::r,K=>fO NW a fun a=>RU r fun r=>K (a::r)
theorem qb:∀{l:Sh} {K:Sh→Option α},RU l K=K l
 |[],_=>rfl
 |a::r,K=>by simp only[RU];rw[SM (fun _ _=>tT),qb]
def fT:aG→(aG→Option α)→Option α
 |[],K=>K []
 |a::r,K=>fN a fun a=>fT r fun r=>K (a::r)
theorem vO:∀{l:aG} {K:aG→Option α},fT l K=K l
 |[],_=>rfl
 |a::r,K=>by simp only[fT];rw[rf,vO]
def VE{β:Type}:List (Nat×β)→Nat→β→(List (Nat×β)→Option α)→Option α
 |[],t,u,K=>K [(t,u)]
 |(k,v)::r,t,u,K=>if k=t then K ((k,u)::r) else VE r t u fun r=>K ((k,v)::r)
def NX:List (Nat×AV)→(List (Nat×AV)→Option α)→Option α
 |[],K=>K []
 |(t,v)::r,K=>fA v fun v=>NX r fun r=>K ((t,v)::r)
theorem ER:∀{l:List (Nat×AV)} {K:List (Nat×AV)→Option α},NX l K=K l
 |[],_=>rfl
 |(t,v)::r,K=>by simp only[NX];rw[rh,ER]
def NY:List (Nat×List AV)→(List (Nat×List AV)→Option α)→Option α
 |[],K=>K []
 |(t,v)::r,K=>NW v fun v=>NY r fun r=>K ((t,v)::r)
theorem ES:∀{l:List (Nat×List AV)} {K:List (Nat×List AV)→Option α},NY l K=K l
 |[],_=>rfl
 |(t,v)::r,K=>by simp only[NY];rw[tT,ES]
def QR(st:St)(K:St→Option α):Option α:=match st with
 |⟨env,mem,sh,aa⟩=>NX env fun env=>NY mem fun mem=>RU sh fun sh=>fT aa fun aa=>K ⟨env,mem,sh,aa⟩
theorem tV{st:St}{K:St→Option α}:QR st K=K st:=by
 obtain⟨env,mem,sh,aa⟩:=st;simp only[QR];rw[ER,ES,qb,vO]
def lk{β:Type}:List (Nat×β)→Nat→Option β
 |[],_=>none
 |(k,v)::r,t=>bif Nat.beq k t then some v else lk r t
theorem vP{β:Type}:∀{l:List (Nat×β)} {t:Nat},lk l t=look l t
 |[],_=>rfl
 |(k,v)::r,t=>by
   simp only[lk,look];rw[vP];by_cases h:k=t
   ·subst h;simp
   ·rw[if_neg h,show Nat.beq k t=false from by rw[Bool.eq_false_iff];intro e;exact h (Nat.eq_of_beq_eq_true e)];rfl
def pt{β:Type}:List (Nat×β)→Nat→β→(List (Nat×β)→Option α)→Option α
 |[],t,u,K=>K [(t,u)]
 |(k,v)::r,t,u,K=>bif Nat.beq k t then K ((k,u)::r) else pt r t u fun r=>K ((k,v)::r)
theorem KX{β:Type}:∀{l:List (Nat×β)} {t:Nat} {u:β} {K:List (Nat×β)→Option α},pt l t u K=K (cW l t u)
 |[],_,_,_=>rfl
 |(k,v)::r,t,u,K=>by
   simp only[pt,cW];by_cases h:k=t
   ·subst h;simp
   ·rw[if_neg h,show Nat.beq k t=false from by rw[Bool.eq_false_iff];intro e;exact h (Nat.eq_of_beq_eq_true e)];exact KX
def od(env:List (Nat×AV))(x:eJ)(K:AV→Option α):Option α:=match x with
 | .t n=>match lk env n with
   |some v=>K v
   |none=>none
 | .c v=>K v
theorem SN{env:List (Nat×AV)}{x:eJ}{K:AV→Option α}:od env x K=(gQ env x).bind K:=by
 cases x with
 |t n=>simp only[od,gQ,vP];cases look env n<;>rfl
 |c v=>rfl
def RV(env:List (Nat×AV)):List eJ→(List AV→Option α)→Option α
 |[],K=>K []
 |x::r,K=>od env x fun v=>RV env r fun vs=>K (v::vs)
theorem KY{env:List (Nat×AV)}:∀{l:List eJ} {K:List AV→Option α},RV env l K=(dQ env l).bind K
 |[],_=>rfl
 |x::r,K=>by
   simp only[RV,dQ];rw[SN];cases gQ env x with
   |none=>rfl
   |some v=>
     dsimp only[Option.bind_some];rw[KY];cases dQ env r<;>rfl
def QS:IntKind→Nat
 | .i8=>0| .i16=>1| .i32=>2| .i64=>3| .u8=>4| .u16=>5| .u32=>6| .u64=>7
theorem NZ{a b:IntKind}(h:Nat.beq (QS a) (QS b)=true):a=b:=by
 have:=Nat.eq_of_beq_eq_true h;cases a<;>cases b<;>first|rfl|(simp[QS]at this)
def Va:Int→Int→Bool
 | .ofNat a,.ofNat b=>Nat.beq a b
 | .negSucc a,.negSucc b=>Nat.beq a b
 |_,_=>false
theorem VF{a b:Nat}:Nat.beq a b=decide (a=b):=by
 by_cases h:a=b
 ·subst h;simp
 ·rw[decide_eq_false h,Bool.eq_false_iff];intro e;exact h (Nat.eq_of_beq_eq_true e)
theorem KZ{a b:Int}:Va a b=(a == b):=by
 cases a<;>cases b<;>(rw[Bool.eq_iff_iff];simp[Va,VF])<;>omega
def RW:Int→Int→Bool
 | .ofNat a,.ofNat b=>Nat.blt a b
 | .negSucc a,.negSucc b=>Nat.blt b a
 | .negSucc _,.ofNat _=>true
 | .ofNat _,.negSucc _=>false
theorem xQ{a b:Int}:RW a b=decide (a<b):=by
 cases a<;>cases b<;>(rw[Bool.eq_iff_iff];simp[RW,Nat.blt_eq])<;>omega
def QT(k:IntKind)(a b:Int)(K:Int→Option α):Option α:=match k,a,b with
 | .i64,.ofNat x,.ofNat y=>bif Nat.blt (x+y) 4611686018427387904 then fN (x+y) fun n=>K (.ofNat n) else fI (IntKind.i64.wrap (.ofNat x+.ofNat y)) K
 |k,a,b=>fI (k.wrap (a+b)) K
theorem N0{k:IntKind}{a b:Int}{K:Int→Option α}:QT k a b K=K (k.wrap (a+b)):=by
 unfold QT;split
 · rename_i x y;cases h:Nat.blt (x+y) 4611686018427387904 with
   |false=>simp only[cond_false];exact KO
   |true=>
     simp only[cond_true,rf];have:x+y<4611686018427387904:=by simpa[Nat.blt_eq] using h
     congr 1;simp[IntKind.wrap,IntKind.bits,IntKind.signed];omega
 ·exact KO
def QU(op:BinOp)(a b:AV)(K:AV→Option α):Option α:=match a with
 | .pv (.int k x)=>match b with
   | .pv (.int k' y)=>bif Nat.beq (QS k) (QS k') then (match op with
       | .eql=>fB (Va x y) fun c=>K (.pv (.bool c))
       | .neq=>fB (!Va x y) fun c=>K (.pv (.bool c))
       | .lss=>fB (RW x y) fun c=>K (.pv (.bool c))
       | .gtr=>fB (RW y x) fun c=>K (.pv (.bool c))
       | .geq=>fB (!RW x y) fun c=>K (.pv (.bool c))
       | .leq=>fB (!RW y x) fun c=>K (.pv (.bool c))
       | .add=>QT k x y fun n=>K (.pv (.int k n))
       |op=>(cA op a b).bind fun v=>fV v K)
     else (cA op a b).bind fun v=>fV v K
   |b=>(cA op a b).bind fun v=>fV v K
 |a=>(cA op a b).bind fun v=>fV v K
theorem N1{op:BinOp}{a b:AV}{K:AV→Option α}:QU op a b K=(cA op a b).bind K:=by
 have dflt:((cA op a b).bind fun v=>fV v K)=(cA op a b).bind K:=by
   congr 1;funext v;exact KR
 unfold QU;split
 · rename_i k x;split
   · rename_i k' y;cases hk:Nat.beq (QS k) (QS k') with
     |false=>exact dflt
     |true=>
       obtain rfl:=NZ hk;simp only[cond_true];split
       ·simp[tS,KZ,cA]
       ·simp[tS,KZ,cA,bne]
       ·simp[tS,xQ,cA]
       ·simp[tS,xQ,cA]
       ·simp[tS,xQ,cA,←decide_not,Int.not_lt]
       ·simp[tS,xQ,cA,←decide_not,Int.not_lt]
       ·simp[N0,cA]
       ·exact dflt
   ·exact dflt
 ·exact dflt
def Wg(off:Nat)(x:AV)(K:AV→Option α):Option α:=match x with
 | .az d o=>fN (o+off) fun n=>K (.az d n)
 | .aW b o=>fN (o+off) fun n=>K (.aW b n)
 | .fH cs=>fS (cs.drop off) fun cs=>K (.fH cs)
 |_=>none
def nth{β:Type}:List β→Nat→Option β
 |[],_=>none
 |a::r,n=>match n with
   |0=>some a
   |n+1=>nth r n
theorem DV{β:Type}:∀{l:List β} {n:Nat},nth l n=l[n]?
 |[],n=>by simp[nth]
 |a::r,0=>rfl
 |a::r,n+1=>by simp only[nth,List.getElem?_cons_succ];exact DV
def ln{β:Type}:List β→Nat→(Nat→Option α)→Option α
 |[],n,K=>K n
 |_::r,n,K=>fN (n+1) fun n=>ln r n K
theorem ET{β:Type}:∀{l:List β} {n:Nat} {K:Nat→Option α},ln l n K=K (n+l.length)
 |[],n,K=>rfl
 |_::r,n,K=>by
   simp only[ln];rw[rf,ET];congr 1;simp;omega
def xV(o:MY)(vals:List AV)(K:AV→Option α):Option α:=match o with
 | .mv=>match vals with
   |[x]=>K x
   |vals=>(bA .mv vals).bind fun v=>fA v K
 | .bin op=>match vals with
   |[a,b]=>QU op a b K
   |vals=>(bA (.bin op) vals).bind fun v=>fA v K
 | .gP off=>match vals with
   |[x]=>Wg off x K
   |vals=>(bA (.gP off) vals).bind fun v=>fA v K
 | .pK=>match vals with
   |[.az a b]=>K (.az a b)
   |[.aW a b]=>K (.aW a b)
   |vals=>(bA .pK vals).bind fun v=>fA v K
 | .index=>match vals with
   |[.pv (.str s),.pv (.int _ (.ofNat i))]=>match nth s i with
     |some b=>fN b.toNat fun n=>K (.pv (.int .u8 (.ofNat n)))
     |none=>none
   |vals=>(bA .index vals).bind fun v=>fA v K
 | .BI=>match vals with
   |[.pv (.str s)]=>ln s 0 fun n=>K (.pv (.int .i64 (.ofNat n)))
   |vals=>(bA .BI vals).bind fun v=>fA v K
 | .len=>match vals with
   |[.pv (.au l)]=>ln l 0 fun n=>K (.pv (.int .i64 (.ofNat n)))
   |[.own l _]=>ln l 0 fun n=>K (.pv (.int .i64 (.ofNat n)))
   |vals=>(bA .len vals).bind fun v=>fA v K
 | .d4 sz=>match bA (.d4 sz) vals with
   |some (.dB l)=>SL l fun l=>K (.dB l)
   |some v=>K v
   |none=>none
 | .slice a b c d e=>(bA (.slice a b c d e) vals).bind fun v=>fV v K
 |o=>(bA o vals).bind fun v=>fA v K
theorem SO{o:MY}{vals:List AV}{K:AV→Option α}:xV o vals K=(bA o vals).bind K:=by
 have dA:∀o vals,((bA o vals).bind fun v=>fA v K)=(bA o vals).bind K:=by
   intro o vals;congr 1;funext v;exact rh
 unfold xV;split
 · split
   ·rfl
   ·exact dA _ _
 · split
   ·exact N1
   ·exact dA _ _
 · split
   ·rename_i x;cases x<;>simp[Wg,bA,rf,AH]
   ·exact dA _ _
 · split
   ·rfl
   ·rfl
   ·exact dA _ _
 · split
   · rename_i s k i;rw[DV];have hi:¬(Int.ofNat i<0):=by simp
     simp only[bA];rw[if_neg hi];simp only[Int.toNat_natCast,Int.ofNat_eq_natCast];cases s[i]? with
     |none=>rfl
     |some b=>simp[rf]
   ·exact dA _ _
 · split
   ·simp[ET,bA]
   ·exact dA _ _
 · split
   ·simp[ET,bA,cH]
   ·simp[ET,bA,cH]
   ·exact dA _ _
 · split
   ·rename_i l h;rw[h,KU];rfl
   ·rename_i h;rw[h];rfl
   ·rename_i h;rw[h];rfl
 ·congr 1;funext v;exact KR
 ·exact dA _ _
def lay(env:List (Nat×AV))(mem:List (Nat×List AV))(sh:Sh)(aa:aG)(d:Option Nat)(v:AV)(K:St→Option α):Option α:=match d with
 |some d=>pt env d v fun env=>K ⟨env,mem,sh,aa⟩
 |none=>K ⟨env,mem,sh,aa⟩
theorem lY{env:List (Nat×AV)}{mem:List (Nat×List AV)}{sh:Sh}{aa:aG}{d:Option Nat}{v:AV}{K:St→Option α}:lay env mem sh aa d v K=K ⟨fy env d v,mem,sh,aa⟩:=by
 cases d<;>simp[lay,fy,KX]
def QV(mem:List (Nat×List AV))(k:Nat)(cs:Option (List AV))(K:List (Nat×List AV)→Option α):Option α:=match cs with
 |some cs=>NW cs fun cs=>pt mem k cs K
 |none=>K mem
theorem N2{mem:List (Nat×List AV)}{k:Nat}{cs:Option (List AV)}{K:List (Nat×List AV)→Option α}:QV mem k cs K=K (eR mem (some k) cs):=by
 cases cs<;>simp[QV,eR,tT,KX]
def K0(orc:dX)(op:AK)(d:Option Nat)(vals:List AV)(env:List (Nat×AV))(mem:List (Nat×List AV))(sh:Sh)(aa:aG)(K:St→Option α):Option α:=
 match exec orc op vals (op.key.bind (look mem)) sh aa with
 |none=>none
 |some ⟨val,cells,sh',toks'⟩=>fV val fun val=>(match op.key with|some k=>QV mem k cells|none=>fun K=>K mem) fun mem=>RU sh' fun sh'=>fT toks' fun toks'=>lay env mem sh' toks' d val K
theorem xR{orc:dX}{op:AK}{d:Option Nat}{vals:List AV}{env:List (Nat×AV)}{mem:List (Nat×List AV)}{sh:Sh}{aa:aG}{K:St→Option α} :
   K0 orc op d vals env mem sh aa K=(match exec orc op vals (op.key.bind (look mem)) sh aa with
     |none=>none
     |some out=>some (⟨fy env d out.val,eR mem op.key out.cells,out.sh,out.aa⟩:St)).bind K:=by
 unfold K0;cases exec orc op vals (op.key.bind (look mem)) sh aa with
 |none=>rfl
 |some out=>
   obtain⟨val,cells,sh',toks'⟩:=out;simp only[KR,Option.bind_some];cases op.key with
   |none=>simp only[qb,vO,lY];cases cells<;>rfl
   |some k=>simp only[N2,qb,vO,lY]
def xP(orc:dX)(g:Nat)(vals:List AV)(K:AV→Option α):Option α:=match cY [] vals with
 |some cV=>match orc.p g cV with
   |some rs=>fA (su rs) K
   |none=>none
 |none=>none
def x1(orc:dX)(op:AK)(d:Option Nat)(vals:List AV)(env:List (Nat×AV))(mem:List (Nat×List AV))(sh:Sh)(aa:aG)(K:St→Option α):Option α:=match op with
 | .v o=>xV o vals fun v=>lay env mem sh aa d v K
 | .aJ g=>xP orc g vals fun v=>lay env mem sh aa d v K
 | .bX key off sz ag=>match vals with
   |[.az d' o]=>match lk mem key with
     |some cs=>bif Nat.beq d' key && Nat.beq o off then (match bQ ag sz cs off with
         |some v=>fA v fun v=>lay env mem sh aa d v K
         |none=>none) else none
     |none=>none
   |vals=>K0 orc (.bX key off sz ag) d vals env mem sh aa K
 | .dU sz ag=>match vals with
   |[.aW b off]=>match nth sh b with
     |some (some cs)=>bif bU cs then none else (match bQ ag sz cs off with
         |some v=>fA v fun v=>lay env mem sh aa d v K
         |none=>none)
     |_=>none
   |vals=>K0 orc (.dU sz ag) d vals env mem sh aa K
 |op=>K0 orc op d vals env mem sh aa K
theorem SP{orc:dX}{op:AK}{d:Option Nat}{vals:List AV}{env:List (Nat×AV)}{mem:List (Nat×List AV)}{sh:Sh}{aa:aG}{K:St→Option α} :
   x1 orc op d vals env mem sh aa K=(match exec orc op vals (op.key.bind (look mem)) sh aa with
     |none=>none
     |some out=>some (⟨fy env d out.val,eR mem op.key out.cells,out.sh,out.aa⟩:St)).bind K:=by
 unfold x1;split
 · rename_i o;simp only[SO,lY,exec];cases bA o vals with
   |none=>rfl
   |some v=>rfl
 · rename_i g;simp only[xP,exec];cases cY [] vals with
   |none=>rfl
   |some cV=>
     dsimp only;cases orc.p g cV with
     |none=>rfl
     |some rs=>simp only[rh,lY];rfl
 · rename_i key off sz ag;split
   · rename_i d' o;rw[vP];have hk:((AK.bX key off sz ag).key.bind (look mem))=look mem key:=rfl;rw[hk];cases look mem key with
     |none=>simp[exec]
     |some cs=>
       simp only[exec];by_cases h:d'=key∧o=off
       · obtain⟨rfl,rfl⟩:=h;simp only[Nat.beq_refl,Bool.and_self,cond_true,and_self,if_true];cases bQ ag sz cs o with
         |none=>rfl
         |some v=>simp only[rh,lY];rfl
       · rw[if_neg h]
         have:(Nat.beq d' key && Nat.beq o off)=false:=by
           rw[Bool.eq_false_iff];intro e;simp only[Bool.and_eq_true]at e;exact h ⟨Nat.eq_of_beq_eq_true e.1,Nat.eq_of_beq_eq_true e.2⟩
         rw[this];rfl
   ·exact xR
 · rename_i sz ag;split
   · rename_i b off;rw[DV];simp only[exec];split
     · rename_i cs h;rw[h];dsimp only;cases bU cs with
       |true=>rfl
       |false=>
         simp only[cond_false,Bool.false_eq_true,if_false];cases bQ ag sz cs off with
         |none=>rfl
         |some v=>simp only[rh,lY];rfl
     · rename_i h;split
       ·rfl
       · rename_i e1 e2 e3;split at e3
         ·rename_i cs e4;exact absurd e4 (h cs)
         ·cases e3
   ·exact xR
 ·exact xR
def Vb(orc:dX)(o:dI)(st:St)(K:St→Option α):Option α:=match st with
 |⟨env,mem,sh,aa⟩=>match o with
   |⟨d,g,args,op⟩=>match g with
     |none=>RV env args fun vals=>x1 orc op d vals env mem sh aa K
     |some (t,b)=>match lk env t with
       |some (.pv (.bool c))=>bif c == b then RV env args fun vals=>x1 orc op d vals env mem sh aa K else lay env mem sh aa d .un K
       |some .un=>lay env mem sh aa d .un K
       |_=>none
theorem QW{orc:dX}{o:dI}{st:St}{K:St→Option α}:Vb orc o st K=(dN orc o st).bind K:=by
 obtain⟨env,mem,sh,aa⟩:=st;obtain⟨d,g,args,op⟩:=o
 have run:(RV env args fun vals=>x1 orc op d vals env mem sh aa K)=(match dQ env args with
     |none=>none
     |some vals=>match exec orc op vals (op.key.bind (look mem)) sh aa with
       |none=>none
       |some out=>some (⟨fy env d out.val,eR mem op.key out.cells,out.sh,out.aa⟩:St)).bind K:=by
   rw[KY];cases dQ env args with
   |none=>rfl
   |some vals=>exact SP
 cases g with
 |none=>simp only[Vb,dN,fc];exact run
 |some p=>
   obtain⟨t,b⟩:=p;simp only[Vb,dN,fc,vP];split
   · rename_i c h;rw[h];dsimp only;cases hc:(c == b) with
     |true=>simp only[cond_true];exact run
     |false=>simp only[cond_false,lY];rfl
   ·rename_i h;rw[h];simp only[lY];rfl
   · rename_i h1 h2;split
     ·rfl
     ·rename_i e;split at e<;>simp_all
     ·rename_i e;split at e<;>simp_all
def N3(orc:dX):List dI→St→(St→Option α)→Option α
 |[],st,K=>K st
 |o::r,st,K=>Vb orc o st fun st=>N3 orc r st K
theorem EU{orc:dX}:∀{l:List dI} {st:St} {K:St→Option α},N3 orc l st K=(bo orc l st).bind K
 |[],_,_=>rfl
 |o::r,st,K=>by
   simp only[N3,bo];rw[QW];cases dN orc o st with
   |none=>rfl
   |some s=>exact EU
def EV(f:St→(bg→St→Option α)→Option α)(pre:St→St):Nat→St→(bg→St→Option α)→Option α
 |0,_,_=>none
 |n+1,st,K=>QR (pre st) fun st=>f st fun e st=>match e with
   | .normal=>EV f pre n st K
   |e=>K e st
def Pm(live:List Nat)(v:AV):Bool:=match v with
 | .az d _=>live.contains d
 | .jt d _=>live.contains d
 | .pv _=>true
 | .own ..=>true
 | .agg cs=>fp cs
 |v=>bD v
theorem K1{live:List Nat}{v:AV}:Pm live v=dV live v:=by cases v<;>rfl
def SQ(live:List Nat)(env:List (Nat×AV)):List Nat→(List (Nat×AV)→Option α)→Option α
 |[],K=>K []
 |t::r,K=>match lk env t with
   |some v=>SQ live env r fun e=>bif Pm live v then K ((t,v)::e) else K e
   |none=>SQ live env r K
theorem DW{live:List Nat}{env:List (Nat×AV)}:∀{l:List Nat} {K:List (Nat×AV)→Option α},SQ live env l K=K (bC live env l)
 |[],_=>rfl
 |t::r,K=>by
   simp only[SQ,bC,vP];cases look env t with
   |none=>exact DW
   |some v=>
     dsimp only;rw[DW,K1];cases dV live v<;>simp
def SU(mem:List (Nat×List AV)):List Nat→(List (Nat×List AV)→Option α)→Option α
 |[],K=>K []
 |t::r,K=>match lk mem t with
   |some v=>SU mem r fun e=>K ((t,v)::e)
   |none=>SU mem r K
theorem DX{mem:List (Nat×List AV)}:∀{l:List Nat} {K:List (Nat×List AV)→Option α},SU mem l K=K (bF mem l)
 |[],_=>rfl
 |t::r,K=>by
   simp only[SU,bF,vP];cases look mem t with
   |none=>exact DX
   |some v=>exact DX
def rs(live:List Nat)(st:St)(K:St→Option α):Option α:=match st with
 |⟨env,mem,sh,aa⟩=>SQ live env live fun env=>SU mem live fun mem=>K ⟨env,mem,sh,aa⟩
theorem SV{live:List Nat}{st:St}{K:St→Option α}:rs live st K=K (restrict live st):=by
 obtain⟨env,mem,sh,aa⟩:=st;simp only[rs];rw[DW,DX];rfl
def Pn(K:bg→St→Option α):Option (bg×St)→Option α
 |some (e,st)=>K e st
 |none=>none
def cF(orc:dX)(k:Nat):aq→St→(bg→St→Option α)→Option α
 | .skip,st,K=>K .normal st
 | .iA ops live,st,K=>N3 orc ops st fun st=>rs live st fun st=>K .normal st
 | .seq a b,st,K=>cF orc k a st fun e st=>match e with
   | .normal=>cF orc k b st K
   |e=>K e st
 | .cond c a b,st,K=>match gQ st.env c with
   |some (.pv (.bool t))=>match t with
     |true=>cF orc k a st K
     |false=>cF orc k b st K
   |_=>none
 | .block id b,st,K=>cF orc k b st fun e st=>match e with
   | .exit id'=>if id'=id then K .normal st else K (.exit id') st
   |e=>K e st
 | .loop live b,st,K=>EV (cF orc k b) (fun s=>norm (restrict live s)) k st K
 | .back c gb pi px sz ag live x y,st,K=>Pn K (cK orc k (.back c gb pi px sz ag live x y) st)
 | .exit id,st,K=>K (.exit id) st
 | .ret,st,K=>K .ret st
 | .dv ts,st,K=>K .normal (nb ts st)
 | .Pb ds,st,K=>bif iB st.env ds then K .normal st else none
 | .lA ps,st,K=>QR (wF ps st) fun st=>K .normal st
 | .lG ts,st,K=>QR (BK ts st) fun st=>K .normal st
 | .Pc ts,st,K=>QR (i_ ts st) fun st=>K .normal st
theorem AI{f:St→(bg→St→Option α)→Option α}{g:St→Option (bg×St)}{pre:St→St}(h:∀st K,f st K=Pn K (g st)):∀{n:Nat} {st:St} {K:bg→St→Option α},EV f pre n st K=Pn K (eX g pre n st)
 |0,_,_=>rfl
 |n+1,st,K=>by
   simp only[EV,eX];rw[tV,h];cases g (pre st) with
   |none=>rfl
   |some q=>
     obtain⟨e,s⟩:=q;cases e with
     |normal=>exact AI h
     |ret=>rfl
     |exit id=>rfl
theorem tW{orc:dX}{k:Nat}:∀{c:aq} {st:St} {K:bg→St→Option α},cF orc k c st K=Pn K (cK orc k c st)
 | .skip,_,_=>rfl
 | .iA ops live,st,K=>by
   simp only[cF,cK];rw[EU];cases bo orc ops st with
   |none=>rfl
   |some s=>simp only[Option.bind_some,SV,Pn]
 | .seq a b,st,K=>by
   simp only[cF,cK];rw[tW];cases cK orc k a st with
   |none=>rfl
   |some q=>
     obtain⟨e,s⟩:=q;cases e with
     |normal=>simp only[Pn];exact tW
     |ret=>rfl
     |exit id=>rfl
 | .cond c a b,st,K=>by
   simp only[cF,cK];split
   · rename_i t h;rw[h];cases t with
     |true=>exact tW
     |false=>exact tW
   · rename_i h;split
     ·rename_i t h';exact absurd h' (h t)
     ·rfl
 | .block id b,st,K=>by
   simp only[cF,cK];rw[tW];cases cK orc k b st with
   |none=>rfl
   |some q=>
     obtain⟨e,s⟩:=q;cases e with
     |normal=>rfl
     |ret=>rfl
     |exit id'=>
       simp only[Pn];split<;>rfl
 | .loop live b,st,K=>by
   simp only[cF,cK];exact AI (g:=cK orc k b) fun _ _=>tW
 | .back c gb pi px sz ag live x y,_,_=>by simp only[cF]
 | .exit id,_,_=>rfl
 | .ret,_,_=>rfl
 | .dv _,_,_=>rfl
 | .Pb ds,st,K=>by
   simp only[cF,cK];cases iB st.env ds<;>rfl
 | .lA ps,st,K=>by
   simp only[cF,cK];rw[tV];rfl
 | .lG ps,st,K=>by
   simp only[cF,cK];rw[tV];rfl
 | .Pc ps,st,K=>by
   simp only[cF,cK];rw[tV];rfl
def N4(aU:Bool)(af:aA)(sh0:Sh)(e:bg)(st:St)(K:List AV→Sh→aG→Option α):Option α:=
 match e with
 | .exit _=>none
 |_=>match d7 st af.results with
   |some vs=>
     SK (cm aU af.ks st.sh vs) fun rs=>
     let sh':=if rs.all (aK sh0.length)=true then (eM aU af.ks st.sh vs).take sh0.length else eM aU af.ks st.sh vs
     if rs.all bI=true then
       match cQ st.aa rs sh' with
       |(rs,sh,_,ts)=>SK rs fun rs=>RU sh fun sh=>fT ts fun ts=>K rs sh ts
     else none
   |none=>none
def Ii(K:List AV→Sh→aG→Option α):Option (List AV×Sh×aG)→Option α
 |some (a,b,c)=>K a b c
 |none=>none
theorem N5{aU:Bool}{af:aA}{sh0:Sh}{e:bg}{st:St}{K:List AV→Sh→aG→Option α}:N4 aU af sh0 e st K=Ii K (finish aU af sh0 (some (e,st))):=by
 cases e with
 |exit id=>rfl
 |normal=>
   simp only[N4,finish];cases d7 st af.results with
   |none=>rfl
   |some vs=>
     simp only[tU,or_true,if_true];split
     ·simp only[tU,qb,vO,Ii]
     ·rfl
 |ret=>
   simp only[N4,finish];cases d7 st af.results with
   |none=>rfl
   |some vs=>
     simp only[tU,true_or,if_true];split
     ·simp only[tU,qb,vO,Ii]
     ·rfl
def vQ(orc:dX)(k:Nat)(aU:Bool)(af:aA)(args:List AV)(sh:Sh)(ts:aG)(K:List AV→Sh→aG→Option α):Option α:=
 QR { env:=bY 0 args,mem:=[],sh,aa:=ts } fun st=>cF orc k af.body st fun e st=>N4 aU af sh e st K
theorem oX{orc:dX}{k:Nat}{aU:Bool}{af:aA}{args:List AV}{sh:Sh}{ts:aG}{K:List AV→Sh→aG→Option α}:vQ orc k aU af args sh ts K=Ii K (bZ orc k aU af args sh ts):=by
 unfold vQ;rw[tV,tW,fZ];cases cK orc k af.body { env:=bY 0 args,mem:=[],sh,aa:=ts } with
 |none=>rfl
 |some q=>obtain⟨e,s⟩:=q;simp only[Pn];exact N5
def DY(AP:Nat→Option aA)(k:Nat):Nat→dX
 |0=>{ p:=fun _ _=>none,i:=fun _ _ _ _=>none }
 |n+1=>
   { p:=fun g cV=>match AP g with
       |some af=>match af.pM with
         |some f=>f.f (DY AP k n).p cV
         |none=>if cV.length=af.nparams∧cV.length≤af.ntmps then vQ (DY AP k n) k false af (cV.map .pv) [] [] fun rs _ _=>fC rs else none
       |none=>none
     i:=fun g args sh ts=>match AP g with
       |some af=>if args.length≤af.ntmps then vQ (DY AP k n) k true af args sh ts fun a b c=>some (a,b,c) else none
       |none=>none }
theorem EW{AP:Nat→Option aA}{k:Nat}:∀n,DY AP k n=run AP k n
 |0=>rfl
 |n+1=>by
   have ih:=EW (AP:=AP) (k:=k) n;simp only[DY,run];congr 1
   · funext g cV
     cases AP g with
     |none=>rfl
     |some af=>
       dsimp only;cases af.pM with
       |some f=>dsimp only;rw[ih]
       |none=>
         dsimp only;split
         · rw[oX,ih];cases bZ (run AP k n) k false af (cV.map .pv) [] [] with
           |none=>rfl
           |some q=>rfl
         ·rfl
   · funext g args sh ts
     cases AP g with
     |none=>rfl
     |some af=>
       dsimp only;split
       · rw[oX,ih];cases bZ (run AP k n) k true af args sh ts with
         |none=>rfl
         |some q=>rfl
       ·rfl
theorem N6{AP:Nat→Option aA}{k n g:Nat}{x rs:List PV}(h:(DY AP k n).p g x=some rs):(aC AP).p g x=some rs:=by
 rw[EW]at h;exact s_ (rR g x) (show (run AP (max k n) (max k n)).p g x=some rs from (cE (Nat.le_max_right k n) (Nat.le_max_left k n)).p _ _ _ h)
def uW(AP:Nat→Option aA)(ov:Nat→List PV→Option (List PV))(k:Nat):Nat→dX
 |0=>{ p:=ov,i:=fun _ _ _ _=>none }
 |n+1=>
   { p:=fun g cV=>match ov g cV with
       |some r=>some r
       |none=>match AP g with
         |some af=>match af.pM with
           |some f=>f.f (uW AP ov k n).p cV
           |none=>if cV.length=af.nparams∧cV.length≤af.ntmps then vQ (uW AP ov k n) k false af (cV.map .pv) [] [] fun rs _ _=>fC rs else none
         |none=>none
     i:=fun g args sh ts=>match AP g with
       |some af=>if args.length≤af.ntmps then vQ (uW AP ov k n) k true af args sh ts fun a b c=>some (a,b,c) else none
       |none=>none }
theorem AJ{AP:Nat→Option aA}{orc:dX}{k:Nat}{aU:Bool}{af:aA}{args:List AV}{sh:Sh}{ts:aG}{r:List AV×Sh×aG}(hle:orc.le (aC AP))(h:bZ orc k aU af args sh ts=some r):nk AP aU af args sh ts=some r:=by
 rw[fZ]at h;unfold nk;cases hc:cK orc k af.body { env:=bY 0 args,mem:=[],sh,aa:=ts } with
 |none=>rw[hc]at h;simp[finish]at h
 |some q=>
   rw[jm (ck hle (Nat.le_refl k) hc)];rw[hc]at h;exact h
theorem EX{AP:Nat→Option aA}{ov:Nat→List PV→Option (List PV)}{k:Nat}(hov:∀g x r,ov g x=some r→(aC AP).p g x=some r):∀n,(uW AP ov k n).le (aC AP)
 |0=>⟨hov,fun g x s t r h=>by simp[uW]at h⟩
 |n+1=>by
   have ih:=EX (k:=k) hov n;refine⟨fun g x r h=>?_,fun g x s t r h=>?_⟩
   · simp only[uW]at h;split at h
     ·rename_i r' e;rw[←h];exact hov g x r' e
     · split at h
       · rename_i af hg;cases hp:af.pM with
         |some f=>rw[hp]at h;rw[xe hg hp];exact f.mono ih.p h
         |none=>
           rw[hp]at h;simp only[Option.ite_none_right_eq_some]at h;obtain⟨⟨h1,h2⟩,h⟩:=h;rw[oX]at h;rw[Pg hg hp h1 h2];cases hb:bZ (uW AP ov k n) k false af (x.map .pv) [] [] with
           |none=>rw[hb]at h;simp[Ii]at h
           |some q=>rw[AJ ih hb];rw[hb]at h;exact h
       ·cases h
   · simp only[uW]at h;split at h
     · rename_i af hg;simp only[Option.ite_none_right_eq_some]at h;obtain⟨h2,h⟩:=h;rw[oX]at h;rw[Ph hg h2];cases hb:bZ (uW AP ov k n) k true af x s t with
       |none=>rw[hb]at h;simp[Ii]at h
       |some q=>rw[AJ ih hb];rw[hb]at h;exact h
     ·cases h
theorem Po{AP:Nat→Option aA}{ov:Nat→List PV→Option (List PV)}{k n g:Nat}{x rs:List PV}(hov:∀g x r,ov g x=some r→(aC AP).p g x=some r)(h:(uW AP ov k n).p g x=some rs):(aC AP).p g x=some rs:=(EX hov n).p _ _ _ h
end Go.Ab.Fc
namespace Go.Ab
section
variable {P:Program} {ns:Names} {w w':World}
theorem BB.below{K:bl}(h:BB K w)(hb:RowKit.Below w.heap.size w w'):BB K w':=by
 intro b o v hk;have h1:=h b o v hk
 have hlt:b<w.heap.size:=by
   simp only[World.cell?]at h1;cases hc:w.heap[b]? with
   |none=>rw[hc]at h1;simp at h1
   |some c=>exact (Array.getElem?_eq_some_iff.1 hc).1
 have h2:=hb.block b hlt;simp only[World.cell?,h2]at h1⊢;exact h1
def jo:List PV→Option (List (List UInt8))
 |[]=>some []
 | .str s::r=>(jo r).map (s::·)
 |_=>none
theorem DZ(l:List (List UInt8)):jo (l.map .str)=some l:=by
 induction l with
 |nil=>rfl
 |cons a r ih=>simp[jo,ih]
theorem tX:∀{els:List PV} {xs:List (List UInt8)},jo els=some xs→els=xs.map .str
 |[],xs,h=>by simp[jo]at h;subst h;rfl
 | .str s::r,xs,h=>by
   simp only[jo,Option.map_eq_some_iff]at h;obtain⟨ys,h1,rfl⟩:=h;rw[tX h1];rfl
 | .bool _::r,_,h=>by simp[jo]at h
 | .int _ _::r,_,h=>by simp[jo]at h
 | .au _::r,_,h=>by simp[jo]at h
 | .agg _::r,_,h=>by simp[jo]at h
def xS:List PV→Option (List PV)
 |[.au els,.str sep]=>match jo els with
   |some xs=>if xs.length≤1000000000∧(Lib.join xs sep).length≤140737488355328 then some [.str (Lib.join xs sep)] else none
   |none=>none
 |_=>none
def VG:List PV→Option (List PV)
 |[.int .i64 n]=>if 0≤n∧n<100 then some [.str (Lib.decDigits n.toNat)] else none
 |_=>none
def rX:List PV→Option (List PV)
 |[.int .i64 n]=>if -9223372036854775808≤n∧n≤9223372036854775807 then some [.str (Lib.itoa n)] else none
 |_=>none
def xT:Array Value:=(Lib.pow10Tab.map fun z=>Value.int .u64 z).toArray
theorem D0 {f:FuncId} {g:Nat} (hpin:ns.jX g=some xT) (hg:P.globalNamed "internal/strconv.uint64pow10"=some g)
   (h:∀n:Int,-9223372036854775808≤n→n≤9223372036854775807→∀w:World,Lib.TabIs P w "internal/strconv.uint64pow10" .u64 Lib.pow10Tab →
     Calls P f #[.int .i64 n] w fun e w'=>e=.returned (.string ⟨(Lib.itoa n).toArray⟩)∧∃k os,w'=Go.Sort.grow (w.drewN k) os) :
   ∀cV rs,rX cV=some rs→vj P ns f cV rs:=by
 intro cV rs hp K w vs hw hk hr;unfold rX at hp;split at hp
 · rename_i n;simp only[Option.ite_none_right_eq_some,Option.some.injEq]at hp;obtain⟨⟨h0,h1⟩,rfl⟩:=hp;simp only[ja]at hr;obtain⟨v,r,rfl,hv,rfl⟩:=hr;have hv:v=.int .i64 n:=by simpa[Rel,R] using hv
   subst hv
   have htab:Lib.TabIs P w "internal/strconv.uint64pow10" .u64 Lib.pow10Tab:=by
     obtain⟨t,z,hh⟩:=hw g _ hpin;unfold Lib.TabIs World.var?
     rw[hg,Option.bind_some,hh];rfl
   refine (h n h0 h1 w htab).mono ?_
   rintro e w' ⟨rfl,k,os,rfl⟩
   have hb:RowKit.Below w.heap.size w (Go.Sort.grow (w.drewN k) os):=⟨rfl,rfl,rfl,by simp[Go.Sort.grow],fun b hb=>by
     simp only[Go.Sort.grow,World.heap_drewN];rw[Array.getElem?_append_left hb]⟩
   exact⟨_,K,rfl,by simp[gZ,Rel,R],K.le_refl,fun _ _ _ _ h=>h,hk.below hb,hb⟩
 ·simp at hp
theorem EY{K:bl}:∀{xs:List (List UInt8)} {b o sz:Nat},Row K b o sz (xs.map .str)→xs≠[]→∀(j:Nat) (x:List UInt8),xs[j]?=some x→K b (o+j)=some (.string ⟨x.toArray⟩)
 |[],_,_,_,_,h,_,_,_=>absurd rfl h
 |y::r,b,o,sz,hr,_,j,x,hj=>by
   simp only[List.map_cons,Row,R]at hr;obtain⟨⟨vs,h1,h2,rfl⟩,h4⟩:=hr;simp only[List.length_cons,List.length_nil]at h1;subst h1;cases j with
   |zero=>
     simp at hj;subst hj;exact h2 0 _ rfl
   |succ j=>
     have hj':r[j]?=some x:=(by simpa using hj);have:=EY h4 (by intro e;subst e;simp at hj') j x hj'
     rwa [show o+(0+1)+j=o+(j+1) by omega]at this
theorem Ij{f:FuncId}
   (h0:∀(a:Option Addr) (c:Nat) (sep:ByteArray) (w:World),Calls P f #[.slice a 0 c,.string sep] w fun e w'=>e=.returned (.string ⟨#[]⟩)∧w'=w)
   (h:∀(bk o c:Nat) (xs:List ByteArray) (sep:ByteArray) (w:World),(∀(j:Nat) x,xs[j]?=some x→w.cell? ⟨bk,o+j,none⟩=some (.string x))→bk<w.heap.size→xs.length≤140737488355328→xs.length≤c →
     (Lib.join (xs.map (·.data.toList)) sep.data.toList).length≤140737488355328 →
     Calls P f #[.slice (some ⟨bk,o,none⟩) xs.length c,.string sep] w fun e w'=>e=.returned (.string ⟨(Lib.join (xs.map (·.data.toList)) sep.data.toList).toArray⟩)∧RowKit.Below w.heap.size w w') :
   ∀cV rs,xS cV=some rs→vj P ns f cV rs:=by
 intro cV rs hp K w vs _ hk hr;unfold xS at hp;split at hp
 · rename_i els sep;split at hp
   · rename_i xs hxs;simp only[Option.ite_none_right_eq_some,Option.some.injEq]at hp;obtain⟨⟨hn,hl⟩,rfl⟩:=hp;have:=tX hxs;subst this;simp only[ja]at hr;obtain⟨v,r,rfl,hv,u,r',rfl,hu,rfl⟩:=hr;have hu:u=.string ⟨sep.toArray⟩:=by simpa[Rel,R] using hu
     subst hu;obtain⟨base,len,cap,rfl,hlc,hlen,hrow⟩:=ca.1 hv;by_cases hnil:xs=[]
     · subst hnil;simp at hlen;subst hlen;refine (h0 base cap _ w).mono ?_
       rintro e w' ⟨rfl,rfl⟩
       exact⟨_,K,rfl,by simp[gZ,Rel,R,Lib.join_nil],K.le_refl,fun _ _ _ _ h=>h,hk,RowKit.Below.refl _ _⟩
     · obtain⟨b,o,sz,rfl,hrow'⟩:=hrow.resolve_left (by simpa using hnil);have hx:=EY hrow' hnil;have hxl:(xs.map fun x=>(⟨x.toArray⟩:ByteArray)).length=len:=by simpa using hlen
       have hdat:(xs.map fun x=>(⟨x.toArray⟩:ByteArray)).map (fun x=>x.data.toList)=xs:=by
         rw[List.map_map];have:((fun x:ByteArray=>x.data.toList) ∘ fun x:List UInt8=>(⟨x.toArray⟩:ByteArray))=id:=by funext x;rfl
         rw[this,List.map_id]
       have hb:b<w.heap.size:=by
         cases xs with
         |nil=>exact absurd rfl hnil
         |cons x r=>
           have h1:=hk _ _ _ (hx 0 x rfl);simp only[World.cell?]at h1;cases hc:w.heap[b]? with
           |none=>rw[hc]at h1;simp at h1
           |some c=>exact (Array.getElem?_eq_some_iff.1 hc).1
       have hc:=h b o cap (xs.map fun x=>(⟨x.toArray⟩:ByteArray)) ⟨sep.toArray⟩ w (by
         intro j x hj;simp only[List.getElem?_map,Option.map_eq_some_iff]at hj;obtain⟨y,hy,rfl⟩:=hj;exact hk _ _ _ (hx j y hy)) hb (by simp;omega) (by rw[hxl];exact hlc) (by rw[hdat];exact hl)
       rw[hxl,hdat]at hc;refine hc.mono ?_
       rintro e w' ⟨rfl,hbw⟩
       exact⟨_,K,rfl,by simp[gZ,Rel,R],K.le_refl,fun _ _ _ _ h=>h,hk.below hbw,hbw⟩
   ·simp at hp
 ·simp at hp
end
end Go.Ab
namespace Go.Ab
section
variable {P:Program} {w:World}
def K3(g:Nat):Nat→Option (Array Value):=fun b=>if b=g then some xT else none
theorem Ik(g:Nat):K3 g g=some xT:=if_pos rfl
theorem D1 {g:Nat} (hg:P.globalNamed "internal/strconv.uint64pow10"=some g) (h:Lib.TabIs P w "internal/strconv.uint64pow10" .u64 Lib.pow10Tab):nD (K3 g) w:=by
 intro b c e;unfold K3 at e;simp only[Option.ite_none_right_eq_some,Option.some.injEq]at e;obtain⟨rfl,rfl⟩:=e;unfold Lib.TabIs World.var? at h;rw[hg,Option.bind_some]at h;split at h
 ·rename_i cs t z hh;cases h;exact⟨t,z,hh⟩
 ·cases h
theorem vR{x:String×DataW Unit}{r:List (String×DataW Unit)}(h:laidMet P (x::r) w):laidMet P r w:=by
 obtain⟨ps,hv,hnd,hrows⟩:=h;obtain⟨n,d⟩:=x;obtain⟨g,t,cs,fuel,p,q,_,_,_,_,hq,rfl⟩:=hv;exact⟨q,hq,List.Nodup.sublist (List.sublist_append_right _ _) hnd,fun b off hm=>hrows b off (List.mem_append_right _ hm)⟩
theorem K4 {g t e:Nat} {x y:String×DataW Unit} {d:DataW Unit} (hg:P.globalNamed "internal/strconv.uint64pow10"=some g) (hty:(P.globals[g]?).map (·.type)=some t) (ht:P.underlying t=some (.array 20 e))
   (he:P.underlying e=some (.int .u64)) (hce:P.cellsOf e=1) (hct:P.cellsOf t=20) (hd:d=Lib.tabData .u64 Lib.pow10Tab) (h:laidMet P [x,y,("internal/strconv.uint64pow10",d)] w):nD (K3 g) w:=by
 subst hd;exact D1 hg (Lib.tabIs_of_head hg hty ht he hce hct (vR (vR h)))
end
end Go.Ab
namespace Go.Ab
open Ev
def j_(o:Nat→List PV→Option (List PV))(g:Nat):List PV→Option (List UInt8)
 |[]=>some []
 |d::r=>match o g [d] with
   |some [.str s]=>(j_ o g r).map (s++·)
   |_=>none
def eP(n:Nat):PV→Bool
 | .agg cs=>cs.length == n && cs.all c_
 |_=>false
def vS(gd gb:Nat)(o:Nat→List PV→Option (List PV)):List PV→Option (List PV)
 |[.agg [.au ds,.au bs]]=>
   if ds.all (eP 4)=true∧bs.all (eP 20)=true∧ds.length<4611686018427387904∧bs.length<4611686018427387904 then
     match j_ o gd ds,j_ o gb bs with
     |some a,some b=>if (a++b).length≤140737488355328 then some [.str (a++b)] else none
     |_,_=>none
   else none
 |_=>none
theorem tY{o:Nat→List PV→Option (List PV)}{g:Nat}:∀{l:List PV} {s:List UInt8},j_ o g l=some s →
   ∃c:List (Nat×List PV×List PV),(∀x∈c,o x.1 x.2.1=some x.2.2)∧∀o',(∀x∈c,o' x.1 x.2.1=some x.2.2)→j_ o' g l=some s
 |[],s,h=>⟨[],by simp,fun _ _=>h⟩
 |d::r,s,h=>by
   simp only[j_]at h;split at h
   · rename_i t ht;simp only[Option.map_eq_some_iff]at h;obtain⟨u,hu,rfl⟩:=h;obtain⟨c,h1,h2⟩:=tY hu;refine⟨(g,[d],[.str t])::c,?_,fun o' ho=>?_⟩
     · intro x hx;simp only[List.mem_cons]at hx;rcases hx with rfl|hx
       ·exact ht
       ·exact h1 x hx
     ·have e1:=ho _ (List.mem_cons_self);simp only[j_,e1,h2 o' (fun x hx=>ho x (List.mem_cons_of_mem _ hx)),Option.map_some]
   ·cases h
def K5(gd gb:Nat):Prim:=⟨vS gd gb,by
 intro o x r h;unfold vS at h;split at h
 · rename_i ds bs;rw[Option.ite_none_right_eq_some]at h;obtain⟨hc,h⟩:=h;split at h
   · rename_i a b ha hb;obtain⟨c1,f1,f2⟩:=tY ha;obtain⟨c2,k1,k2⟩:=tY hb;refine⟨c1++c2,?_,fun o' ho=>?_⟩
     · intro x hx;rcases List.mem_append.1 hx with hx|hx
       ·exact f1 x hx
       ·exact k1 x hx
     ·unfold vS;simp only;rw[if_pos hc,f2 o' (fun x hx=>ho x (List.mem_append_left _ hx)),k2 o' (fun x hx=>ho x (List.mem_append_right _ hx))];exact h
   ·cases h
 ·cases h⟩
theorem qc{sh:Sh}:∀{cs:List PV},cs.all c_=true→b_ sh (cs.map .pv)=some cs
 |[],_=>rfl
 |c::cs,h=>by
   simp only[List.all_cons,Bool.and_eq_true]at h;simp only[List.map_cons,b_];have hl:aT (.pv c)=true:=by cases c<;>first|rfl|simp[c_]at h
   rw[if_pos hl,qc h.2];rfl
theorem vT{cs:List PV}(h:cs.all c_=true):(cs.map AV.pv).all aT=true:=by
 rw[List.all_eq_true]at *;intro x hx;rw[List.mem_map]at hx;obtain⟨c,hc,rfl⟩:=hx;have:=h c hc;cases c<;>first|rfl|simp[c_]at this
theorem nq{zs vs:List AV}(h:vs.length=zs.length):aQ zs 0 vs=vs:=by
 simp[aQ,h]
section
variable {T E:TypeId} {B b:Nat} {w w':World}
theorem oY{p:Value}{bs:List Value}(h:Lib.BuilderAt T E B b p bs w)(hw:∀k,k<w.heap.size→w'.heap[k]?=w.heap[k]?):Lib.BuilderAt T E B b p bs w':=by
 have hlt:=h.lt;obtain⟨h1,v,h2,h3,h4⟩:=h;refine⟨h1,v,by rw[hw b hlt];exact h2,⟨h3.1,?_⟩,h4⟩;rcases h3.2 with h5|⟨g,cap,cur,e1,e2,e3,e4⟩
 ·exact .inl h5
 ·have hg:g<w.heap.size:=(Array.getElem?_eq_some_iff.1 e3).1;exact .inr ⟨g,cap,cur,e1,e2,by rw[hw g hg];exact e3,e4⟩
theorem xU{bs:List Value}(h:Lib.IsBuilder T E B b bs w)(hw:∀k,k<w.heap.size→w'.heap[k]?=w.heap[k]?):Lib.IsBuilder T E B b bs w':=
 h.imp (fun h=>oY h hw) (fun h=>oY h hw)
end
structure Wd(T E:TypeId)(B b:Nat)(acc:List UInt8)(w1 w:World):Prop where
 below:RowKit.Below B w1 w
 le:B≤w.heap.size
 Vc:Lib.IsBuilder T E B b (Lib.byteCells acc) w
def Jb(K:bl):Gh:={ K,role:=fun _=>.eg,pm:=fun _=>none,sm:=fun _=>none,tk:=fun _=>none }
section
variable {P:Program} {ns:Names}
theorem SW{K:bl}{w:World}(hpin:nD ns.jX w)(hK:BB K w):Inv (num ns) (Jb K) w [] [] [] where
 known:=hK
 aZ:=fun _ _ _ _=>.inl rfl
 fresh:=fun _ _=>rfl
 cR:=fun d c h=>by simp[look]at h
 gA:=fun d b h=>by simp[Jb]at h
 di:=fun s c h=>by simp at h
 eo:=fun s b h=>by simp[Jb]at h
 db:=fun τ n h=>by simp at h
 eS:=fun τ t h=>by simp[Jb]at h
 jX:=fun b c hb=>⟨rfl,hpin b c hb⟩
theorem N7{K:bl}{w w':World}{G':Gh}(h:bJ (Jb K) w G' w'):∀k,k<w.heap.size→w'.heap[k]?=w.heap[k]?:=fun k hk=>(h.eg k hk rfl).2
theorem Il{K:bl}{w w':World}{G':Gh}(h:bJ (Jb K) w G' w'){B:Nat}(hB:B≤w.heap.size):RowKit.Below B w w':=
 ⟨h.os,h.tape,h.output,h.size,fun k hk=>(h.eg k (Nat.lt_of_lt_of_le hk hB) rfl).2⟩
theorem Wd.qA{T E:TypeId}{B b:Nat}{acc:List UInt8}{w1 w w':World}{K:bl}{G':Gh}(h:Wd T E B b acc w1 w)(he:bJ (Jb K) w G' w'):Wd T E B b acc w1 w':=
 ⟨h.below.trans (Il he h.le),Nat.le_trans h.le he.size,xU h.Vc (N7 he)⟩
theorem hZ{n:Nat}{ops:Array Oper}{Q:Exit→Act→World→Prop}{rest:List Oper}{o:Oper}{a:Act}{w w':World}{v:Value}(hd:∀c,o.op≠.defer c)(hg:o.guard=none)
   (hr:(execOp a.eval o).run P w=.ok (.value v) w') (h:wpListIn Fence.wide n P ops Q rest (a.put o.dst v) w'):wpListIn Fence.wide n P ops Q (o::rest) a w:=by
 unfold wpListIn;have hw:Region.wanted o (yielded ops a.tmps)=true:=by simp[Region.wanted,hg]
 rw[if_pos hw];refine rQ (ro:=none) hd ?_;unfold Oper.wp;rw[hr];exact h
theorem K6{o:Oper}{E:Operand→Value}{T:TypeId}(h:o.op=.alloc T):execOp E o=(do let v ←Instr.alloc T true (.tuple #[]);pure (Next.value v):Sem Next):=by
 obtain⟨dst,op,type,pos,after,guard⟩:=o;simp only at h;subst h;rfl
theorem QX{o:Oper}{E:Operand→Value}{T:TypeId}{x:Operand}(h:o.op=.box T x):execOp E o=(do let v ←Instr.box T (E x);pure (Next.value v):Sem Next):=by
 obtain⟨dst,op,type,pos,after,guard⟩:=o;simp only at h;subst h;rfl
theorem AL{o:Oper}{E:Operand→Value}{T:TypeId}{x:Operand}{i:Nat}(h:o.op=.fieldAddr T x i):execOp E o=(do let v ←Instr.fieldAt T (E x) i;pure (Next.value v):Sem Next):=by
 obtain⟨dst,op,type,pos,after,guard⟩:=o;simp only at h;subst h;rfl
theorem EZ{o:Oper}{E:Operand→Value}{T:TypeId}{x:Operand}(h:o.op=.load T x):execOp E o=(do let v ←Instr.loadAt T (E x);pure (Next.value v):Sem Next):=by
 obtain⟨dst,op,type,pos,after,guard⟩:=o;simp only at h;subst h;rfl
theorem eG{n0:Nat}{ro:Option Nat}{n:Nat}(hB:eK P ns){orc:dX}(horc:gi P ns orc){A:jS}{N:Nat}{ops:Array Oper}{Q:Exit→Act→World→Prop}{l:List Oper}{as:List dI}{st st':St}{G:Gh}{a:Act}{w:World}
   (hc:cd (cI P ns A N ops) l=some as) (hs:gK (num ns) n0 N G st a w) (hev:bo orc as st=some st')
   (hq:∀G' a' w',gK (num ns) n0 N G' st' a' w'→bJ G w G' w'→a'.defers=a.defers→(∀t,(∀ao∈as,ao.dst≠some t)→a'.tmps[t]?=a.tmps[t]?)→Q .normal a' w'):wpListIn (uH ro) n P ops Q l a w:=by
 have:=g_ (ro:=ro) (n:=n) (rest:=[]) (Q:=Q) hB horc hc hs hev (fun G' a' w' h1 h2 h3 h4=>by unfold wpListIn;exact hq G' a' w' h1 h2 h3 h4)
 rwa [List.append_nil]at this
theorem qd{n:Nat}{ops:Array Oper}{Q:Exit→Act→World→Prop}{rest:List Oper}{o:Oper}{f:FuncId}{args:Array Operand}{types:Array TypeId}{a:Act}{w:World}(hop:o.op=.call { callee:=.value (.func f),args,argTypes:=types })(hg:o.guard=none)
   (hb:∃fn b,P.funcs[f]?=some fn∧fn.body=some b∧fn.name ≠ "runtime.NumGoroutine")
   (h:Calls P f (args.map a.eval) w fun e w'=>∃v,e=.returned v∧wpListIn Fence.wide n P ops Q rest (a.put o.dst v) w'):wpListIn Fence.wide n P ops Q (o::rest) a w:=by
 unfold wpListIn;have hw:Region.wanted o (yielded ops a.tmps)=true:=by simp[Region.wanted,hg]
 rw[if_pos hw];refine rQ (ro:=none) (by intro c e;rw[hop]at e;cases e) ?_;obtain⟨fn,b,h1,h2,h3⟩:=hb
 have hr:(execOp a.eval o).run P w=.ok (.enter f (args.map a.eval)) w:=by
   obtain⟨dst,op,type,pos,after,guard⟩:=o;simp only at hop;subst hop;simp[execOp,resolve,Act.eval,Deferred.ofValue,invoke,callFunc,h1,h2,h3]
 unfold Oper.wp;rw[hr];refine Calls.mono h ?_
 rintro e w' ⟨v,rfl,h⟩
 exact h
structure oZ(P:Program)(ns:Names)(f gd gb:Nat) where
 fn:Func
 A:jS
 T:TypeId
 E:TypeId
 Tp:TypeId
 fw:Nat
 fs:Nat
 t1:Array TypeId
 t2:Array TypeId
 t3:Array TypeId
 tf:TypeId
 f0:Nat
 f1:Nat
 Vd:Field
 Ve:Field
 s0:Nat
 s1:Nat
 td:TypeId
 tb:TypeId
 bx:Oper
 rs:Oper
 al:Oper
 fa:Oper
 ld:Oper
 r2:List Oper
 o3:Array Oper
 o4:Array Oper
 l5:List Oper
 w5:Oper
 o6:Array Oper
 N8:Oper
 N9:Oper
 r7:List Oper
 o8:Array Oper
 o9:Array Oper
 l10:List Oper
 K7:Oper
 QY:Array Oper
 st:Oper
 fi:Oper
 i0:Nat
 i1:Nat
 i2:Nat
 i3:Nat
 i4:Nat
 i5:Nat
 i6:Nat
 i7:Nat
 i8:Nat
 i9:Nat
 BC:Nat
 SX:Nat
 Vf:Nat
 b0:Nat
 b1:Nat
 b2:Nat
 b3:Nat
 hf:P.funcs[f]?=some fn
 tH:fn.body=some (.seq (.region i0 #[bx,rs] false) (.seq (.region i1 #[al] false) (.seq (.seq (.region i2 (fa::ld::r2).toArray false) (.block b0 (.loop (.seq (.region i3 o3 false) (.seq (.cond (.tmp 12) .skip (.exit b0)) (.seq (.block b1 (.seq (.region i4 o4 false) (.region i5 (l5++[w5]).toArray false))) (.region i6 o6 false)))))))
   (.seq (.seq (.region i7 (N8::N9::r7).toArray false) (.block b2 (.loop (.seq (.region i8 o8 false) (.seq (.cond (.tmp 23) .skip (.exit b2)) (.seq (.block b3 (.seq (.region i9 o9 false) (.region BC (l10++[K7]).toArray false))) (.region SX QY false))))))) (.seq (.region Vf #[st,fi] false) .ret)))))
 gW:fn.results=#[.tmp 2]
 hN:fn.ntmps=31
 SY:bx.op=.box Tp (.tmp 0)∧bx.dst=some 1∧bx.guard=none
 QP:rs.op=.assign (.const (.string ⟨#[]⟩))∧rs.dst=some 2∧rs.guard=none
 N_:al.op=.alloc T∧al.dst=some 3∧al.guard=none
 hz:(P.info? T).bind (·.zero)=some (.agg #[.pointer none,.slice none 0 0])
 RX:fa.op=.fieldAddr tf (.tmp 1) f0∧fa.dst=some 8∧fa.guard=none
 Wh:fK P tf f0=some Vd∧Vd.offset=0∧cC P Vd.type=some s0∧s0≠0
 RY:ld.op=.load td (.tmp 8)∧ld.dst=some 9∧ld.guard=none
 VH:cC P td=some 1∧gR P td=some false
 c2:cd (cI P ns A 31 (fa::ld::r2).toArray) r2=some [⟨some 10,none,[.t 9],.v .len⟩,⟨some 11,none,[.c (.pv (.int .i64 0))],.v .mv⟩]
 Im:N8.op=.fieldAddr tf (.tmp 1) f1∧N8.dst=some 19∧N8.guard=none
 SZ:fK P tf f1=some Ve∧Ve.offset=1∧cC P Ve.type=some s1∧s1≠0
 Io:N9.op=.load tb (.tmp 19)∧N9.dst=some 20∧N9.guard=none
 RS:cC P tb=some 1∧gR P tb=some false
 c7:cd (cI P ns A 31 (N8::N9::r7).toArray) r7=some [⟨some 21,none,[.t 20],.v .len⟩,⟨some 22,none,[.c (.pv (.int .i64 0))],.v .mv⟩]
 c3:cd (cI P ns A 31 o3) o3.toList=some [⟨some 12,none,[.t 11,.t 10],.v (.bin .lss)⟩]
 c4:cd (cI P ns A 31 o4) o4.toList=some [⟨some 13,none,[.t 9,.t 11],.v (.d3 4)⟩,⟨some 14,none,[.t 13],.v (.fh 4 true)⟩,⟨some 5,none,[],.alloc 5 [.int .i64 0,.str [],.au [],.au []]⟩,⟨none,none,[.t 5,.t 14],.bB 5 0 4⟩]
 c5:cd (cI P ns A 31 (l5++[w5]).toArray) l5=some [⟨some 15,none,[.t 5],.bX 5 0 4 true⟩,⟨some 16,none,[.t 15],.aJ gd⟩]
 c6:cd (cI P ns A 31 o6) o6.toList=some [⟨some 18,none,[.t 11,.c (.pv (.int .i64 1))],.v (.bin .add)⟩,⟨some 11,none,[.t 18],.v .mv⟩]
 Vg:w5.op=.call { callee:=.value (.func fw),args:=#[.tmp 3,.tmp 16],argTypes:=t1 }∧w5.dst=some 17∧w5.guard=none
 c8:cd (cI P ns A 31 o8) o8.toList=some [⟨some 23,none,[.t 22,.t 21],.v (.bin .lss)⟩]
 c9:cd (cI P ns A 31 o9) o9.toList=some [⟨some 24,none,[.t 20,.t 22],.v (.d3 20)⟩,⟨some 25,none,[.t 24],.v (.fh 20 true)⟩,⟨some 7,none,[],.alloc 7 [.int .i64 0,.bool false,.str [],.bool false,.int .i64 0,.str [],.int .i64 0,.int .i64 0,.au [],.int .i64 0,.int .i64 0,.str [],.int .i64 0,.au [],.au [],.int .i64 0,.str [],.int .i64 0,.int .i64 0,.au []]⟩,⟨none,none,[.t 7,.t 25],.bB 7 0 20⟩]
 c10:cd (cI P ns A 31 (l10++[K7]).toArray) l10=some [⟨some 26,none,[.t 7],.bX 7 0 20 true⟩,⟨some 27,none,[.t 26],.aJ gb⟩]
 c11:cd (cI P ns A 31 QY) QY.toList=some [⟨some 29,none,[.t 22,.c (.pv (.int .i64 1))],.v (.bin .add)⟩,⟨some 22,none,[.t 29],.v .mv⟩]
 N':K7.op=.call { callee:=.value (.func fw),args:=#[.tmp 3,.tmp 27],argTypes:=t2 }∧K7.dst=some 28∧K7.guard=none
 vh:st.op=.call { callee:=.value (.func fs),args:=#[.tmp 3],argTypes:=t3 }∧st.dst=some 30∧st.guard=none
 RR:fi.op=.assign (.tmp 30)∧fi.dst=some 2∧fi.guard=none
 VI:∃fn b,P.funcs[fw]?=some fn∧fn.body=some b∧fn.name ≠ "runtime.NumGoroutine"
 S4:∃fn b,P.funcs[fs]?=some fn∧fn.body=some b∧fn.name ≠ "runtime.NumGoroutine"
 WD:∃f,ns.of f=some gd
 WE:∃f,ns.of f=some gb
 write:∀(B b:Nat) (bs:List Value) (s:ByteArray) (w:World),Lib.IsBuilder T E B b bs w→bs.length+s.size≤140737488355328→B≤w.heap.size →
   Calls P fw #[.pointer (some ⟨b,0,none⟩),.string s] w fun e w'=>e=.returned (.tuple #[.int .i64 s.size,.nilIface])∧(Lib.BuilderAt T E B b (.pointer (some ⟨b,0,none⟩)) (bs++Lib.strCells s) w'∧RowKit.Below B w w')
 read:∀(B b:Nat) (l:List UInt8) (w:World),Lib.IsBuilder T E B b (Lib.byteCells l) w→B≤w.heap.size →
   Calls P fs #[.pointer (some ⟨b,0,none⟩)] w fun e w'=>e=.returned (.string ⟨l.toArray⟩)∧RowKit.Below B w w'
theorem vU{o:Nat→List PV→Option (List PV)}{g:Nat}{l:List PV}{i:Nat}{el:PV}{s:List UInt8}(hi:l[i]?=some el)(h:j_ o g (l.drop i)=some s) :
   ∃t u,o g [el]=some [.str t]∧j_ o g (l.drop (i+1))=some u∧s=t++u:=by
 have hlt:=(List.getElem?_eq_some_iff.1 hi).1
 have e:l.drop i=el::l.drop (i+1):=by
   rw[List.drop_eq_getElem_cons hlt];congr 1;exact (List.getElem?_eq_some_iff.1 hi).2
 rw[e]at h;simp only[j_]at h;split at h
 ·rename_i t ht;simp only[Option.map_eq_some_iff]at h;obtain⟨u,hu,rfl⟩:=h;exact⟨t,u,ht,hu,rfl⟩
 ·cases h
theorem nr{K:bl}{a:Act}{w:World}{env:List (Nat×AV)}(hpin:nD ns.jX w)(hK:BB K w)(hs:a.tmps.size=31)(hd:a.defers=[])(he:∀t x,look env t=some x→∃v,a.tmps[t]?=some v∧aB (num ns) (Jb K) x v) :
   gK (num ns) 0 31 (Jb K) { env,mem:=[],sh:=[],aa:=[] } a w:=
 ⟨⟨hs,he⟩,SW hpin hK,Nat.zero_le _,[],by simpa using hd,by simp,by simp⟩
theorem mO{P:Program}{o:Oper}{op:Op}(h:o.op=op)(hn:∀c,op≠.defer c):∀c,o.op≠.defer c:=fun c=>by rw[h];exact hn c
structure QZ(K:bl)(ds:List PV)(b b1 i:Nat)(a:Act):Prop where
 size:a.tmps.size=31
 defers:a.defers=[]
 p1:a.tmps[1]?=some (.pointer (some ⟨b1,0,none⟩))
 p3:a.tmps[3]?=some (.pointer (some ⟨b,0,none⟩))
 l:∃v,a.tmps[9]?=some v∧Rel K (.au ds) v
 n:a.tmps[10]?=some (.int .i64 ds.length)
 i:a.tmps[11]?=some (.int .i64 i)
theorem Pp{orc:dX}{i n:Int}:bo orc [⟨some 12,none,[.t 11,.t 10],.v (.bin .lss)⟩] { env:=[(11,.pv (.int .i64 i)),(10,.pv (.int .i64 n))],mem:=[],sh:=[],aa:=[] } =
   some { env:=[(11,.pv (.int .i64 i)),(10,.pv (.int .i64 n)),(12,.pv (.bool (decide (i<n))))],mem:=[],sh:=[],aa:=[] }:=by
 simp
theorem S5{orc:dX}{ds:List PV}{i:Nat}{cs:List PV}(hi:ds[i]?=some (.agg cs))(hl:cs.length=4)(hc:cs.all c_=true) :
   bo orc [⟨some 13,none,[.t 9,.t 11],.v (.d3 4)⟩,⟨some 14,none,[.t 13],.v (.fh 4 true)⟩,⟨some 5,none,[],.alloc 5 [.int .i64 0,.str [],.au [],.au []]⟩,⟨none,none,[.t 5,.t 14],.bB 5 0 4⟩] { env:=[(9,.pv (.au ds)),(11,.pv (.int .i64 i))],mem:=[],sh:=[],aa:=[] } =
   some { env:=[(9,.pv (.au ds)),(11,.pv (.int .i64 i)),(13,.fH cs),(14,.pv (.agg cs)),(5,.az 5 0)],mem:=[(5,cs.map .pv)],sh:=[],aa:=[] }:=by
 have hi0:¬((i:Int)<0):=by omega
 have h1:(List.map AV.pv cs).all aT=true:=vT hc;have h2:cs.take 4=cs:=by rw[←hl];exact List.take_length
 have h4:4≤cs.length:=by omega
 have h3:∀zs:List AV,zs.length=4→aQ zs 0 (cs.map .pv)=cs.map .pv:=fun zs hz=>nq (by simp[hl,hz]);simp[-getElem?_pos,-List.all_map,-List.all_eq_true,-aF,hi,hi0,hl,h2,h3,h1,h4]
theorem S6{orc:dX}{cs:List PV}{g:Nat}{s:List UInt8}{env:List (Nat×AV)}(he:look env 5=some (.az 5 0))(hl:cs.length=4)(hc:cs.all c_=true)(hg:orc.p g [.agg cs]=some [.str s]) :
   ∃env',bo orc [⟨some 15,none,[.t 5],.bX 5 0 4 true⟩,⟨some 16,none,[.t 15],.aJ g⟩] { env,mem:=[(5,cs.map .pv)],sh:=[],aa:=[] }=some { env:=env',mem:=[(5,cs.map .pv)],sh:=[],aa:=[] }∧look env' 16=some (.pv (.str s)):=by
 have h1:b_ [] (cs.map .pv)=some cs:=qc hc;have h2:(cs.map AV.pv).take 4=cs.map .pv:=by rw[←hl];simpa using List.take_length (l:=cs.map AV.pv)
 have h4:4≤cs.length:=by omega
 refine⟨cW (cW env 15 (.agg (cs.map .pv))) 16 (.pv (.str s)),?_,by rw[bt]⟩;have h5:look (cW env 15 (.agg (cs.map .pv))) 15=some (.agg (cs.map .pv)):=bt _ _ _;simp[-getElem?_pos,he,h1,h2,h4,h5,hg]
theorem S7{orc:dX}{i:Nat}(h:i<4611686018427387904):bo orc [⟨some 18,none,[.t 11,.c (.pv (.int .i64 1))],.v (.bin .add)⟩,⟨some 11,none,[.t 18],.v .mv⟩] { env:=[(11,.pv (.int .i64 i))],mem:=[],sh:=[],aa:=[] } =
   some { env:=[(11,.pv (.int .i64 ((i:Int)+1))),(18,.pv (.int .i64 ((i:Int)+1)))],mem:=[],sh:=[],aa:=[] }:=by
 simp (disch:=omega) [ah]
theorem K8{orc:dX}(hB:eK P ns)(horc:gi P ns orc){f gd gb:Nat}(D:oZ P ns f gd gb){K:bl}{w0 w1:World}{ds:List PV}{b1 b B:Nat}(hpin:nD ns.jX w0)(hK:BB K w0)(h01:RowKit.Below w0.heap.size w0 w1)(hB1:w0.heap.size≤B)
   (hds:ds.all (eP 4)=true) (hlen:ds.length<4611686018427387904) {Q:Exit→Act→World→Prop} {all:List UInt8} (hall:all.length≤140737488355328) :
   ∀(j i:Nat) (a:Act) (w:World) (acc rest:List UInt8),ds.length-i=j→i≤ds.length→QZ K ds b b1 i a→Wd D.T D.E B b acc w1 w→j_ orc.p gd (ds.drop i)=some rest→(∃q,all=acc++rest++q) →
     (∀a' w',QZ K ds b b1 ds.length a'→Wd D.T D.E B b (acc++rest) w1 w'→Q .normal a' w') →
     Code.roundsIn Fence.wide 0 P (.seq (.region D.i3 D.o3 false) (.seq (.cond (.tmp 12) .skip (.exit D.b0)) (.seq (.block D.b1 (.seq (.region D.i4 D.o4 false) (.region D.i5 (D.l5++[D.w5]).toArray false))) (.region D.i6 D.o6 false)))) (Exit.inBlock D.b0 Q) (j+1) a w:=by
 have iL:∀{acc:List UInt8} {w:World},Wd D.T D.E B b acc w1 w→BB K w:=fun hW=>hK.below (h01.trans (hW.below.mono hB1));have pinw:∀{acc:List UInt8} {w:World},Wd D.T D.E B b acc w1 w→nD ns.jX w:=fun hW=>hpin.below (h01.trans (hW.below.mono hB1))
 have bV:∀{G:Gh} {i:Int},aB (num ns) G (.pv (.int .i64 i)) (.int .i64 i):=by intros;simp[aB,Rel,R]
 intro j;induction j with
 |zero=>
   intro i a w acc rest hj hi hh hW hr hq hQ;rw[roundsIn_succ];refine wpIn_seq (wpIn_region_list ?_)
   have hs:=nr (ns:=ns) (env:=[(11,.pv (.int .i64 i)),(10,.pv (.int .i64 ds.length))]) (pinw hW) (iL hW) hh.size hh.defers (by
     intro t x hx;simp only[look]at hx;split at hx
     ·rename_i e;subst e;cases hx;exact⟨_,hh.i,bV⟩
     · split at hx
       ·rename_i e;subst e;cases hx;exact⟨_,hh.n,bV⟩
       ·cases hx)
   refine eG (ro:=none) hB horc D.c3 hs Pp fun G1 a1 W1 hs1 he1 hd1 hk1=>?_
   change (Code.seq (.cond (.tmp 12) .skip (.exit D.b0)) _).wpIn Fence.wide 0 P _ a1 W1
   obtain⟨v8,h8,r8⟩:=hs1.env.env 12 _ rfl;simp[aB,Rel,R]at r8;have hkl:i=ds.length:=by omega
   subst hkl;have hc:a1.eval (.tmp 12)=.bool false:=by simp[Act.eval,h8,r8]
   refine wpIn_seq (wpIn_cond_false hc (wpIn_exit ?_));simp only[Exit.then,Exit.inBlock,if_true];have hrest:rest=[]:=by rw[List.drop_length]at hr;simp[j_]at hr;exact hr
   subst hrest;refine hQ a1 W1 ⟨hs1.env.size,hd1.trans hh.defers,?_,?_,?_,?_,?_⟩ (by rw[List.append_nil];exact hW.qA he1)
   ·rw[hk1 1 (by simp)];exact hh.p1
   ·rw[hk1 3 (by simp)];exact hh.p3
   ·rw[hk1 9 (by simp)];exact hh.l
   ·rw[hk1 10 (by simp)];exact hh.n
   ·rw[hk1 11 (by simp)];exact hh.i
 |succ j ih=>
   intro i a w acc rest hj hi hh hW hr hq hQ;have hlt:i<ds.length:=by omega
   obtain⟨el,hel⟩:∃el,ds[i]?=some el:=⟨ds[i],List.getElem?_eq_getElem hlt⟩;have hok:=List.all_eq_true.1 hds el (List.mem_of_getElem? hel);cases el with
   |agg cs=>
     simp only[eP,Bool.and_eq_true,beq_iff_eq]at hok;obtain⟨hcl,hcp⟩:=hok;obtain⟨s,u,hs1',hu,rfl⟩:=vU hel hr;rw[roundsIn_succ];refine wpIn_seq (wpIn_region_list ?_)
     have hs:=nr (ns:=ns) (env:=[(11,.pv (.int .i64 i)),(10,.pv (.int .i64 ds.length))]) (pinw hW) (iL hW) hh.size hh.defers (by
       intro t x hx;simp only[look]at hx;split at hx
       ·rename_i e;subst e;cases hx;exact⟨_,hh.i,bV⟩
       · split at hx
         ·rename_i e;subst e;cases hx;exact⟨_,hh.n,bV⟩
         ·cases hx)
     refine eG (ro:=none) hB horc D.c3 hs Pp fun G1 a1 W1 hs1 he1 hd1 hk1=>?_
     change (Code.seq (.cond (.tmp 12) .skip (.exit D.b0)) _).wpIn Fence.wide 0 P _ a1 W1
     obtain⟨v8,h8,r8⟩:=hs1.env.env 12 _ rfl;simp[aB,Rel,R]at r8;have hc:a1.eval (.tmp 12)=.bool true:=by simp[Act.eval,h8,r8];omega
     have hh1:QZ K ds b b1 i a1:=by
       refine⟨hs1.env.size,hd1.trans hh.defers,?_,?_,?_,?_,?_⟩
       ·rw[hk1 1 (by simp)];exact hh.p1
       ·rw[hk1 3 (by simp)];exact hh.p3
       ·rw[hk1 9 (by simp)];exact hh.l
       ·rw[hk1 10 (by simp)];exact hh.n
       ·rw[hk1 11 (by simp)];exact hh.i
     have hW1:=hW.qA he1;refine wpIn_seq (wpIn_cond_true hc (wpIn_skip ?_))
     change (Code.seq (.block D.b1 _) _).wpIn Fence.wide 0 P _ a1 W1
     refine wpIn_seq (wpIn_block (wpIn_seq (wpIn_region_list ?_)));obtain⟨vl,hvl,rvl⟩:=hh1.l
     have hs2:=nr (ns:=ns) (env:=[(9,.pv (.au ds)),(11,.pv (.int .i64 i))]) (pinw hW1) (iL hW1) hh1.size hh1.defers (by
       intro t x hx;simp only[look]at hx;split at hx
       ·rename_i e;subst e;cases hx;exact⟨_,hvl,by simp only[aB];exact rvl⟩
       · split at hx
         ·rename_i e;subst e;cases hx;exact⟨_,hh1.i,bV⟩
         ·cases hx)
     refine eG (ro:=none) hB horc D.c4 hs2 (S5 hel hcl hcp) fun G2 a2 W2 hs2' he2 hd2 hk2=>?_
     change (Code.region D.i5 (D.l5++[D.w5]).toArray false).wpIn Fence.wide 0 P _ a2 W2
     refine wpIn_region_list ?_;obtain⟨env3,hev3,hl3⟩:=S6 (orc:=orc) (env:=[(9,.pv (.au ds)),(11,.pv (.int .i64 i)),(13,.fH cs),(14,.pv (.agg cs)),(5,.az 5 0)]) rfl hcl hcp hs1';refine g_ (ro:=none) (rest:=[D.w5]) hB horc D.c5 hs2' hev3 fun G3 a3 W3 hs3 he3 hd3 hk3=>?_;have he23:=he2.trans he3
     have hW3:=hW1.qA he23;obtain⟨vs,hvs,rvs⟩:=hs3.env.env 16 _ hl3;simp[aB,Rel,R]at rvs;subst rvs
     have hh3:QZ K ds b b1 i a3:=by
       refine⟨hs3.env.size,(hd3.trans hd2).trans hh1.defers,?_,?_,?_,?_,?_⟩
       ·rw[hk3 1 (by simp),hk2 1 (by simp)];exact hh1.p1
       ·rw[hk3 3 (by simp),hk2 3 (by simp)];exact hh1.p3
       ·rw[hk3 9 (by simp),hk2 9 (by simp)];exact hh1.l
       ·rw[hk3 10 (by simp),hk2 10 (by simp)];exact hh1.n
       ·rw[hk3 11 (by simp),hk2 11 (by simp)];exact hh1.i
     refine qd D.Vg.1 D.Vg.2.2 D.VI ?_;have hargs:(#[.tmp 3,.tmp 16]:Array Operand).map a3.eval=#[.pointer (some ⟨b,0,none⟩),.string ⟨s.toArray⟩]:=by simp[Act.eval,hh3.p3,hvs]
     rw[hargs];obtain⟨q,hq⟩:=hq
     have hsum:(Lib.byteCells acc).length+(⟨s.toArray⟩:ByteArray).size≤140737488355328:=by
       have:=congrArg List.length hq;simp at this;simp only[Lib.byteCells_length];show acc.length+s.toArray.size≤_;simp;omega
     refine (D.write B b (Lib.byteCells acc) ⟨s.toArray⟩ W3 hW3.Vc hsum hW3.le).mono ?_
     rintro e w4 ⟨rfl,hb4,hbel⟩
     refine⟨_,rfl,?_⟩;have hW4:Wd D.T D.E B b (acc++s) w1 w4:=⟨hW3.below.trans hbel,Nat.le_trans hW3.le hbel.size,.inr (by rw[Lib.byteCells_append];exact hb4)⟩
     have hh4:QZ K ds b b1 i (a3.put D.w5.dst (.tuple #[.int .i64 (⟨s.toArray⟩:ByteArray).size,.nilIface])):=by
       rw[D.Vg.2.1];refine⟨by simp[Act.put,hh3.size],hh3.defers,?_,?_,?_,?_,?_⟩;all_goals simp only[Act.put];rw[Array.getElem?_setIfInBounds_ne (by decide)]
       ·exact hh3.p1
       ·exact hh3.p3
       ·exact hh3.l
       ·exact hh3.n
       ·exact hh3.i
     change (Code.region D.i6 D.o6 false).wpIn Fence.wide 0 P _ _ w4
     refine wpIn_region_list ?_
     have hs5:=nr (ns:=ns) (env:=[(11,.pv (.int .i64 i))]) (pinw hW4) (iL hW4) hh4.size hh4.defers (by
       intro t x hx;simp only[look]at hx;split at hx
       ·rename_i e;subst e;cases hx;exact⟨_,hh4.i,bV⟩
       ·cases hx)
     refine eG (ro:=none) hB horc D.c6 hs5 (S7 (by omega)) fun G6 a6 W6 hs6 he6 hd6 hk6=>?_;obtain⟨v6,h6,r6⟩:=hs6.env.env 11 _ rfl;simp[aB,Rel,R]at r6
     have hh6:QZ K ds b b1 (i+1) a6:=by
       refine⟨hs6.env.size,hd6.trans hh4.defers,?_,?_,?_,?_,?_⟩
       ·rw[hk6 1 (by simp)];exact hh4.p1
       ·rw[hk6 3 (by simp)];exact hh4.p3
       ·rw[hk6 9 (by simp)];exact hh4.l
       ·rw[hk6 10 (by simp)];exact hh4.n
       ·rw[h6,r6];simp
     refine ih (i+1) a6 W6 (acc++s) u (by omega) (by omega) hh6 (hW4.qA he6) hu ⟨q,by rw[hq];simp⟩ ?_;intro a' w' h1 h2;exact hQ a' w' h1 (by rw[←List.append_assoc];exact h2)
   |_=>simp[eP]at hok
structure Q0(K:bl)(ds:List PV)(b b1 i:Nat)(a:Act):Prop where
 size:a.tmps.size=31
 defers:a.defers=[]
 p1:a.tmps[1]?=some (.pointer (some ⟨b1,0,none⟩))
 p3:a.tmps[3]?=some (.pointer (some ⟨b,0,none⟩))
 l:∃v,a.tmps[20]?=some v∧Rel K (.au ds) v
 n:a.tmps[21]?=some (.int .i64 ds.length)
 i:a.tmps[22]?=some (.int .i64 i)
theorem Pq{orc:dX}{i n:Int}:bo orc [⟨some 23,none,[.t 22,.t 21],.v (.bin .lss)⟩] { env:=[(22,.pv (.int .i64 i)),(21,.pv (.int .i64 n))],mem:=[],sh:=[],aa:=[] } =
   some { env:=[(22,.pv (.int .i64 i)),(21,.pv (.int .i64 n)),(23,.pv (.bool (decide (i<n))))],mem:=[],sh:=[],aa:=[] }:=by
 simp
theorem S8{orc:dX}{ds:List PV}{i:Nat}{cs:List PV}(hi:ds[i]?=some (.agg cs))(hl:cs.length=20)(hc:cs.all c_=true) :
   bo orc [⟨some 24,none,[.t 20,.t 22],.v (.d3 20)⟩,⟨some 25,none,[.t 24],.v (.fh 20 true)⟩,⟨some 7,none,[],.alloc 7 [.int .i64 0,.bool false,.str [],.bool false,.int .i64 0,.str [],.int .i64 0,.int .i64 0,.au [],.int .i64 0,.int .i64 0,.str [],.int .i64 0,.au [],.au [],.int .i64 0,.str [],.int .i64 0,.int .i64 0,.au []]⟩,⟨none,none,[.t 7,.t 25],.bB 7 0 20⟩] { env:=[(20,.pv (.au ds)),(22,.pv (.int .i64 i))],mem:=[],sh:=[],aa:=[] } =
   some { env:=[(20,.pv (.au ds)),(22,.pv (.int .i64 i)),(24,.fH cs),(25,.pv (.agg cs)),(7,.az 7 0)],mem:=[(7,cs.map .pv)],sh:=[],aa:=[] }:=by
 have hi0:¬((i:Int)<0):=by omega
 have h1:(List.map AV.pv cs).all aT=true:=vT hc;have h2:cs.take 20=cs:=by rw[←hl];exact List.take_length
 have h4:20≤cs.length:=by omega
 have h3:∀zs:List AV,zs.length=20→aQ zs 0 (cs.map .pv)=cs.map .pv:=fun zs hz=>nq (by simp[hl,hz]);simp[-getElem?_pos,-List.all_map,-List.all_eq_true,-aF,hi,hi0,hl,h2,h3,h1,h4]
theorem S9{orc:dX}{cs:List PV}{g:Nat}{s:List UInt8}{env:List (Nat×AV)}(he:look env 7=some (.az 7 0))(hl:cs.length=20)(hc:cs.all c_=true)(hg:orc.p g [.agg cs]=some [.str s]) :
   ∃env',bo orc [⟨some 26,none,[.t 7],.bX 7 0 20 true⟩,⟨some 27,none,[.t 26],.aJ g⟩] { env,mem:=[(7,cs.map .pv)],sh:=[],aa:=[] }=some { env:=env',mem:=[(7,cs.map .pv)],sh:=[],aa:=[] }∧look env' 27=some (.pv (.str s)):=by
 have h1:b_ [] (cs.map .pv)=some cs:=qc hc;have h2:(cs.map AV.pv).take 20=cs.map .pv:=by rw[←hl];simpa using List.take_length (l:=cs.map AV.pv)
 have h4:20≤cs.length:=by omega
 refine⟨cW (cW env 26 (.agg (cs.map .pv))) 27 (.pv (.str s)),?_,by rw[bt]⟩;have h5:look (cW env 26 (.agg (cs.map .pv))) 26=some (.agg (cs.map .pv)):=bt _ _ _;simp[-getElem?_pos,he,h1,h2,h4,h5,hg]
theorem S_{orc:dX}{i:Nat}(h:i<4611686018427387904):bo orc [⟨some 29,none,[.t 22,.c (.pv (.int .i64 1))],.v (.bin .add)⟩,⟨some 22,none,[.t 29],.v .mv⟩] { env:=[(22,.pv (.int .i64 i))],mem:=[],sh:=[],aa:=[] } =
   some { env:=[(22,.pv (.int .i64 ((i:Int)+1))),(29,.pv (.int .i64 ((i:Int)+1)))],mem:=[],sh:=[],aa:=[] }:=by
 simp (disch:=omega) [ah]
theorem K9{orc:dX}(hB:eK P ns)(horc:gi P ns orc){f gd gb:Nat}(D:oZ P ns f gd gb){K:bl}{w0 w1:World}{ds:List PV}{b1 b B:Nat}(hpin:nD ns.jX w0)(hK:BB K w0)(h01:RowKit.Below w0.heap.size w0 w1)(hB1:w0.heap.size≤B)
   (hds:ds.all (eP 20)=true) (hlen:ds.length<4611686018427387904) {Q:Exit→Act→World→Prop} {all:List UInt8} (hall:all.length≤140737488355328) :
   ∀(j i:Nat) (a:Act) (w:World) (acc rest:List UInt8),ds.length-i=j→i≤ds.length→Q0 K ds b b1 i a→Wd D.T D.E B b acc w1 w→j_ orc.p gb (ds.drop i)=some rest→(∃q,all=acc++rest++q) →
     (∀a' w',Q0 K ds b b1 ds.length a'→Wd D.T D.E B b (acc++rest) w1 w'→Q .normal a' w') →
     Code.roundsIn Fence.wide 0 P (.seq (.region D.i8 D.o8 false) (.seq (.cond (.tmp 23) .skip (.exit D.b2)) (.seq (.block D.b3 (.seq (.region D.i9 D.o9 false) (.region D.BC (D.l10++[D.K7]).toArray false))) (.region D.SX D.QY false)))) (Exit.inBlock D.b2 Q) (j+1) a w:=by
 have iL:∀{acc:List UInt8} {w:World},Wd D.T D.E B b acc w1 w→BB K w:=fun hW=>hK.below (h01.trans (hW.below.mono hB1));have pinw:∀{acc:List UInt8} {w:World},Wd D.T D.E B b acc w1 w→nD ns.jX w:=fun hW=>hpin.below (h01.trans (hW.below.mono hB1))
 have bV:∀{G:Gh} {i:Int},aB (num ns) G (.pv (.int .i64 i)) (.int .i64 i):=by intros;simp[aB,Rel,R]
 intro j;induction j with
 |zero=>
   intro i a w acc rest hj hi hh hW hr hq hQ;rw[roundsIn_succ];refine wpIn_seq (wpIn_region_list ?_)
   have hs:=nr (ns:=ns) (env:=[(22,.pv (.int .i64 i)),(21,.pv (.int .i64 ds.length))]) (pinw hW) (iL hW) hh.size hh.defers (by
     intro t x hx;simp only[look]at hx;split at hx
     ·rename_i e;subst e;cases hx;exact⟨_,hh.i,bV⟩
     · split at hx
       ·rename_i e;subst e;cases hx;exact⟨_,hh.n,bV⟩
       ·cases hx)
   refine eG (ro:=none) hB horc D.c8 hs Pq fun G1 a1 W1 hs1 he1 hd1 hk1=>?_
   change (Code.seq (.cond (.tmp 23) .skip (.exit D.b2)) _).wpIn Fence.wide 0 P _ a1 W1
   obtain⟨v8,h8,r8⟩:=hs1.env.env 23 _ rfl;simp[aB,Rel,R]at r8;have hkl:i=ds.length:=by omega
   subst hkl;have hc:a1.eval (.tmp 23)=.bool false:=by simp[Act.eval,h8,r8]
   refine wpIn_seq (wpIn_cond_false hc (wpIn_exit ?_));simp only[Exit.then,Exit.inBlock,if_true];have hrest:rest=[]:=by rw[List.drop_length]at hr;simp[j_]at hr;exact hr
   subst hrest;refine hQ a1 W1 ⟨hs1.env.size,hd1.trans hh.defers,?_,?_,?_,?_,?_⟩ (by rw[List.append_nil];exact hW.qA he1)
   ·rw[hk1 1 (by simp)];exact hh.p1
   ·rw[hk1 3 (by simp)];exact hh.p3
   ·rw[hk1 20 (by simp)];exact hh.l
   ·rw[hk1 21 (by simp)];exact hh.n
   ·rw[hk1 22 (by simp)];exact hh.i
 |succ j ih=>
   intro i a w acc rest hj hi hh hW hr hq hQ;have hlt:i<ds.length:=by omega
   obtain⟨el,hel⟩:∃el,ds[i]?=some el:=⟨ds[i],List.getElem?_eq_getElem hlt⟩;have hok:=List.all_eq_true.1 hds el (List.mem_of_getElem? hel);cases el with
   |agg cs=>
     simp only[eP,Bool.and_eq_true,beq_iff_eq]at hok;obtain⟨hcl,hcp⟩:=hok;obtain⟨s,u,hs1',hu,rfl⟩:=vU hel hr;rw[roundsIn_succ];refine wpIn_seq (wpIn_region_list ?_)
     have hs:=nr (ns:=ns) (env:=[(22,.pv (.int .i64 i)),(21,.pv (.int .i64 ds.length))]) (pinw hW) (iL hW) hh.size hh.defers (by
       intro t x hx;simp only[look]at hx;split at hx
       ·rename_i e;subst e;cases hx;exact⟨_,hh.i,bV⟩
       · split at hx
         ·rename_i e;subst e;cases hx;exact⟨_,hh.n,bV⟩
         ·cases hx)
     refine eG (ro:=none) hB horc D.c8 hs Pq fun G1 a1 W1 hs1 he1 hd1 hk1=>?_
     change (Code.seq (.cond (.tmp 23) .skip (.exit D.b2)) _).wpIn Fence.wide 0 P _ a1 W1
     obtain⟨v8,h8,r8⟩:=hs1.env.env 23 _ rfl;simp[aB,Rel,R]at r8;have hc:a1.eval (.tmp 23)=.bool true:=by simp[Act.eval,h8,r8];omega
     have hh1:Q0 K ds b b1 i a1:=by
       refine⟨hs1.env.size,hd1.trans hh.defers,?_,?_,?_,?_,?_⟩
       ·rw[hk1 1 (by simp)];exact hh.p1
       ·rw[hk1 3 (by simp)];exact hh.p3
       ·rw[hk1 20 (by simp)];exact hh.l
       ·rw[hk1 21 (by simp)];exact hh.n
       ·rw[hk1 22 (by simp)];exact hh.i
     have hW1:=hW.qA he1;refine wpIn_seq (wpIn_cond_true hc (wpIn_skip ?_))
     change (Code.seq (.block D.b3 _) _).wpIn Fence.wide 0 P _ a1 W1
     refine wpIn_seq (wpIn_block (wpIn_seq (wpIn_region_list ?_)));obtain⟨vl,hvl,rvl⟩:=hh1.l
     have hs2:=nr (ns:=ns) (env:=[(20,.pv (.au ds)),(22,.pv (.int .i64 i))]) (pinw hW1) (iL hW1) hh1.size hh1.defers (by
       intro t x hx;simp only[look]at hx;split at hx
       ·rename_i e;subst e;cases hx;exact⟨_,hvl,by simp only[aB];exact rvl⟩
       · split at hx
         ·rename_i e;subst e;cases hx;exact⟨_,hh1.i,bV⟩
         ·cases hx)
     refine eG (ro:=none) hB horc D.c9 hs2 (S8 hel hcl hcp) fun G2 a2 W2 hs2' he2 hd2 hk2=>?_
     change (Code.region D.BC (D.l10++[D.K7]).toArray false).wpIn Fence.wide 0 P _ a2 W2
     refine wpIn_region_list ?_;obtain⟨env3,hev3,hl3⟩:=S9 (orc:=orc) (env:=[(20,.pv (.au ds)),(22,.pv (.int .i64 i)),(24,.fH cs),(25,.pv (.agg cs)),(7,.az 7 0)]) rfl hcl hcp hs1';refine g_ (ro:=none) (rest:=[D.K7]) hB horc D.c10 hs2' hev3 fun G3 a3 W3 hs3 he3 hd3 hk3=>?_;have he23:=he2.trans he3
     have hW3:=hW1.qA he23;obtain⟨vs,hvs,rvs⟩:=hs3.env.env 27 _ hl3;simp[aB,Rel,R]at rvs;subst rvs
     have hh3:Q0 K ds b b1 i a3:=by
       refine⟨hs3.env.size,(hd3.trans hd2).trans hh1.defers,?_,?_,?_,?_,?_⟩
       ·rw[hk3 1 (by simp),hk2 1 (by simp)];exact hh1.p1
       ·rw[hk3 3 (by simp),hk2 3 (by simp)];exact hh1.p3
       ·rw[hk3 20 (by simp),hk2 20 (by simp)];exact hh1.l
       ·rw[hk3 21 (by simp),hk2 21 (by simp)];exact hh1.n
       ·rw[hk3 22 (by simp),hk2 22 (by simp)];exact hh1.i
     refine qd D.N'.1 D.N'.2.2 D.VI ?_;have hargs:(#[.tmp 3,.tmp 27]:Array Operand).map a3.eval=#[.pointer (some ⟨b,0,none⟩),.string ⟨s.toArray⟩]:=by simp[Act.eval,hh3.p3,hvs]
     rw[hargs];obtain⟨q,hq⟩:=hq
     have hsum:(Lib.byteCells acc).length+(⟨s.toArray⟩:ByteArray).size≤140737488355328:=by
       have:=congrArg List.length hq;simp at this;simp only[Lib.byteCells_length];show acc.length+s.toArray.size≤_;simp;omega
     refine (D.write B b (Lib.byteCells acc) ⟨s.toArray⟩ W3 hW3.Vc hsum hW3.le).mono ?_
     rintro e w4 ⟨rfl,hb4,hbel⟩
     refine⟨_,rfl,?_⟩;have hW4:Wd D.T D.E B b (acc++s) w1 w4:=⟨hW3.below.trans hbel,Nat.le_trans hW3.le hbel.size,.inr (by rw[Lib.byteCells_append];exact hb4)⟩
     have hh4:Q0 K ds b b1 i (a3.put D.K7.dst (.tuple #[.int .i64 (⟨s.toArray⟩:ByteArray).size,.nilIface])):=by
       rw[D.N'.2.1];refine⟨by simp[Act.put,hh3.size],hh3.defers,?_,?_,?_,?_,?_⟩;all_goals simp only[Act.put];rw[Array.getElem?_setIfInBounds_ne (by decide)]
       ·exact hh3.p1
       ·exact hh3.p3
       ·exact hh3.l
       ·exact hh3.n
       ·exact hh3.i
     change (Code.region D.SX D.QY false).wpIn Fence.wide 0 P _ _ w4
     refine wpIn_region_list ?_
     have hs5:=nr (ns:=ns) (env:=[(22,.pv (.int .i64 i))]) (pinw hW4) (iL hW4) hh4.size hh4.defers (by
       intro t x hx;simp only[look]at hx;split at hx
       ·rename_i e;subst e;cases hx;exact⟨_,hh4.i,bV⟩
       ·cases hx)
     refine eG (ro:=none) hB horc D.c11 hs5 (S_ (by omega)) fun G6 a6 W6 hs6 he6 hd6 hk6=>?_;obtain⟨v6,h6,r6⟩:=hs6.env.env 22 _ rfl;simp[aB,Rel,R]at r6
     have hh6:Q0 K ds b b1 (i+1) a6:=by
       refine⟨hs6.env.size,hd6.trans hh4.defers,?_,?_,?_,?_,?_⟩
       ·rw[hk6 1 (by simp)];exact hh4.p1
       ·rw[hk6 3 (by simp)];exact hh4.p3
       ·rw[hk6 20 (by simp)];exact hh4.l
       ·rw[hk6 21 (by simp)];exact hh4.n
       ·rw[h6,r6];simp
     refine ih (i+1) a6 W6 (acc++s) u (by omega) (by omega) hh6 (hW4.qA he6) hu ⟨q,by rw[hq];simp⟩ ?_;intro a' w' h1 h2;exact hQ a' w' h1 (by rw[←List.append_assoc];exact h2)
   |_=>simp[eP]at hok
theorem K_{orc:dX}{tl tn ti:Nat}{ds:List PV}(h:tn≠tl)(h1:ti≠tn)(h2:ti≠tl):bo orc [⟨some tn,none,[.t tl],.v .len⟩,⟨some ti,none,[.c (.pv (.int .i64 0))],.v .mv⟩] { env:=[(tl,.pv (.au ds))],mem:=[],sh:=[],aa:=[] } =
   some { env:=[(tl,.pv (.au ds)),(tn,.pv (.int .i64 ds.length)),(ti,.pv (.int .i64 0))],mem:=[],sh:=[],aa:=[] }:=by
 have h':tl≠tn:=Ne.symm h;have h1':tn≠ti:=Ne.symm h1;have h2':tl≠ti:=Ne.symm h2;simp[h,h1,h2,h',h1',h2']
theorem step1{orc:dX}(hB:eK P ns)(horc:gi P ns orc){f gd gb:Nat}(D:oZ P ns f gd gb){K:bl}{w0 w1:World}{ds bs:List PV}{vd vb:Value}{ta tb:List UInt8}(hpin:nD ns.jX w0)(hK:BB K w0)
   (hw1s:w1.heap.size=w0.heap.size+1) (hbx1:w1.heap[w0.heap.size]?=some (.cells #[vd,vb] D.Tp (0,0))) (h01:RowKit.Below w0.heap.size w0 w1)
   (hd1:ds.all (eP 4)=true) (hd2:bs.all (eP 20)=true) (hd3:ds.length<4611686018427387904) (hd4:bs.length<4611686018427387904) (hlen:(ta++tb).length≤140737488355328)
   (hvd:R K false (.au ds) [vd]) (hvb:R K false (.au bs) [vb]) (ha:j_ orc.p gd ds=some ta) (hb:j_ orc.p gb bs=some tb) {a1:Act}
   (s1:a1.tmps.size=31∧a1.defers=[]∧a1.tmps[1]?=some (.pointer (some ⟨w0.heap.size,0,none⟩))) :
   (Code.seq (.region D.i1 #[D.al] false) (.seq (.seq (.region D.i2 (D.fa::D.ld::D.r2).toArray false) (.block D.b0 (.loop (.seq (.region D.i3 D.o3 false) (.seq (.cond (.tmp 12) .skip (.exit D.b0)) (.seq (.block D.b1 (.seq (.region D.i4 D.o4 false) (.region D.i5 (D.l5++[D.w5]).toArray false))) (.region D.i6 D.o6 false)))))))
     (.seq (.seq (.region D.i7 (D.N8::D.N9::D.r7).toArray false) (.block D.b2 (.loop (.seq (.region D.i8 D.o8 false) (.seq (.cond (.tmp 23) .skip (.exit D.b2)) (.seq (.block D.b3 (.seq (.region D.i9 D.o9 false) (.region D.BC (D.l10++[D.K7]).toArray false))) (.region D.SX D.QY false))))))) (.seq (.region D.Vf #[D.st,D.fi] false) .ret)))).wpIn Fence.wide 0 P
     (bodyPost P D.fn fun e w'=>∃v K',e=.returned v∧gZ K' [.str (ta++tb)] v∧K.le K'∧(∀b o u,b<w0.heap.size→K' b o=some u→K b o=some u)∧BB K' w'∧RowKit.Below w0.heap.size w0 w') a1 w1:=by
 have hF:∀f,Fence.wide.fn f:=fun _=>trivial;have bV:∀{G:Gh} {i:Int},aB (num ns) G (.pv (.int .i64 i)) (.int .i64 i):=by intros;simp[aB,Rel,R]
 obtain⟨s1a,s1b,s1c⟩:=s1;refine wpIn_seq (wpIn_region_list ?_);refine hZ (w':=w1.alloc (.cells #[.pointer none,.slice none 0 0] D.T)) (v:=.pointer (some ⟨w1.heap.size,0,none⟩)) (mO (P:=P) D.N_.1 (by simp)) D.N_.2.2 ?_ ?_
 · have h1:=D.N_.1;have h2:=D.hz;cases hi:P.info? D.T with
   |none=>simp[hi]at h2
   |some inf=>
     simp[hi]at h2;have hz:(zeroValue D.T).run P w1=.ok (.agg #[.pointer none,.slice none 0 0]) w1:=by simp[zeroValue,typeInfo,hi,h2]
     have h3:=K6 (E:=a1.eval) D.N_.1;rw[h3];simp only[Instr.alloc,Sem.run_bind,hz,Result.andThen_ok,gX,Sem.run_pure];rfl
 rw[D.N_.2.1]
 change (Code.seq (.seq (.region D.i2 _ false) _) _).wpIn Fence.wide 0 P _ _ _
 have hW2:Wd D.T D.E w1.heap.size w1.heap.size [] w1 (w1.alloc (.cells #[.pointer none,.slice none 0 0] D.T)):=
   ⟨(RowKit.Below.refl _ _).alloc (Nat.le_refl _) _,((RowKit.Below.refl w1.heap.size w1).alloc (Nat.le_refl _) _).size,Lib.fresh_isBuilder D.T D.E w1⟩
 generalize w1.alloc (.cells #[.pointer none,.slice none 0 0] D.T)=w2 at hW2⊢
 have s2:∀a2:Act,a2=a1.put (some 3) (.pointer (some ⟨w1.heap.size,0,none⟩))→a2.tmps.size=31∧a2.defers=[]∧a2.tmps[1]?=some (.pointer (some ⟨w0.heap.size,0,none⟩))∧a2.tmps[3]?=some (.pointer (some ⟨w1.heap.size,0,none⟩)):=by
   rintro a2 rfl
   refine⟨by simp[Act.put,s1a],s1b,?_,by simp[Act.put,s1a]⟩;simp only[Act.put];rw[Array.getElem?_setIfInBounds_ne (by decide)];exact s1c
 obtain⟨s2a,s2b,s2c,s2d⟩:=s2 _ rfl;generalize a1.put (some 3) (.pointer (some ⟨w1.heap.size,0,none⟩))=a2 at s2a s2b s2c s2d⊢;have hB1:w0.heap.size≤w1.heap.size:=by omega
 have iL:∀{acc:List UInt8} {w:World},Wd D.T D.E w1.heap.size w1.heap.size acc w1 w→BB K w:=fun hW=>hK.below (h01.trans (hW.below.mono hB1));have pinw:∀{acc:List UInt8} {w:World},Wd D.T D.E w1.heap.size w1.heap.size acc w1 w→nD ns.jX w:=fun hW=>hpin.below (h01.trans (hW.below.mono hB1))
 have boxAt:∀{acc:List UInt8} {w:World},Wd D.T D.E w1.heap.size w1.heap.size acc w1 w→w.heap[w0.heap.size]?=some (.cells #[vd,vb] D.Tp (0,0)):=fun hW=>(hW.below.block _ (by omega)).trans hbx1
 have hrel:aw (num ns) (Jb K) [.pv (.au ds),.pv (.au bs)] [vd,vb]:=by
   simp only[aw,aB];exact⟨vd,[vb],rfl,hvd,vb,[],rfl,hvb,rfl⟩
 refine wpIn_seq (wpIn_seq (wpIn_region_list ?_));have hl2:(D.fa::D.ld::D.r2).toArray.toList=D.fa::D.ld::D.r2:=by simp
 rw[hl2];refine hZ (w':=w2) (v:=.pointer (some ⟨w0.heap.size,0,none⟩)) (mO (P:=P) D.RX.1 (by simp)) D.RX.2.2 ?_ ?_
 ·have h1:=D.RX.1;obtain⟨k1,k2,k3,k4⟩:=D.Wh;have h2:=im (P:=P) (w:=w2) k1 k3 k4 w0.heap.size 0;rw[k2]at h2;have h3:=AL (E:=a2.eval) D.RX.1;have h4:a2.eval (.tmp 1)=.pointer (some ⟨w0.heap.size,0,none⟩):=(by simp[Act.eval,s2c]);rw[h3,h4];simp only[Sem.run_bind,h2,Result.andThen_ok,Sem.run_pure]
 rw[D.RX.2.1];obtain⟨u9,g9,r9⟩:=fe (ns:=ns) (w:=w2) (off:=0) (x:=.pv (.au ds)) D.VH.1 D.VH.2 rfl hrel (fR (boxAt hW2));refine hZ (w':=w2) (v:=u9) (mO (P:=P) D.RY.1 (by simp)) D.RY.2.2 ?_ ?_
 ·have h1:=D.RY.1;have h3:=EZ (E:=(a2.put (some 8) (.pointer (some ⟨w0.heap.size,0,none⟩))).eval) D.RY.1;have h4:(a2.put (some 8) (.pointer (some ⟨w0.heap.size,0,none⟩))).eval (.tmp 8)=.pointer (some ⟨w0.heap.size,0,none⟩):=(by simp[Act.eval,Act.put,s2a]);rw[h3,h4];simp[Instr.loadAt,Instr.sureAddr,g9]
 rw[D.RY.2.1]
 have s3:∀a3:Act,a3=(a2.put (some 8) (.pointer (some ⟨w0.heap.size,0,none⟩))).put (some 9) u9→a3.tmps.size=31∧a3.defers=[]∧a3.tmps[1]?=some (.pointer (some ⟨w0.heap.size,0,none⟩))∧a3.tmps[3]?=some (.pointer (some ⟨w1.heap.size,0,none⟩))∧a3.tmps[9]?=some u9:=by
   rintro a3 rfl
   refine⟨by simp[Act.put,s2a],s2b,?_,?_,by simp[Act.put,s2a]⟩;all_goals simp only[Act.put];rw[Array.getElem?_setIfInBounds_ne (by decide),Array.getElem?_setIfInBounds_ne (by decide)]
   ·exact s2c
   ·exact s2d
 obtain⟨s3a,s3b,s3c,s3d,s3e⟩:=s3 _ rfl;generalize (a2.put (some 8) (.pointer (some ⟨w0.heap.size,0,none⟩))).put (some 9) u9=a3 at s3a s3b s3c s3d s3e⊢
 have hs3:=nr (ns:=ns) (env:=[(9,.pv (.au ds))]) (pinw hW2) (iL hW2) s3a s3b (by
   intro t x hx;simp only[look]at hx;split at hx
   ·rename_i e;subst e;cases hx;exact⟨_,s3e,r9⟩
   ·cases hx)
 refine eG (ro:=none) hB horc D.c2 hs3 (K_ (by decide) (by decide) (by decide)) fun G4 a4 W4 hs4 he4 hd4' hk4=>?_;obtain⟨v10,h10,r10⟩:=hs4.env.env 10 _ rfl;obtain⟨v11,h11,r11⟩:=hs4.env.env 11 _ rfl;simp[aB,Rel,R]at r10 r11
 have hh4:QZ K ds w1.heap.size w0.heap.size 0 a4:=by
   refine⟨hs4.env.size,hd4'.trans s3b,?_,?_,?_,?_,?_⟩
   ·rw[hk4 1 (by simp)];exact s3c
   ·rw[hk4 3 (by simp)];exact s3d
   ·rw[hk4 9 (by simp)];exact⟨u9,s3e,by simpa only[aB,Jb] using r9⟩
   ·rw[h10,r10]
   ·rw[h11,r11];simp
 change (Code.block D.b0 _).wpIn Fence.wide 0 P _ a4 W4
 refine wpIn_block (wpIn_loop_rounds (ds.length+1) ?_);refine K8 hB horc D hpin hK h01 hB1 hd1 hd3 hlen ds.length 0 a4 W4 [] ta (by omega) (by omega) hh4 (hW2.qA he4) ha ⟨tb,by simp⟩ fun a5 W5 hh5 hW5=>?_;rw[List.nil_append]at hW5
 change (Code.seq (.seq (.region D.i7 _ false) _) _).wpIn Fence.wide 0 P _ a5 W5
 refine wpIn_seq (wpIn_seq (wpIn_region_list ?_));have hl7:(D.N8::D.N9::D.r7).toArray.toList=D.N8::D.N9::D.r7:=by simp
 rw[hl7];refine hZ (w':=W5) (v:=.pointer (some ⟨w0.heap.size,1,none⟩)) (mO (P:=P) D.Im.1 (by simp)) D.Im.2.2 ?_ ?_
 ·have h1:=D.Im.1;obtain⟨k1,k2,k3,k4⟩:=D.SZ;have h2:=im (P:=P) (w:=W5) k1 k3 k4 w0.heap.size 0;rw[k2]at h2;have h3:=AL (E:=a5.eval) D.Im.1;have h4:a5.eval (.tmp 1)=.pointer (some ⟨w0.heap.size,0,none⟩):=(by simp[Act.eval,hh5.p1]);rw[h3,h4];simp only[Sem.run_bind,h2,Result.andThen_ok,Sem.run_pure]
 rw[D.Im.2.1];obtain⟨u20,g20,r20⟩:=fe (ns:=ns) (w:=W5) (off:=1) (x:=.pv (.au bs)) D.RS.1 D.RS.2 rfl hrel (fR (boxAt hW5));refine hZ (w':=W5) (v:=u20) (mO (P:=P) D.Io.1 (by simp)) D.Io.2.2 ?_ ?_
 ·have h1:=D.Io.1;have h3:=EZ (E:=(a5.put (some 19) (.pointer (some ⟨w0.heap.size,1,none⟩))).eval) D.Io.1;have h4:(a5.put (some 19) (.pointer (some ⟨w0.heap.size,1,none⟩))).eval (.tmp 19)=.pointer (some ⟨w0.heap.size,1,none⟩):=(by simp[Act.eval,Act.put,hh5.size]);rw[h3,h4];simp[Instr.loadAt,Instr.sureAddr,g20]
 rw[D.Io.2.1]
 have s6:∀a6:Act,a6=(a5.put (some 19) (.pointer (some ⟨w0.heap.size,1,none⟩))).put (some 20) u20→a6.tmps.size=31∧a6.defers=[]∧a6.tmps[1]?=some (.pointer (some ⟨w0.heap.size,0,none⟩))∧a6.tmps[3]?=some (.pointer (some ⟨w1.heap.size,0,none⟩))∧a6.tmps[20]?=some u20:=by
   rintro a6 rfl
   refine⟨by simp[Act.put,hh5.size],hh5.defers,?_,?_,by simp[Act.put,hh5.size]⟩;all_goals simp only[Act.put];rw[Array.getElem?_setIfInBounds_ne (by decide),Array.getElem?_setIfInBounds_ne (by decide)]
   ·exact hh5.p1
   ·exact hh5.p3
 obtain⟨s6a,s6b,s6c,s6d,s6e⟩:=s6 _ rfl;generalize (a5.put (some 19) (.pointer (some ⟨w0.heap.size,1,none⟩))).put (some 20) u20=a6 at s6a s6b s6c s6d s6e⊢
 have hs6:=nr (ns:=ns) (env:=[(20,.pv (.au bs))]) (pinw hW5) (iL hW5) s6a s6b (by
   intro t x hx;simp only[look]at hx;split at hx
   ·rename_i e;subst e;cases hx;exact⟨_,s6e,r20⟩
   ·cases hx)
 refine eG (ro:=none) hB horc D.c7 hs6 (K_ (by decide) (by decide) (by decide)) fun G7 a7 W7 hs7 he7 hd7' hk7=>?_;obtain⟨v21,h21,r21⟩:=hs7.env.env 21 _ rfl;obtain⟨v22,h22,r22⟩:=hs7.env.env 22 _ rfl;simp[aB,Rel,R]at r21 r22
 have hh7:Q0 K bs w1.heap.size w0.heap.size 0 a7:=by
   refine⟨hs7.env.size,hd7'.trans s6b,?_,?_,?_,?_,?_⟩
   ·rw[hk7 1 (by simp)];exact s6c
   ·rw[hk7 3 (by simp)];exact s6d
   ·rw[hk7 20 (by simp)];exact⟨u20,s6e,by simpa only[aB,Jb] using r20⟩
   ·rw[h21,r21]
   ·rw[h22,r22];simp
 change (Code.block D.b2 _).wpIn Fence.wide 0 P _ a7 W7
 refine wpIn_block (wpIn_loop_rounds (bs.length+1) ?_);refine K9 hB horc D hpin hK h01 hB1 hd2 hd4 hlen bs.length 0 a7 W7 ta tb (by omega) (by omega) hh7 (hW5.qA he7) hb ⟨[],by simp⟩ fun a8 W8 hh8 hW8=>?_
 change (Code.seq (.region D.Vf _ false) .ret).wpIn Fence.wide 0 P _ a8 W8
 refine wpIn_seq (wpIn_region_list ?_);refine qd D.vh.1 D.vh.2.2 D.S4 ?_;have hargs:(#[.tmp 3]:Array Operand).map a8.eval=#[.pointer (some ⟨w1.heap.size,0,none⟩)]:=by simp[Act.eval,hh8.p3]
 rw[hargs];refine (D.read w1.heap.size w1.heap.size (ta++tb) W8 hW8.Vc hW8.le).mono ?_
 rintro e w9 ⟨rfl,hbel⟩
 refine⟨_,rfl,?_⟩;refine gj hF D.RR.1 D.RR.2.2 ?_;rw[D.vh.2.1,D.RR.2.1]
 change (Code.ret).wpIn Fence.wide 0 P _ _ _
 refine wpIn_ret ?_;refine⟨hh8.defers,.string ⟨(ta++tb).toArray⟩,?_,?_⟩
 ·simp[results,D.gW,Act.put,Act.eval,hh8.size]
 ·have hbel0:RowKit.Below w0.heap.size w0 w9:=h01.trans ((hW8.below.trans hbel).mono hB1);exact⟨_,K,rfl,by simp[gZ,Rel,R],K.le_refl,fun _ _ _ _ h=>h,hK.below hbel0,hbel0⟩
theorem Ip{orc:dX}(hB:eK P ns)(horc:gi P ns orc){f gd gb:Nat}(D:oZ P ns f gd gb){cV rs:List PV}(h:vS gd gb orc.p cV=some rs):vj P ns f cV rs:=by
 unfold vS at h;split at h
 · rename_i ds bs;rw[Option.ite_none_right_eq_some]at h;obtain⟨⟨hd1,hd2,hd3,hd4⟩,h⟩:=h;split at h
   · rename_i ta tb ha hb;simp only[Option.ite_none_right_eq_some,Option.some.injEq]at h;obtain⟨hlen,rfl⟩:=h;intro K w0 vs hpin hK hr;simp only[ja]at hr;obtain⟨v0,r0,rfl,hv0,rfl⟩:=hr;obtain⟨us,rfl,hus⟩:=hv0;simp only[dF]at hus;obtain⟨vd,r1,rfl,hvd,vb,r2,rfl,hvb,rfl⟩:=hus;refine callsIn_wide (n:=0).1 ?_;refine callsIn_of_wp D.hf D.tH trivial ?_ rfl;rw[D.hN];have hF:∀f,Fence.wide.fn f:=fun _=>trivial
     have bV:∀{G:Gh} {i:Int},aB (num ns) G (.pv (.int .i64 i)) (.int .i64 i):=by intros;simp[aB,Rel,R]
     refine wpIn_seq (wpIn_region_list ?_);refine hZ (w':=w0.alloc (.cells #[vd,vb] D.Tp)) (v:=.pointer (some ⟨w0.heap.size,0,none⟩)) (mO (P:=P) D.SY.1 (by simp)) D.SY.2.2 ?_ ?_
     ·have he:Act.eval { tmps:=(#[Value.agg [vd,vb].toArray]:Array Value)++Array.replicate (31-(#[Value.agg [vd,vb].toArray]:Array Value).size) undef,defers:=[] } (.tmp 0)=.agg #[vd,vb]:=(by simp[Act.eval]);rw[QX D.SY.1,he];simp only[Instr.box,Sem.run_bind,gX,Result.andThen_ok,Sem.run_pure];rfl
     refine gj hF D.QP.1 D.QP.2.2 ?_;rw[D.SY.2.1,D.QP.2.1];have hw1s:(w0.alloc (.cells #[vd,vb] D.Tp)).heap.size=w0.heap.size+1:=Array.size_push _;have hbx1:(w0.alloc (.cells #[vd,vb] D.Tp)).heap[w0.heap.size]?=some (.cells #[vd,vb] D.Tp (0,0)):=heap_alloc_new;have h01:RowKit.Below w0.heap.size w0 (w0.alloc (.cells #[vd,vb] D.Tp)):=(RowKit.Below.refl _ _).alloc (Nat.le_refl _) _;generalize w0.alloc (.cells #[vd,vb] D.Tp)=w1 at hw1s hbx1 h01⊢
     change (Code.seq (.region D.i1 #[D.al] false) _).wpIn Fence.wide 0 P _ _ _
     have s1:∀(a1:Act),a1=((Act.put { tmps:=(#[Value.agg [vd,vb].toArray]:Array Value)++Array.replicate (31-(#[Value.agg [vd,vb].toArray]:Array Value).size) undef,defers:=[] } (some 1) (.pointer (some ⟨w0.heap.size,0,none⟩))).put (some 2) (.string ⟨#[]⟩)) →
         a1.tmps.size=31∧a1.defers=[]∧a1.tmps[1]?=some (.pointer (some ⟨w0.heap.size,0,none⟩)):=by
       rintro a1 rfl
       refine⟨by simp[Act.put],rfl,?_⟩;simp[Act.put]
     refine step1 hB horc D hpin hK hw1s hbx1 h01 hd1 hd2 hd3 hd4 hlen hvd hvb ha hb (s1 _ ?_);simp[Act.eval]
   ·cases h
 ·cases h
end
end Go.Ab
