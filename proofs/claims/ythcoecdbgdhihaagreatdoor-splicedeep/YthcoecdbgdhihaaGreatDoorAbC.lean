import Derived.Test.YthcoecdbgdhihaaGreatDoorAbB
import Derived.RangeFuncLeaves
import Derived.RangeFuncRecord
import Derived.WalkKit
import Derived.ProofKit
import Derived.OpenShut
import Derived.Carry
import Derived.Lib.Join
import Derived.Lib.ItoaNum
import Derived.Lib.LaidTab
import Derived.Sort.Grow
import Derived.Deep.Draws
import Derived.Lib.Builder
import Derived.Lib.UnsafeStr
import Derived.Lib.AppendStr
/-
  Functions: n levels of calls of the evaluator are what the model does.
  The pieces of a function's code by their places: for functions that are known by their code's shape.
  From the rows' readings to pure data, and from what the evaluator gives to a law's contract.
  The evaluator for the kernel: what an operation lays is brought to its last form at once. It answers as the evaluator does.
  Functions of Go's library that the kit knows: strings.Join, and strconv.Itoa of small numbers.
  The table that strconv reads, as the rows list it.
  A program's text written through a strings.Builder: what the declarations' and the bindings' texts are, one after another.
-/
set_option linter.unusedVariables false
set_option linter.unusedSimpArgs false
set_option linter.unnecessarySimpa false
set_option maxRecDepth 100000
set_option maxHeartbeats 8000000
namespace Go.Ab
section
variable {P:Program} {ns:Names} {G:Gh} {w:World}
theorem pP:∀{l:List AV} {i t:Nat} {v:AV},look (bK i l) t=some v→i≤t∧l[t-i]?=some v
 |[],i,t,v,h=>by simp[bK,look]at h
 |x::l,i,t,v,h=>by
   simp only[bK,look]at h;split at h
   ·rename_i e;subst e;cases h;simp
   ·rename_i hne;obtain⟨h1,h2⟩:=pP h;refine⟨by omega,?_⟩;rw[show t-i=(t-(i+1))+1 from by omega];simpa using h2
theorem FI{N:Nat}{args:List AV}{vs:List Value}(hr:aq (num ns) G args vs)(hN:args.length≤N) :
   jH (num ns) G N (bK 0 args) { tmps:=vs.toArray++Array.replicate (N-vs.toArray.size) undef,defers:=[] }:=by
 have hl:=hr.length;refine⟨by simp;omega,fun t x hx=>?_⟩;obtain⟨_,h2⟩:=pP hx;simp only[Nat.sub_zero]at h2;obtain⟨v,h3,h4⟩:=hr.get h2;refine⟨v,?_,h4⟩;rw[Array.getElem?_append_left (by have:=(List.getElem?_eq_some_iff.1 h3).1;simpa using this)];simpa using h3
theorem nJ{n0 N:Nat}{st:St}{a:Act}(hs:fl (num ns) n0 N G st a w){F:ResultVar→Sem Value}(hF1:∀t,F (.tmp t)=pure (a.tmps.getD t undef))(hF2:∀ad t,F (.cell ad t)=(do loadVar t (←asAddr (a.tmps.getD ad undef)))):∀{rvs:List ResultVar} {rs:List mu} {xs:List AV},bP (z5 P) rvs=some rs→dL st rs=some xs →
   ∃vs,(rvs.mapM F).run P w=.ok vs w∧aq (num ns) G xs vs
 |[],rs,xs,hc,hx=>by
   simp[bP]at hc;subst hc;simp[dL]at hx;subst hx;exact⟨[],by simp,by simp[aq]⟩
 |r::rvs,rs,xs,hc,hx=>by
   simp only[bP]at hc;split at hc
   · rename_i ar ars h1 h2;simp at hc;subst hc;simp only[dL]at hx;split at hx
     · rename_i v vs' g1 g2;simp at hx;subst hx;obtain⟨us,k1,k2⟩:=nJ hs hF1 hF2 h2 g2
       have one:∃u,(F r).run P w=.ok u w∧au (num ns) G v u:=by
         cases r with
         |tmp t=>
           simp[z5]at h1;subst h1;simp only[m_]at g1;obtain⟨u,e1,e2⟩:=hs.env.env t v g1;exact⟨u,by rw[hF1];simp[e1],e2⟩
         |cell ad t=>
           simp only[z5]at h1;split at h1
           · rename_i sz ag hsz hag;simp at h1;subst h1;simp only[m_]at g1;split at g1
             · rename_i d e1;split at g1
               ·rename_i cs e2;simp only[Option.ite_none_right_eq_some]at g1;obtain⟨rfl,g1⟩:=g1;obtain⟨u,f1,f2⟩:=hs.env.env _ _ e1;simp only[au]at f2;obtain⟨b,hp,rfl⟩:=f2;obtain⟨b',hp',hblk,_⟩:=hs.inv.cD _ _ e2;rw[hp]at hp';cases hp';obtain⟨_,c,ty,hh,hrel⟩:=hblk;obtain⟨u,q1,q2⟩:=en (w:=w) hsz hag g1 hrel (eJ hh);exact⟨u,by rw[hF2];simp[f1,asAddr,q1],q2⟩
               ·cases g1
             · rename_i s e1;split at g1
               · rename_i cs e2;split at g1
                 ·cases g1
                 ·rename_i hm;obtain⟨u,f1,f2⟩:=hs.env.env _ _ e1;simp only[au]at f2;obtain⟨b,hp,rfl⟩:=f2;obtain⟨b',hp',hblk,_⟩:=hs.inv.cX _ _ e2;rw[hp]at hp';cases hp';obtain⟨_,c,ty,vs,suf,hh,_,hsp,hrel⟩:=hblk.cells (by simpa using hm);obtain⟨u,q1,q2⟩:=en (w:=w) hsz hag g1 hrel (lB hh hsp);exact⟨u,by rw[hF2];simp[f1,asAddr,q1],q2⟩
               ·cases g1
             ·cases g1
           ·simp at h1
       obtain⟨u,o1,o2⟩:=one;refine⟨u::us,?_,?_⟩
       ·rw[List.mapM_cons];simp only[Sem.run_bind];rw[o1];simp only[Result.andThen_ok];rw[k1];rfl
       ·simp only[aq];exact⟨u,us,rfl,o2,k2⟩
     ·simp at hx
   ·simp at hc
theorem la{G':Gh}{sh:Sh}{ks:List Nat}(hle:G.le G')(hf:iu ns G G' sh ks)(hl:∀(s:Nat) (cells:List AV),sh[s]?=some (some cells)→cells.all aP=true)
   {x:AV} {v:Value} (ha:∀s∈dJ x,s∈ks) (h:au (num ns) G x v):au (num ns) G' (oO sh x) v:=by
 unfold oO;split
 ·rename_i p hp;simp only[au];exact o7 hle hf hl ha hp h
 ·exact h.mono hle
theorem FJ{G':Gh}{sh:Sh}{ks:List Nat}(hle:G.le G')(hf:iu ns G G' sh ks)(hl:∀(s:Nat) (cells:List AV),sh[s]?=some (some cells)→cells.all aP=true)
   {x:AV} {v:Value} (ha:aP x=true→∀s∈dJ x,s∈ks) (h:au (num ns) G x v):au (num ns) G' (oP sh x) v:=by
 unfold oP;split
 ·exact h.mono hle
 · split
   ·rename_i hl';exact la hle hf hl (ha hl') h
   ·exact h.mono hle
theorem rk{G':Gh}{sh:Sh}{ks:List Nat}(hle:G.le G')(hf:iu ns G G' sh ks)(hl:∀(s:Nat) (cells:List AV),sh[s]?=some (some cells)→cells.all aP=true) :
   ∀{cs:List AV} {vs:List Value},(∀s∈dJ (.agg cs),s∈ks)→aq (num ns) G cs vs→aq (num ns) G' (cs.map (oP sh)) vs
 |[],vs,_,h=>by simpa[aq] using h
 |c::cs,vs,ha,h=>by
   simp only[aq]at h;obtain⟨v,r,e,e1,e2⟩:=h;simp only[List.map_cons,aq];refine⟨v,r,e,FJ hle hf hl (fun hb s hs=>ha s ?_) e1,rk hle hf hl (fun s hs=>ha s ?_) e2⟩
   ·simp only[dJ,List.flatMap_cons,List.mem_append];left;cases c<;>simp_all[dJ,aP]
   ·simp only[dJ,List.flatMap_cons,List.mem_append]at hs⊢;exact .inr hs
theorem FK{G':Gh}{sh:Sh}{ks:List Nat}(hle:G.le G')(hf:iu ns G G' sh ks)(hl:∀(s:Nat) (cells:List AV),sh[s]?=some (some cells)→cells.all aP=true)
   {x:AV} {v:Value} (ha:∀s∈dJ x,s∈ks) (h:au (num ns) G x v):au (num ns) G' (tZ sh x) v:=by
 unfold tZ;split
 ·exact h.mono hle
 ·exact h.mono hle
 ·simp only[au]at h⊢;obtain⟨vs,e,r⟩:=h;exact⟨vs,e,rk hle hf hl ha r⟩
 ·exact la hle hf hl ha h
theorem lb{G':Gh}{sh:Sh}{ks:List Nat}{F:Sh→AV→AV}(hF:∀{x:AV} {v:Value},(∀s∈dJ x,s∈ks)→au (num ns) G x v→au (num ns) G' (F sh x) v) :
   ∀{xs:List AV} {vs:List Value},(∀s∈xs.flatMap dJ,s∈ks)→aq (num ns) G xs vs→aq (num ns) G' (xs.map (F sh)) vs
 |[],vs,_,h=>by simpa[aq] using h
 |x::xs,vs,ha,h=>by
   simp only[aq]at h;obtain⟨v,r,e,e1,e2⟩:=h;simp only[List.flatMap_cons,List.mem_append]at ha;simp only[List.map_cons,aq];exact⟨v,r,e,hF (fun s hs=>ha s (.inl hs)) e1,lb hF (fun s hs=>ha s (.inr hs)) e2⟩
theorem zm{G':Gh}{sh:Sh}{ks:List Nat}{aR kst:Bool}(hle:G.le G')(hf:iu ns G G' sh ks)(hl:∀(s:Nat) (cells:List AV),sh[s]?=some (some cells)→cells.all aP=true)
   {xs:List AV} {vs:List Value} (ha:∀s∈xs.flatMap dJ,s∈ks) (h:aq (num ns) G xs vs):aq (num ns) G' (bV aR kst sh xs) vs:=by
 unfold bV;split
 · split
   ·exact aq.mono hle h
   ·exact lb (FK hle hf hl) ha h
 ·exact lb (la hle hf hl) ha h
theorem zn{xs:List AV}{vs:List Value}(h:aq (num ns) G xs vs):cG (num ns) G xs (if h:vs.toArray.size=1 then vs.toArray[0] else .tuple vs.toArray):=by
 unfold cG;split
 ·rename_i r;simp only[aq]at h;obtain⟨v,r',e,e1,e2⟩:=h;subst e2;subst e;simpa using e1
 · rename_i hn;have hl:=h.length;rw[dif_neg]
   ·exact⟨vs,rfl,h⟩
   · intro e;simp at e;rw[e]at hl;cases xs with
     |nil=>simp at hl
     |cons x xs=>
       cases xs with
       |nil=>exact hn x rfl
       |cons _ _=>simp at hl
end
mutual
theorem pQ{ρ:bC}{G G':Gh}{n:Nat}(hK:G.K.le G'.K)(hs:∀s b,s<n→G.sm s=some b→G'.sm s=some b):∀{x:AV} {v:Value},bA x=true→aG n x=true→au ρ G x v→au ρ G' x v
 | .pv p,_,_,_,h=>by simp only[au]at h⊢;exact h.mono hK
 | .a_ s o,_,_,hr,h=>by simp[aG]at hr;simp only[au]at h⊢;obtain⟨b,e,r⟩:=h;exact⟨b,hs _ _ hr e,r⟩
 | .aM s _ n _,_,_,hr,h=>by simp[aG]at hr;simp only[au]at h⊢;obtain⟨b,c,e,r⟩:=h;exact⟨b,c,hs _ _ hr e,r⟩
 | .iz,_,_,_,h=>by simpa only[au] using h
 | .iA s,_,_,hr,h=>by simp[aG]at hr;simp only[au]at h⊢;obtain⟨b,e,r⟩:=h;exact⟨b,hs _ _ hr e,r⟩
 | .mo ..,_,hp,_,_=>by simp[bA]at hp
 | .eE _,_,_,_,h=>by simp only[au]at h
 | .fn g cap,_,hp,hr,h=>by
   simp only[bA]at hp;simp only[aG]at hr;simp only[au]at h⊢;obtain⟨f,vs,e1,e2,r⟩:=h;exact⟨f,vs,e1,e2,mP hK hs hp hr r⟩
 | .un,_,hp,_,_=>by simp[bA]at hp
 | .di _,_,_,_,h=>by simp only[au]at h⊢;obtain⟨b,l,e,r⟩:=h;exact⟨b,l,e,r.mono hK⟩
 | .own _ _,_,hp,_,_=>by simp[bA]at hp
 | .agg _,_,hp,hr,h=>by
   simp only[bA]at hp;simp only[aG]at hr;simp only[au]at h⊢;obtain⟨vs,e,r⟩:=h;exact⟨vs,e,mP hK hs hp hr r⟩
 | .m8 _,_,hp,_,_=>by simp[bA]at hp
 | .aK _ _,_,hp,_,_=>by simp[bA]at hp
 | .eD _,_,hp,_,_=>by simp[bA]at hp
theorem mP{ρ:bC}{G G':Gh}{n:Nat}(hK:G.K.le G'.K)(hs:∀s b,s<n→G.sm s=some b→G'.sm s=some b):∀{xs:List AV} {vs:List Value},bA.gr xs=true→aG.cf n xs=true→aq ρ G xs vs→aq ρ G' xs vs
 |[],_,_,_,h=>by simpa only[aq] using h
 |x::xs,_,hp,hr,h=>by
   simp only[bA.gr,Bool.and_eq_true]at hp;simp only[aG.cf,Bool.and_eq_true]at hr;simp only[aq]at h⊢;obtain⟨v,r,e,e1,e2⟩:=h;exact⟨v,r,e,pQ hK hs hp.1 hr.1 e1,mP hK hs hp.2 hr.2 e2⟩
end
section
variable {P:Program} {ns:Names} {G:Gh} {w:World}
theorem pR{ρ:bC}{G':Gh}{n:Nat}(hK:G.K.le G'.K)(hs:∀s b,s<n→G.sm s=some b→G'.sm s=some b)(ht:∀τ t,G.tk τ=some t→G'.tk τ=some t):∀{xs:List AV} {vs:List Value},ee xs=true→aG.cf n xs=true→aq ρ G xs vs→aq ρ G' xs vs
 |[],_,_,_,h=>by simpa only[aq] using h
 |x::xs,_,hp,hr,h=>by
   simp only[ee,Bool.and_eq_true]at hp;simp only[aG.cf,Bool.and_eq_true]at hr;simp only[aq]at h⊢;obtain⟨v,r,e,e1,e2⟩:=h;refine⟨v,r,e,?_,pR hK hs ht hp.2 hr.2 e2⟩;cases x with
   |own l τ=>
     simp only[au]at e1⊢;obtain⟨t,a1,a2,a3,a4⟩:=e1;exact⟨t,ht _ _ a1,a2,a3.mono hK,fun hl=>⟨(a4 hl).1,Hm (a4 hl).2 fun⟨b,o,e,r⟩=>⟨b,o,e,Row.mono hK _ _ _ _ r⟩⟩⟩
   |_=>exact pQ hK hs (show bA _=true from hp.1) hr.1 e1
theorem Dl{ρ:bC}{G':Gh}{n:Nat}(hK:G.K.le G'.K)(hs:∀s b,s<n→G.sm s=some b→G'.sm s=some b)(ht:∀τ t,G.tk τ=some t→G'.tk τ=some t){x:AV}{v:Value}(hp:bu x=true)(hr:aG n x=true)(h:au ρ G x v):au ρ G' x v:=by
 cases x with
 |own l τ=>
   simp only[au]at h⊢;obtain⟨t,e1,e2,e3,e4⟩:=h;exact⟨t,ht _ _ e1,e2,e3.mono hK,fun hl=>⟨(e4 hl).1,Hm (e4 hl).2 fun⟨b,o,e,r⟩=>⟨b,o,e,Row.mono hK _ _ _ _ r⟩⟩⟩
 |agg cs=>
   simp only[aG]at hr;simp only[au]at h⊢;obtain⟨vs,e,r⟩:=h;exact⟨vs,e,pR hK hs ht (by simpa[bu] using hp) hr r⟩
 |_=>exact pQ hK hs (show bA _=true from hp) hr h
theorem lf{ρ:bC}{G':Gh}{n:Nat}(hK:G.K.le G'.K)(hs:∀s b,s<n→G.sm s=some b→G'.sm s=some b)(ht:∀τ t,G.tk τ=some t→G'.tk τ=some t):∀{xs:List AV} {vs:List Value},xs.all bu=true→xs.all (aG n)=true→aq ρ G xs vs→aq ρ G' xs vs
 |[],_,_,_,h=>by simpa only[aq] using h
 |x::xs,_,hp,hr,h=>by
   simp only[List.all_cons,Bool.and_eq_true]at hp hr;simp only[aq]at h⊢;obtain⟨v,r,e,e1,e2⟩:=h;exact⟨v,r,e,Dl hK hs ht hp.1 hr.1 e1,lf hK hs ht hp.2 hr.2 e2⟩
def Gh.bare(G:Gh):Gh:={ G with pm:=fun _=>none,role:=fun b=>match G.role b with| .jw _=>.dQ|r=>r }
theorem Inv.bare{mem:List (Nat×List AV)}{sh:Sh}{ts:aD}(hi:Inv (num ns) G w mem sh ts):Inv (num ns) G.bare w [] sh ts where
 known:=hi.known
 aT:=fun b o v hk=>by
   rcases hi.aT b o v hk with h|⟨τ,h⟩
   ·exact .inl (by simp[Gh.bare,h])
   ·exact .inr ⟨τ,by simp[Gh.bare,h]⟩
 fresh:=fun b hb=>by simp[Gh.bare,hi.fresh b hb]
 cD:=fun d cells h=>by simp[look]at h
 e7:=fun d b h=>by simp[Gh.bare]at h
 cX:=fun s cells hs=>by
   obtain⟨b,e1,e2,e3,e4⟩:=hi.cX s cells hs;obtain⟨hr,o,hh,hrel⟩:=e2;exact⟨b,e1,⟨by simp[Gh.bare,hr],o,hh,hrel.to (fun _ _ _ h=>h) (fun _ e=>e) (fun _ r=>gR (G:=G) (G':=G.bare) (aY.le_refl _) (fun _ _ h=>h) (fun _ _ h=>h) (gB e3) r)⟩,e3,e4⟩
 dT:=hi.dT
 cQ:=fun τ n h=>by
   obtain⟨t,e1,e2,e3⟩:=hi.cQ τ n h;refine⟨t,e1,e2,e3.cap,e3.zero,fun hlt=>?_⟩;obtain⟨b,o,c,ty,f1,f2,f3,f4,f5⟩:=e3.spare hlt;exact⟨b,o,c,ty,f1,by simp[Gh.bare,f2],f3,f4,f5⟩
 ed:=hi.ed
 iF:=fun b c hb=>⟨by simp[Gh.bare,(hi.iF b c hb).1],(hi.iF b c hb).2⟩
def Gh.kD(G:Gh)(n:Nat):Gh:={ G with sm:=fun s=>if s<n then G.sm s else none }
theorem Inv.kD{sh:Sh}{ts:aD}(hi:Inv (num ns) G w [] sh ts)(n:Nat):Inv (num ns) (G.kD n) w [] (sh.take n) ts where
 known:=hi.known
 aT:=hi.aT
 fresh:=hi.fresh
 cD:=fun d cells h=>by simp[look]at h
 e7:=hi.e7
 cX:=fun s cells hs=>by
   rw[List.getElem?_take]at hs;split at hs
   ·rename_i hlt;obtain⟨b,e1,e2,e3,e4⟩:=hi.cX s cells hs;obtain⟨hr,o,hh,hrel⟩:=e2;exact⟨b,by simp[Gh.kD,hlt,e1],⟨hr,o,hh,hrel.to (fun _ _ _ h=>h) (fun _ e=>e) (fun _ r=>lf (G:=G) (G':=G.kD n) (n:=s+1) (aY.le_refl G.K) (fun s' b' hs' h=>by simp only[Gh.kD];rw[if_pos (by omega)];exact h) (fun _ _ h=>h) (gB e3) e4 r)⟩,e3,e4⟩
   ·simp at hs
 dT:=fun s b h=>by
   simp only[Gh.kD]at h;split at h
   ·have:=hi.dT s b h;simp;omega
   ·simp at h
 cQ:=fun τ n h=>by
   obtain⟨t,e1,e2,e3⟩:=hi.cQ τ n h;exact⟨t,e1,e2,e3.cap,e3.zero,e3.spare⟩
 ed:=hi.ed
 iF:=hi.iF
theorem Inv.shut{mem:List (Nat×List AV)}{sh:Sh}{aa:aD}{D:Nat}{x:Option (List Deferred)}(hi:Inv (num ns) G w mem sh aa)(hD:w.heap[D]?=some (.deferred x)) :
   Inv (num ns) G (w.putObj D (.deferred none)) mem sh aa:=by
 have hne:∀{b:Nat} {c:Array Value} {t:TypeId},w.heap[b]?=some (.cells c t (0,0))→(w.putObj D (.deferred none)).heap[b]?=some (.cells c t (0,0)):=by
   intro b c t h;rw[World.putObj_heap_other]
   ·exact h
   ·rintro rfl;rw[hD]at h;cases h
 have hsize:(w.putObj D (.deferred none)).heap.size=w.heap.size:=by simp[World.putObj]
 refine { hi with known:=?_,fresh:=?_,cD:=?_,cX:=?_,cQ:=?_,iF:=?_ }
 · intro b o v hk;have h:=hi.known b o v hk;rw[←h];have:b≠D:=by rintro rfl;simp[World.cell?,hD]at h
   simp only[World.cell?,World.putObj_heap_other this]
 ·intro b hb;exact hi.fresh b (by omega)
 ·intro k cs hk;obtain⟨b,e1,⟨e2,c,t,e3,e4⟩,e5⟩:=hi.cD k cs hk;exact⟨b,e1,⟨e2,c,t,hne e3,e4⟩,e5⟩
 · intro k cs hk;obtain⟨b,e1,⟨e2,o,e3,e4⟩,e5⟩:=hi.cX k cs hk;refine⟨b,e1,⟨e2,o,?_,e4⟩,e5⟩;rw[World.putObj_heap_other]
   ·exact e3
   · rintro rfl
     rw[hD]at e3;cases e3;rcases e4 with⟨_,_,_,_,h,_⟩|⟨_,_,_,h,_⟩<;>cases h
 ·intro τ n hn;obtain⟨t,e1,e2,e3⟩:=hi.cQ τ n hn;refine⟨t,e1,e2,e3.cap,e3.zero,fun hlt=>?_⟩;obtain⟨b,o,c,ty,f1,f2,f3,f4,f5⟩:=e3.spare hlt;exact⟨b,o,c,ty,f1,f2,hne f3,f4,f5⟩
 · intro b c hb;obtain⟨h1,t',z,h2⟩:=hi.iF b c hb;refine⟨h1,t',z,?_⟩;rw[World.putObj_heap_other]
   ·exact h2
   ·rintro rfl;rw[hD]at h2;cases h2
theorem bw.shut{G':Gh}{w':World}{D:Nat}(he:bw G w G' w')(hD:w.heap.size≤D):bw G w G' (w'.putObj D (.deferred none)):=
 { he with
   size:=by simpa[World.putObj] using he.size
   os:=by simpa[World.putObj] using he.os
   tape:=by simpa[World.putObj] using he.tape
   output:=by simpa[World.putObj] using he.output
   dQ:=fun b hb hr=>by
     obtain⟨h1,h2⟩:=he.dQ b hb hr;exact⟨h1,by rw[World.putObj_heap_other (by omega)];exact h2⟩ }
theorem nK{fn:Func}{tmps:Array Value}{R:Ending→World→Prop}{mem:List (Nat×List AV)}{sh:Sh}{aa:aD}{G':Gh}:∀(Ds:List Nat) (w':World),Inv (num ns) G' w' mem sh aa→bw G w G' w'→Ds.Nodup →
   (∀D∈Ds,w.heap.size≤D∧w'.heap[D]?=some (.deferred (some []))) →
   (∀w'',Inv (num ns) G' w'' mem sh aa→bw G w G' w''→∃v,(results fn tmps).run P w''=.ok v w''∧R (.returned v) w'') →
   LeavesInM Fence.wide 0 P fn tmps R (Ds.map (fun D=>{ target:=.collected D,args:=#[] })) .returning w'
 |[],w',hi,he,_,_,h=>h w' hi he
 |D::Ds,w',hi,he,hn,hD,h=>by
   obtain⟨h1,h2⟩:=hD D (by simp);refine⟨by simp,.inl ⟨D,_,rfl,run_takeDeferred h2,?_⟩⟩;simp only[List.nodup_cons]at hn;refine nK Ds _ (hi.shut h2) (he.shut h1) hn.2 (fun E hE=>?_) h;obtain⟨g1,g2⟩:=hD E (by simp[hE]);refine⟨g1,?_⟩;rw[World.putObj_heap_other]
   ·exact g2
   ·rintro rfl;exact hn.1 hE
theorem pS(hm:P.follows .mixedOrders=true)(hB:d5 P ns)(hBk:oD P ns){orc:dD}(horc:eQ P ns orc){A:iy}{k f:Nat}{aR:Bool}{fn:Func}{af:aA}(hf:P.funcs[f]?=some fn)(hc:lA P ns A fn=some af)
   {args rs:List AV} {vs:List Value} {sh sh':Sh} {ts ts':aD} (hi:Inv (num ns) G w [] sh ts) (hr:aq (num ns) G args vs) (hN:args.length≤af.ntmps) (h:bL orc k aR af args sh ts=some (rs,sh',ts')) :
   (Calls P f vs.toArray w fun e w'=>∃v G',e=.returned v∧cG (num ns) G' rs v∧Inv (num ns) G' w' [] sh' ts'∧bw G w G' w')∧rs.all bu=true:=by
 unfold lA at hc;split at hc
 · rename_i c ars pN fx;simp only[Option.ite_none_right_eq_some,Option.map_eq_some_iff]at hc;obtain⟨_,ac,hcc,rfl⟩:=hc;unfold bL at h;split at h
   · rename_i e st hev;simp only[Option.ite_none_right_eq_some]at h;obtain⟨he,h⟩:=h;split at h
     · rename_i xs hxs;simp only[Option.ite_none_right_eq_some]at h;obtain⟨hpass,h⟩:=h;let kst:=A.ks;let shk:Sh:=d6 aR kst st.sh xs;let I1:Sh:=if (bV aR kst st.sh xs).all (aG sh.length)=true then shk.take sh.length else shk;have h:some ((cC st.aa (bV aR kst st.sh xs) I1).1,(cC st.aa (bV aR kst st.sh xs) I1).2.1,(cC st.aa (bV aR kst st.sh xs) I1).2.2.2)=some (rs,sh',ts'):=h;simp only[Option.some.injEq,Prod.mk.injEq]at h;obtain⟨Kb,hsh,hts⟩:=h;have hpass':rs.all bu=true:=by rw[←Kb];exact f_ hpass
       refine⟨?_,hpass'⟩;refine callsIn_wide (n:=0).1 (callsIn_of_wp_marks hf pN trivial ?_ rfl);have hs0:fl (num ns) w.heap.size fn.ntmps G { env:=bK 0 args,mem:=[],sh,aa:=ts } { tmps:=vs.toArray++Array.replicate (fn.ntmps-vs.toArray.size) undef,defers:=[] } w:=⟨FI hr hN,hi,Nat.le_refl _,[],rfl,by simp,by simp⟩;refine gD (ro:=none) hm hB horc hBk hcc (.inl rfl) hev hs0 fun G' a' w1 hs1 hevo1=>?_
       have key:LeavesInM Fence.wide 0 P fn a'.tmps (fun e w'=>∃v G',e=.returned v∧cG (num ns) G' rs v∧Inv (num ns) G' w' [] sh' ts'∧bw G w G' w') a'.defers .returning w1:=by
         obtain⟨m0,Ds,m1,m2,m3⟩:=hs1.marks;rw[m1];refine nK Ds w1 hs1.inv hevo1 m2 (fun D hD=>⟨(m3 D hD).1,(m3 D hD).2.2.2⟩) ?_;intro w' hi' hevo;have hs':fl (num ns) w.heap.size fn.ntmps G' st { tmps:=a'.tmps,defers:=[] } w':=⟨⟨hs1.env.size,hs1.env.env⟩,hi',hevo.size,[],rfl,by simp,by simp⟩;obtain⟨us,u1,u2⟩:=nJ (P:=P) hs' (F:=fun| .tmp t=>pure (a'.tmps.getD t undef)| .cell ad t=>do loadVar t (←asAddr (a'.tmps.getD ad undef))) (fun _=>rfl) (fun _ _=>rfl) fx hxs;refine⟨(if h:us.toArray.size=1 then us.toArray[0] else .tuple us.toArray),?_,?_⟩
         · unfold results;rw[Array.mapM_eq_mapM_toList];simp only[Sem.run_bind,Sem.run_map]
           erw [u1]
           rfl
         · obtain⟨G1,k1,k2,k3,hout⟩:∃G1,Inv (num ns) G1 w' st.mem shk st.aa∧G'.le G1∧bw G' w' G1 w'∧aq (num ns) G1 (bV aR kst st.sh xs) us:=by
             by_cases hkk:(aR && kst)=true
             · refine⟨G',?_,Gh.le_refl _,bw.refl _ _,?_⟩
               · have:shk=st.sh:=by simp only[shk,d6,hkk,if_true]
                 rw[this];exact hs'.inv
               · have:bV aR kst st.sh xs=xs:=by
                   simp only[Bool.and_eq_true]at hkk;simp only[bV,hkk.1,hkk.2,if_true]
                 rw[this];exact u2
             · obtain⟨G1,k1,k2,k3,k4,k5⟩:=Inv.kill (xs.flatMap dJ) hs'.inv;refine⟨G1,?_,k2,k3,zm (aR:=aR) k2 k4 hs'.inv.o_ (fun s hs=>hs) u2⟩
               have:shk=cd st.sh xs:=by
                 simp only[shk,d6];rw[if_neg hkk]
               rw[this];exact k1
           have hbare:=gR (G:=G1) (G':=G1.bare) (aY.le_refl _) (fun _ _ h=>h) (fun _ _ h=>h) hpass hout;have k1b:=k1.bare;have hevo0:=hevo.trans k3
           obtain⟨G2,i2,r2,e2⟩:∃G2,Inv (num ns) G2 w' [] I1 st.aa∧aq (num ns) G2 (bV aR kst st.sh xs) us∧bw G w G2 w':=by
             have bareEvo:bw G w G1.bare w':={
               size:=hevo0.size,os:=hevo0.os,tape:=hevo0.tape,output:=hevo0.output,K:=hevo0.K,sm:=hevo0.sm,
               dQ:=fun b hb hr=>⟨by simp[Gh.bare,(hevo0.dQ b hb hr).1],(hevo0.dQ b hb hr).2⟩
               gp:=fun b τ hb hr=>by
                 rcases hevo0.gp b τ hb hr with h|⟨τ',h⟩
                 ·exact .inl (by simp[Gh.bare,h])
                 ·exact .inr ⟨τ',by simp[Gh.bare,h]⟩
               e8:=hevo0.e8 }
             by_cases href:(bV aR kst st.sh xs).all (aG sh.length)=true
             · have hshd:I1=shk.take sh.length:=if_pos href;rw[hshd];refine⟨G1.bare.kD sh.length,k1b.kD sh.length,lf (G:=G1.bare) (G':=G1.bare.kD sh.length) (n:=sh.length) (aY.le_refl _) (fun s b hs h=>by simp only[Gh.kD];rw[if_pos hs];exact h) (fun _ _ h=>h) hpass href hbare,?_⟩
               exact { size:=bareEvo.size,os:=bareEvo.os,tape:=bareEvo.tape,output:=bareEvo.output,K:=bareEvo.K,
                       sm:=fun s b hsb=>by
                         have:=hi.dT s b hsb;show (if s<sh.length then G1.sm s else none)=some b;rw[if_pos this];exact bareEvo.sm s b hsb
                       dQ:=bareEvo.dQ,gp:=bareEvo.gp,e8:=bareEvo.e8 }
             ·have hshd:I1=shk:=if_neg href;rw[hshd];exact⟨G1.bare,k1b,hbare,bareEvo⟩
           obtain⟨m,tks,hNS,hto,hrel⟩:=i2.Hh hpass r2;rw[Kb]at hrel;rw[hsh,hts]at hto;exact⟨_,G2.to m tks,rfl,zn hrel,hto,e2.to m tks⟩
       cases e with
       |normal=>exact key
       |ret=>exact key
       |exit id=>simp at he
     ·simp at h
   ·simp at h
 ·simp at hc
theorem qF{orc:dD}{k:Nat}{aR:Bool}{af:aA}{args rs:List AV}{sh sh':Sh}{ts ts':aD}(h:bL orc k aR af args sh ts=some (rs,sh',ts')):rs.all bu=true:=by
 unfold bL at h;split at h
 · split at h
   · split at h
     ·simp only[Option.ite_none_right_eq_some]at h;obtain⟨hp,h⟩:=h;have e:=congrArg Prod.fst (Option.some.inj h);dsimp only at e;rw[←e];exact f_ hp
     ·simp at h
   ·simp at h
 ·simp at h
structure Impl(P:Program)(ns:Names)(AP:Nat→Option aA):Prop where
 mixed:P.follows .mixedOrders=true
 funcs:∀f g,ns.of f=some g→(∃fn A af,P.funcs[f]?=some fn∧lA P ns A fn=some af∧AP g=some af) ∨
   ((∃fn b,P.funcs[f]?=some fn∧fn.body=some b∧fn.name ≠ "runtime.NumGoroutine") ∧
     (AP g=none∨∃af pf,AP g=some af∧af.mw=some pf∧af.body=.exit 0∧∀orc,eQ P ns orc→∀cI rs,pf.f orc.p cI=some rs→qM P ns f cI rs))
 DZ:oD P ns
 Kc:∀g sz bytes f,look ns.cl g=some (sz,bytes)→ns.of f=some g→Nonempty (ga P ns f sz bytes)
theorem Impl.s7{AP:Nat→Option aA}(h:Impl P ns AP):d5 P ns:=by
 intro f g hg;rcases h.funcs f g hg with⟨fn,A,af,h1,h2,_⟩|⟨⟨fn,b,h1,h2,h3⟩,_⟩
 · unfold lA at h2;split at h2
   ·rename_i b rs hb _;simp only[Option.ite_none_right_eq_some]at h2;obtain⟨⟨_,hn⟩,_⟩:=h2;exact⟨fn,b,h1,hb,by simpa using hn⟩
   ·simp at h2
 ·exact⟨fn,b,h1,h2,h3⟩
theorem zo{A:iy}{fn:Func}{af:aA}(h:lA P ns A fn=some af):af.mw=none:=by
 unfold lA at h;split at h
 ·simp only[Option.ite_none_right_eq_some,Option.map_eq_some_iff]at h;obtain⟨_,_,_,rfl⟩:=h;rfl
 ·simp at h
theorem pT:∀{rs:List AV} {ps:List PV},eB rs=some ps→rs=ps.map .pv
 |[],ps,h=>by simp[eB]at h;subst h;rfl
 |x::rs,ps,h=>by
   cases x with
   |pv p=>
     simp only[eB,Option.map_eq_some_iff]at h;obtain⟨qs,h1,rfl⟩:=h;simp[pT h1]
   |_=>simp[eB]at h
theorem nL:∀{ps:List PV} {vs:List Value},aq (num ns) G (ps.map .pv) vs→gI G.K ps vs
 |[],vs,h=>by simp only[List.map_nil,aq]at h;exact h
 |p::ps,vs,h=>by
   simp only[List.map_cons,aq]at h;obtain⟨v,r,e,e1,e2⟩:=h;simp only[au]at e1;exact⟨v,r,e,e1,nL e2⟩
theorem Dm{ps:List PV}{v:Value}(h:cG (num ns) G (ps.map .pv) v):fD G.K ps v:=by
 unfold fD;split
 ·rename_i p;simp only[List.map_cons,List.map_nil,cG,au]at h;exact h
 · rename_i hn;unfold cG at h;split at h
   · rename_i r e;cases ps with
     |nil=>simp at e
     |cons q qs=>
       cases qs with
       |nil=>exact absurd rfl (hn q)
       |cons _ _=>simp at e
   ·obtain⟨vs,e,h⟩:=h;exact⟨vs,e,nL h⟩
theorem rl{AP:Nat→Option aA}(hI:Impl P ns AP)(k:Nat):∀n,eQ P ns (run AP k n)
 |0=>⟨fun g f cI rs _ h=>by simp[run]at h,fun g f args ts rs sh sh' ts' _ _ h=>by simp[run]at h,fun g sz by_ f h1 h2=>(hI.Kc g sz by_ f h1 h2).elim vY⟩
 |n+1=>by
   have ih:=rl hI k n;refine⟨fun g f cI rs hg h=>?_,fun g f args ts rs sh sh' ts' hg hp h=>?_,ih.c⟩
   · rcases hI.funcs f g hg with⟨fn,A,af,h1,h2,h3⟩|⟨_,h3|⟨af,pf,h3,h4,_,h5⟩⟩
     · simp only[run,h3,zo h2,Option.ite_none_right_eq_some]at h;obtain⟨⟨_,hN⟩,h⟩:=h;split at h
       · rename_i xs x2 hb;obtain⟨sh',ts'⟩:=x2;have hxs:=pT h;subst hxs;intro K w vs hpin hK hr;let G0:Gh:={ K,role:=fun _=>.dQ,pm:=fun _=>none,sm:=fun _=>none,tk:=fun _=>none }
         have hi:Inv (num ns) G0 w [] [] []:={
           known:=hK,aT:=fun _ _ _ _=>.inl rfl,fresh:=fun _ _=>rfl,cD:=fun d c h=>by simp[look]at h,e7:=fun d b h=>by simp[G0]at h,
           cX:=fun s c h=>by simp at h,dT:=fun s b h=>by simp[G0]at h,cQ:=fun τ n h=>by simp at h,ed:=fun τ t h=>by simp[G0]at h,iF:=fun b c hb=>⟨rfl,hpin b c hb⟩ }
         have hC:=(pS hI.mixed hI.s7 hI.DZ ih h1 h2 hi (eI (ρ:=num ns) (G:=G0) hr) (by simpa using hN) hb).1;refine hC.mono ?_
         rintro e w' ⟨v,G',rfl,fx,hi',hevo⟩
         refine⟨v,G'.K,rfl,Dm fx,hevo.K,fun b o u hb hk=>hevo.e8 b o u hb rfl hk,hi'.known,⟨hevo.os,hevo.tape,hevo.output,hevo.size,fun b hb=>(hevo.dQ b hb rfl).2⟩⟩
       ·simp at h
     ·simp only[run,h3]at h;cases h
     ·simp only[run,h3,h4]at h;exact h5 _ ih _ _ h
   · rcases hI.funcs f g hg with⟨fn,A,af,h1,h2,h3⟩|⟨_,h3|⟨af,pf,h3,_,h4,_⟩⟩
     ·simp only[run,h3,Option.ite_none_right_eq_some]at h;obtain⟨hN,h⟩:=h;exact⟨fun G w vs hi hr=>(pS hI.mixed hI.s7 hI.DZ ih h1 h2 hi hr hN h).1,qF h⟩
     ·simp only[run,h3]at h;cases h
     ·simp only[run,h3,Option.ite_none_right_eq_some]at h;obtain⟨_,h⟩:=h;unfold bL at h;rw[h4]at h;simp[cv]at h
end
end Go.Ab
namespace Go.Ab
def pU:Code→List (Nat×Array Oper)
 | .region id ops _=>[(id,ops)]
 | .seq a b| .cond _ a b| .rangeFunc _ _ a b=>pU a++pU b
 | .block _ c| .loop c| .scope c=>pU c
 |_=>[]
def jR:Code→List Nat
 | .seq a b| .cond _ a b| .rangeFunc _ _ a b=>jR a++jR b
 | .block i c=>i::jR c
 | .loop c| .scope c=>jR c
 |_=>[]
def dV(fn:Func):Code:=match fn.body with|some c=>c|none=>.skip
def jS(fn:Func)(i:Nat):Array Oper:=match (pU (dV fn))[i]? with|some (_,o)=>o|none=>#[]
def cT(fn:Func)(i:Nat):Nat:=match (pU (dV fn))[i]? with|some (n,_)=>n|none=>0
def oE(fn:Func)(i:Nat):Nat:=match (jR (dV fn))[i]? with|some n=>n|none=>0
def aN(fn:Func)(i j:Nat):Oper:=match (jS fn i).toList[j]? with|some o=>o|none=>default
def typesOf(o:Oper):Array TypeId:=match o.op with| .call c=>c.argTypes|_=>#[]
def dh(o:Oper):TypeId×TypeId:=match o.op with| .binOp _ t _ _ u=>(t,u)|_=>(0,0)
def FL(P:Program)(t:TypeId):TypeId:=match P.underlying t with|some (.slice e)=>e|_=>0
open Go.ChangeShapes Go.WideShapes Go.ChangeAt Go.RowKit
def KW(w:World):aY:=fun b o=>w.cell? ⟨b,o,none⟩
theorem LH(w:World):wL (KW w) w:=fun _ _ _ h=>h
def H8(S:TypeId→PV→Prop):List Field→List PV→Prop
 |[],[]=>True
 |f::fs,p::ps=>S f.type p∧H8 S fs ps
 |_,_=>False
def v9(P:Program):Nat→TypeId→PV→Prop
 |0,_,_=>False
 |n+1,t,p=>match P.underlying t with
   |some .bool=>∃b,p=.bool b
   |some (.int k)=>∃i,p=.int k i∧(Lit.int k i).wf=true
   |some .string=>∃s,p=.str s∧s.length≤maxLen
   |some (.slice e)=>∃els,p=.az els∧els.length≤maxLen∧∀q∈els,v9 P n e q
   |some (.struct fs)=>∃ps:List PV,p=.agg (ps.flatMap aS)∧H8 (v9 P n) fs.toList ps
   |_=>False
def FM(P:Program):Nat→List Field→Nat→Bool
 |o,[],total=>o == total
 |o,f::fs,total=>f.offset == o && FM P (o+P.cellsOf f.type) fs total
def Aj(P:Program)(T:List TypeId):Bool:=T.all fun t=>match P.underlying t with
 |some .bool|some (.int _)|some .string=>true
 |some (.slice e)=>T.contains e && decide (0<P.cellsOf e)
 |some (.struct fs)=>fs.toList.all (fun f=>T.contains f.type) && FM P 0 fs.toList (P.cellsOf t)
 |_=>false
section
variable {H:Type} {enc:TypeId×Value→H} {P:Program} {w:World} {base:Nat} {sp:Nat→Bool} {held:Bool}
theorem v_{α β:Type}{f:α→Option β}:∀{l:List α} {r:List β},l.mapM f=some r→∀{i:Nat} {x:α},l[i]?=some x→∃y,r[i]?=some y∧f x=some y
 |[],_,_,i,x,hx=>by simp at hx
 |a::l,r,h,i,x,hx=>by
   simp only[List.mapM_cons,Option.bind_eq_bind,Option.bind_eq_some_iff,Option.pure_def,Option.some.injEq]at h;obtain⟨y,h1,ys,h2,rfl⟩:=h;cases i with
   |zero=>simp at hx;subst hx;exact⟨y,by simp,h1⟩
   |succ i=>simpa using v_ h2 (i:=i) (by simpa using hx)
theorem wa{α β:Type}{f:α→Option β}:∀{l:List α} {r:List β},l.mapM f=some r→r.length=l.length
 |[],r,h=>by simp at h;subst h;rfl
 |a::l,r,h=>by
   simp only[List.mapM_cons,Option.bind_eq_bind,Option.bind_eq_some_iff,Option.pure_def,Option.some.injEq]at h;obtain⟨y,h1,ys,h2,rfl⟩:=h;simp[wa h2]
theorem Dn{a:Addr}{n:Nat}{cs:List Value}(hn:0<n)(h:w.cells? base a n=some cs):cs.length=n∧a.spot=none∧At (KW w) a.block a.off cs:=by
 unfold World.cells? at h;split at h
 · have hl:cs.length=n:=by simpa using wa h
   have key:∀i,i<n→∃y,cs[i]?=some y∧w.cell? (a.add i)=some y:=by
     intro i hi;exact v_ h (i:=i) (x:=i) (by simp[hi])
   obtain⟨y0,_,h0⟩:=key 0 hn
   have hspot:a.spot=none:=by
     cases hsp:a.spot with
     |none=>rfl
     |some s=>
       simp only[Addr.add,if_true,World.cell?]at h0;split at h0
       ·simp[hsp]at h0
       ·cases h0
   refine⟨hl,hspot,?_⟩;intro j v hj;have hjn:j<n:=by have:=(List.getElem?_eq_some_iff.1 hj).1;omega
   have e:a.add j=⟨a.block,a.off+j,none⟩:=by
     unfold Addr.add;split
     ·rename_i h0;subst h0;cases a;simp_all
     ·rfl
   obtain⟨y,h1,h2⟩:=key j hjn;rw[e]at h2;rw[hj]at h1;cases h1;exact h2
 ·cases h
theorem Ao{K:aY}{S:PV→Prop}{b sz:Nat}:∀{n:Nat} {o:Nat},(∀i,i<n→∃vs q,vs.length=sz∧At K b (o+i*sz) vs∧S q∧R K true q vs)→∃els:List PV,els.length=n∧(∀q∈els,S q)∧Row K b o sz els
 |0,o,_=>⟨[],rfl,by simp,by simp only[Row]⟩
 |n+1,o,h=>by
   obtain⟨vs,q,h1,h2,h3,h4⟩:=h 0 (by omega)
   obtain⟨els,e1,e2,e3⟩:=Ao (K:=K) (S:=S) (b:=b) (sz:=sz) (n:=n) (o:=o+sz) fun i hi=>by
     obtain⟨vs,q,h1,h2,h3,h4⟩:=h (i+1) (by omega);refine⟨vs,q,h1,?_,h3,h4⟩
     rwa [show o+sz+i*sz=o+(i+1)*sz from by rw[Nat.add_mul];omega]
   refine⟨q::els,by simp[e1],?_,?_⟩
   · intro x hx;simp only[List.mem_cons]at hx;rcases hx with rfl|hx
     ·exact h3
     ·exact e2 x hx
   ·simp only[Row];exact⟨⟨vs,h1,by simpa using h2,h4⟩,e3⟩
theorem rm{K:aY}{S:TypeId→PV→Prop}{cs:List Value}:∀{fs:List Field} {o total:Nat},FM P o fs total=true→cs.length=total →
   (∀f∈fs,∃q,S f.type q∧R K true q ((cs.drop f.offset).take (P.cellsOf f.type)))→∃ps:List PV,H8 S fs ps∧dk K (ps.flatMap aS) (cs.drop o)
 |[],o,total,hl,hc,_=>⟨[],by simp[H8],by
     simp[FM]at hl;simp[dk];omega⟩
 |f::fs,o,total,hl,hc,h=>by
   simp only[FM,Bool.and_eq_true,beq_iff_eq]at hl;obtain⟨hf,hl⟩:=hl;obtain⟨q,h1,h2⟩:=h f (by simp);obtain⟨ps,e1,e2⟩:=rm (K:=K) (S:=S) (cs:=cs) hl hc (fun f' hf'=>h f' (by simp[hf']));refine⟨q::ps,⟨h1,e1⟩,?_⟩;simp only[List.flatMap_cons];have:=(R.cells h2).append e2;rw[hf]at this
   rwa [←List.drop_drop,List.take_append_drop]at this
theorem pV{T:List TypeId}(hT:Aj P T=true):∀(n:Nat) (t:TypeId) (cs:List Value) (x:DataW H×List MemPlace),t∈T →
   DataW.trod enc P w base sp held n t cs=some x→∃p,v9 P n t p∧R (KW w) true p cs
 |0,t,cs,x,_,h=>by simp[DataW.trod]at h
 |n+1,t,cs,x,ht,h=>by
   have hp:=List.all_eq_true.1 hT t ht;simp only[v9];split at hp
   ·rename_i hu;obtain⟨b,rfl,_⟩:=DataW.trod_bool hu h;exact⟨.bool b,by exact⟨b,rfl⟩,by simp[R]⟩
   ·rename_i k hu;obtain⟨i,rfl,_,hw⟩:=DataW.trod_int hu h;exact⟨.int k i,by exact⟨i,rfl,hw⟩,by simp[R]⟩
   ·rename_i hu;obtain⟨s,rfl,_,hl⟩:=DataW.trod_string hu h;exact⟨.str s.data.toList,by exact⟨_,rfl,by simpa using hl⟩,by simp[R]⟩
   · rename_i e hu;simp only[Bool.and_eq_true,List.contains_iff_mem,decide_eq_true_eq]at hp;rcases DataW.trod_slice hu h with⟨rfl,_⟩|⟨a,len,cap,elems,rest,m,e0,rfl,_,_,hlen,hcap,hel,hget,_,_⟩
     ·exact⟨.az [],by exact⟨[],rfl,by simp,by simp⟩,by simp only[R];exact⟨none,0,0,rfl,Nat.le_refl _,rfl,.inl trivial⟩⟩
     · have hm:m=n:=(by omega);subst hm;by_cases h0:len=0
       ·subst h0;exact⟨.az [],by exact⟨[],rfl,by simp,by simp⟩,by simp only[R];exact⟨some a,0,cap,rfl,hlen,rfl,.inl trivial⟩⟩
       · have key:∀i,i<len→∃vs q,vs.length=P.cellsOf e∧(a.add (i*P.cellsOf e)).spot=none∧At (KW w) (a.add (i*P.cellsOf e)).block (a.add (i*P.cellsOf e)).off vs∧v9 P m e q∧R (KW w) true q vs:=by
           intro i hi;have hg:=hget i hi;rw[List.getElem?_eq_getElem (by omega)]at hg;simp only[Option.bind_eq_some_iff]at hg;obtain⟨vs,h1,h2⟩:=hg;obtain⟨c1,c2,c3⟩:=Dn hp.2 h1;obtain⟨q,q1,q2⟩:=pV hT m e vs _ hp.1 h2;exact⟨vs,q,c1,c2,c3,q1,q2⟩
         have hspot:a.spot=none:=by
           obtain⟨_,_,_,h2,_⟩:=key 0 (by omega);simpa[Addr.add] using h2
         obtain⟨els,e1,e2,e3⟩:=Ao (K:=KW w) (S:=v9 P m e) (b:=a.block) (sz:=P.cellsOf e) (n:=len) (o:=a.off) fun i hi=>by
           obtain⟨vs,q,c1,c2,c3,q1,q2⟩:=key i hi;refine⟨vs,q,c1,?_,q1,q2⟩
           have:(a.add (i*P.cellsOf e)).block=a.block∧(a.add (i*P.cellsOf e)).off=a.off+i*P.cellsOf e:=by
             unfold Addr.add;split
             ·rename_i h0;simp[h0]
             ·exact⟨rfl,rfl⟩
           rwa [this.1,this.2]at c3
         refine⟨.az els,by exact⟨els,rfl,by omega,e2⟩,?_⟩;simp only[R];refine⟨some a,len,cap,rfl,hlen,e1,.inr ⟨a.block,a.off,P.cellsOf e,?_,e3⟩⟩;cases a;simp_all
   · rename_i fs hu;simp only[Bool.and_eq_true,List.all_eq_true,List.contains_iff_mem]at hp;obtain⟨xs,m,e0,_,hcs,hxs,hget⟩:=DataW.trod_struct hu h;have hm:m=n:=by omega
     subst hm
     obtain⟨ps,e1,e2⟩:=rm (K:=KW w) (S:=v9 P m) (cs:=cs) hp.2 hcs fun f hf=>by
       obtain⟨i,hi,K7⟩:=List.getElem_of_mem hf;have hg:=hget i f (by rw[←Array.getElem?_toList];rw[List.getElem?_eq_getElem hi,K7]);rw[List.getElem?_eq_getElem (by simp at hi;omega)]at hg;exact pV hT m f.type _ _ (hp.1 f hf) hg
     refine⟨.agg (ps.flatMap aS),by exact⟨ps,rfl,e1⟩,?_⟩;simp only[R];exact⟨trivial,by simpa using e2⟩
   ·cases hp
theorem H9{T:List TypeId}(hT:Aj P T=true){t:TypeId}{v:Value}{d:DataW H}{ps:List MemPlace}{r:Reach}{b0:Nat}(ht:t∈T)(hv:Value.okWide P w r b0 t v)
   (h:DataW.Trod enc P w base sp held t v d ps):∃n p,v9 P n t p∧Rel (KW w) p v:=by
 obtain⟨n,hn⟩:=h;obtain⟨p,h1,h2⟩:=pV hT n t _ _ ht hn;refine⟨n,p,h1,?_⟩;have hp:=List.all_eq_true.1 hT t ht;cases n with
 |zero=>simp[v9]at h1
 |succ n=>
   simp only[v9]at h1;simp only[Value.okWide]at hv;split at hp
   ·rename_i hu;rw[hu]at h1 hv;obtain⟨b,rfl⟩:=h1;simp only[Cell.okWide,hu,Cell.ok]at hv;cases v<;>simp_all[Value.cells,R,Rel]
   ·rename_i k hu;rw[hu]at h1 hv;obtain⟨b,rfl,_⟩:=h1;simp only[Cell.okWide,hu,Cell.ok]at hv;cases v<;>simp_all[Value.cells,R,Rel]
   ·rename_i hu;rw[hu]at h1 hv;obtain⟨b,rfl,_⟩:=h1;simp only[Cell.okWide,hu,Cell.ok]at hv;cases v<;>simp_all[Value.cells,R,Rel]
   · rename_i e hu;rw[hu]at h1 hv;obtain⟨b,rfl,_⟩:=h1;simp only[Cell.okWide,hu,Cell.ok]at hv;cases v with
     |slice a l c=>
       simp only[R]at h2;simp only[Rel,R];simpa[Value.cells] using h2
     |agg cs=>simp at hv
     |_=>simp_all[Value.cells,R]
   ·rename_i fs hu;rw[hu]at h1 hv;obtain⟨b,rfl,_⟩:=h1;obtain⟨cs,rfl,_⟩:=hv;simp only[Value.cells,R]at h2;exact⟨cs.toList,by simp,h2.2⟩
   ·cases hp
def Dp(P:Program):List TypeId→List PV→Prop
 |[],[]=>True
 |t::ts,p::ps=>(∃n,v9 P n t p)∧Dp P ts ps
 |_,_=>False
theorem wb{T:List TypeId}(hT:Aj P T=true){r:Reach}{b0:Nat}:∀{ts:List TypeId} {vs:List Value} {ds:List (DataW H)} {ps:List MemPlace},(∀t∈ts,t∈T) →
   (∀(j:Nat) t v,ts[j]?=some t→vs[j]?=some v→Value.okWide P w r b0 t v)→DataW.TrodAll enc P w base sp held ts vs ds ps→∃cI,Dp P ts cI∧gI (KW w) cI vs∧ds.length=ts.length
 |[],vs,ds,ps,_,_,h=>by
   obtain⟨rfl,rfl,rfl⟩:=trodAll_nil h;exact⟨[],by simp[Dp],by simp[gI],rfl⟩
 |t::ts,vs,ds,ps,hts,hv,h=>by
   obtain⟨v,vs',d,ds',p,q,rfl,rfl,rfl,h1,h2⟩:=trodAll_cons h;obtain⟨n,pv,a1,a2⟩:=H9 hT (hts t (by simp)) (hv 0 t v (by simp) (by simp)) h1;obtain⟨cI,b1,b2,b3⟩:=wb hT (fun t ht=>hts t (by simp[ht])) (fun j t v hj hj'=>hv (j+1) t v (by simpa using hj) (by simpa using hj')) h2;exact⟨pv::cI,⟨⟨n,a1⟩,b1⟩,⟨v,vs',rfl,a2,b2⟩,by simp[b3]⟩
theorem pW{W W':World}(hl:laidOutB P=true)(hb:Below W.heap.size W W'):∀{ts:List TypeId} {vs:List Value} {ds:List (DataW H)} {ps:List MemPlace},(∀t∈ts,P.readableRec t=true∧t<P.types.size) →
   DataW.TrodAll enc P W 0 (fun _=>true) true ts vs ds ps→(∀x∈ps,x.block<W.heap.size)→∀{sp:Nat→Bool},(∀x∈ps,sp x.block=true)→DataW.TrodAll enc P W' 0 sp true ts vs ds ps
 |[],vs,ds,ps,_,h,_,_,_=>by
   obtain⟨rfl,rfl,rfl⟩:=trodAll_nil h;exact trodAll_mk0
 |t::ts,vs,ds,ps,hts,h,hlt,sp,hs=>by
   obtain⟨v,vs',d,ds',p,q,rfl,rfl,rfl,h1,h2⟩:=trodAll_cons h;refine trodAll_cons_mk ?_ (pW hl hb (fun t ht=>hts t (by simp[ht])) h2 (fun x hx=>hlt x (by simp[hx])) (fun x hx=>hs x (by simp[hx])));exact WideElems.Trod_stays hl (hts t (by simp)).1 (hts t (by simp)).2 h1 (fun x hx=>hb.same (hlt x (by simp[hx]))) (fun x hx=>hs x (by simp[hx]))
end
theorem Dq{H:Type}{enc:TypeId×Value→H}{P:Program}{f:Func}{s:ChangeSpec}{apart fresh handsOn again:Bool}{W W':World}{args:Array Value}{v:Value}{ds gs:List (DataW H)}{before:List MemPlace}
   (hW:DataW.Whole enc P f.params.toList s.vars apart W args.toList ds gs before)
   (fx:∀(b:Nat) (sp:Nat→Bool) (hd:Bool),DataW.TrodAll enc P W' b sp hd f.resultTypes.toList (v.resultList f.resultTypes.size) (s.fn H (ds++gs)).results [])
   (hargs:∀sp:Nat→Bool,(∀p∈before,sp p.block=true)→DataW.TrodAll enc P W' 0 sp true f.params.toList args.toList (s.fn H (ds++gs)).args before)
   (hvars:∀sp:Nat→Bool,DataW.TrodVars enc P W' sp s.vars (s.fn H (ds++gs)).vars []) (hB:Below W.heap.size W W')
   (hok:∀(j:Nat) (t:TypeId) (r:Value),f.resultTypes[j]?=some t→(v.resultList f.resultTypes.size)[j]?=some r→Value.okWide P W' .any 0 t r) :
   s.post enc P f apart fresh handsOn again W args v W':=by
 have hlt:∀p∈before,p.block<W.heap.size:=fun p hp=>by simpa using hW.lt p hp
 have hold:∀p∈before,(fun b=>decide (b<W.heap.size)) p.block=true:=fun p hp=>by simpa using hlt p hp
 refine⟨ds,gs,before,[],before,[],hW,fx _ _ _,hargs _ hold,hvars _,World.keptBut_mono (fun p hp=>⟨hp,.inr (.inl hp)⟩) (hB.frame _),fun _=>⟨hok,_,_,([]++before)++[],⟨[]++before,[],trodAll_append (hargs _ (fun _ _=>rfl)) (fx _ _ _),hvars _,rfl,?_,?_⟩,?_⟩⟩
 ·obtain⟨_,_,_,_,_,hz,_⟩:=hW;intro b off hp;simp only[List.nil_append,List.append_nil]at hp;rw[hB.frozen (hlt _ hp)];exact hz b off hp
 ·obtain⟨_,_,_,_,_,_,hn⟩:=hW;intro ha;simpa using hn ha
 ·intro p hp _;simpa using hp
theorem s8{H:Type}{enc:TypeId×Value→H}{P:Program}{ns:Names}{AP:Nat→Option aA}(hI:Impl P ns AP){f g:Nat}{fn:Func}{s:ChangeSpec}{T:List TypeId}{tb:TypeId}
   (hg:ns.of f=some g) (hvars:s.vars=[]) (fx:fn.resultTypes=#[tb]) (K8:P.underlying tb=some .bool) (hl:laidOutB P=true)
   (hrd:∀t∈fn.params.toList,P.readableRec t=true∧t<P.types.size) (hT:Aj P T=true) (hin:∀t∈fn.params.toList,t∈T)
   (hs:∀ds:List (DataW H),ds.length=fn.params.size→s.fn H ds={ results:=[.lit (.bool true)],args:=ds })
   (law:∀cI,Dp P fn.params.toList cI→(aC AP).p g cI=some [.bool true])
   (W:World) (base:Nat) (args:Array Value) (ds gs:List (DataW H)) (before:List MemPlace)
   (hval:∀(j:Nat) t v,fn.params[j]?=some t→args[j]?=some v→Value.okWide P W .any base t v)
   (hW:DataW.Whole enc P fn.params.toList s.vars false W args.toList ds gs before)
   (hpin:kO ns.iF W:=by intro _ _ h;exact Option.noConfusion (show (none:Option (Array Value))=some _ from h)) :
   Calls P f args W fun e W'=>∃v,e=.returned v∧s.post enc P fn false true false false W args v W':=by
 have hW':=hW;obtain⟨p,q,hA,hV,rfl,hfz,hnd⟩:=hW;rw[hvars]at hV;obtain⟨rfl,rfl⟩:=trodVars_none hV;simp only[List.append_nil]at hW';obtain⟨cI,h1,h2,h3⟩:=wb (r:=.any) (b0:=base) hT hin (fun j t v hj hj'=>hval j t v (by simpa using hj) (by simpa using hj')) hA;obtain⟨n,hn⟩:=oA (law cI h1);have hC:=(rl hI n n).p g f cI _ hg hn (KW W) W args.toList hpin (LH W) h2;rw[Array.toArray_toList]at hC;refine hC.mono ?_
 rintro e W' ⟨v,K',rfl,hr,_,_,_,hB⟩
 simp only[fD,Rel,R]at hr;obtain rfl:v=.bool true:=by simpa using hr
 have hlt:∀x∈p,x.block<W.heap.size:=fun x hx=>by simpa using hW'.lt x hx
 have hspec:=hs ds (by simpa using h3);refine⟨_,rfl,Dq hW' (fun _ _ _=>?_) (fun sp hsp=>?_) (fun _=>?_) hB (ok_one fx rfl (okWide_bool_mk K8 _))⟩
 ·simp only[List.append_nil];rw[hspec,fx];exact trodAll_cons_mk (p:=[]) (p':=[]) (shut_bool K8 _) trodAll_mk0
 ·simp only[List.append_nil];rw[hspec];exact pW hl hB hrd hA hlt hsp
 ·rw[hvars];simp only[List.append_nil];rw[hspec];rfl
end Go.Ab
namespace Go.Ab.Fc
variable {α:Type}
def fN(n:Nat)(K:Nat→Option α):Option α:=match n with
 |0=>K 0
 |m+1=>K (m+1)
theorem nM{n:Nat}{K:Nat→Option α}:fN n K=K n:=by cases n<;>rfl
def fI(n:Int)(K:Int→Option α):Option α:=match n with
 | .ofNat m=>fN m fun m=>K (.ofNat m)
 | .negSucc m=>fN m fun m=>K (.negSucc m)
theorem FN{n:Int}{K:Int→Option α}:fI n K=K n:=by cases n<;>simp[fI,nM]
def fB(b:Bool)(K:Bool→Option α):Option α:=match b with
 |true=>K true
 |false=>K false
theorem pX{b:Bool}{K:Bool→Option α}:fB b K=K b:=by cases b<;>rfl
def fS{β:Type}:List β→(List β→Option α)→Option α
 |[],K=>K []
 |a::r,K=>fS r fun r=>K (a::r)
theorem wc{β:Type}:∀{l:List β} {K:List β→Option α},fS l K=K l
 |[],_=>rfl
 |a::r,K=>by simp only[fS];rw[wc]
def fL(p:PV)(K:PV→Option α):Option α:=match p with
 | .bool b=>fB b fun b=>K (.bool b)
 | .int k n=>fI n fun n=>K (.int k n)
 | .str s=>K (.str s)
 | .agg cs=>K (.agg cs)
 | .az l=>K (.az l)
theorem I7{p:PV}{K:PV→Option α}:fL p K=K p:=by cases p<;>simp[fL,pX,FN]
def LI:List PV→(List PV→Option α)→Option α
 |[],K=>K []
 |a::r,K=>fL a fun a=>LI r fun r=>K (a::r)
theorem zp:∀{l:List PV} {K:List PV→Option α},LI l K=K l
 |[],_=>rfl
 |a::r,K=>by simp only[LI];rw[I7,zp]
def fP(p:PV)(K:PV→Option α):Option α:=match p with
 | .agg cs=>LI cs fun cs=>K (.agg cs)
 |p=>fL p K
theorem FO{p:PV}{K:PV→Option α}:fP p K=K p:=by cases p<;>simp[fP,zp,I7]
def M3(v:AV)(K:AV→Option α):Option α:=match v with
 | .un=>K .un
 | .pv p=>fP p fun p=>K (.pv p)
 | .di l=>K (.di l)
 | .own l τ=>fN τ fun τ=>K (.own l τ)
 | .agg cs=>K (.agg cs)
 | .m8 cs=>K (.m8 cs)
 | .aK a b=>fN a fun a=>fN b fun b=>K (.aK a b)
 | .a_ a b=>fN a fun a=>fN b fun b=>K (.a_ a b)
 | .eD cs=>fS cs fun cs=>K (.eD cs)
 | .aM a b c d=>fN a fun a=>fN c fun c=>K (.aM a b c d)
 | .fn g c=>K (.fn g c)
 | .iz=>K .iz
 | .iA s=>fN s fun s=>K (.iA s)
 | .eE kvs=>fS kvs fun kvs=>K (.eE kvs)
 | .mo a b c=>fN a fun a=>fN b fun b=>fN c fun c=>K (.mo a b c)
 | .g_ a b=>fN a fun a=>fN b fun b=>K (.g_ a b)
theorem FP{v:AV}{K:AV→Option α}:M3 v K=K v:=by cases v<;>simp[M3,FO,nM,wc]
def H_:List AV→(List AV→Option α)→Option α
 |[],K=>K []
 |a::r,K=>M3 a fun a=>H_ r fun r=>K (a::r)
theorem pY:∀{l:List AV} {K:List AV→Option α},H_ l K=K l
 |[],_=>rfl
 |a::r,K=>by simp only[H_];rw[FP,pY]
def fA(v:AV)(K:AV→Option α):Option α:=match v with
 | .agg cs=>H_ cs fun cs=>K (.agg cs)
 | .m8 cs=>H_ cs fun cs=>K (.m8 cs)
 | .fn g cs=>H_ cs fun cs=>K (.fn g cs)
 |v=>M3 v K
theorem nN{v:AV}{K:AV→Option α}:fA v K=K v:=by cases v<;>simp[fA,pY,FP]
def LJ:List AV→(List AV→Option α)→Option α
 |[],K=>K []
 |a::r,K=>fA a fun a=>LJ r fun r=>K (a::r)
theorem pZ:∀{l:List AV} {K:List AV→Option α},LJ l K=K l
 |[],_=>rfl
 |a::r,K=>by simp only[LJ];rw[nN,pZ]
def fV(v:AV)(K:AV→Option α):Option α:=match v with
 | .pv (.str s)=>fS s fun s=>K (.pv (.str s))
 | .pv (.az l)=>fS l fun l=>K (.pv (.az l))
 | .di l=>fS l fun l=>LI l fun l=>K (.di l)
 | .own l τ=>fS l fun l=>fN τ fun τ=>K (.own l τ)
 |v=>fA v K
theorem FQ{v:AV}{K:AV→Option α}:fV v K=K v:=by
 cases v with
 |pv p=>cases p<;>simp[fV,wc,nN]
 |_=>simp[fV,wc,nN,zp,nM]
def LK:List PV→(List PV→Option α)→Option α
 |[],K=>K []
 |a::r,K=>fP a fun a=>LK r fun r=>K (a::r)
theorem FR:∀{l:List PV} {K:List PV→Option α},LK l K=K l
 |[],_=>rfl
 |a::r,K=>by simp only[LK];rw[FO,FR]
def fresh:AK→Bool
 | .v (.ev _)| .v (.slice ..)| .append ..| .v (.bin .add)=>true
 |_=>false
def Of(op:AK)(v:AV)(K:AV→Option α):Option α:=match op,v with
 | .v (.ev _),.di l=>LK l fun l=>K (.di l)
 |op,v=>if fresh op then fV v K else fA v K
def fO{β:Type}(f:β→(β→Option α)→Option α)(o:Option β)(K:Option β→Option α):Option α:=match o with
 |none=>K none
 |some x=>f x fun x=>K (some x)
theorem LL{β:Type}{f:β→(β→Option α)→Option α}(hf:∀x K,f x K=K x){o:Option β}{K:Option β→Option α}:fO f o K=K o:=by cases o<;>simp[fO,hf]
def K9:Sh→(Sh→Option α)→Option α
 |[],K=>K []
 |a::r,K=>fO H_ a fun a=>K9 r fun r=>K (a::r)
theorem mQ:∀{l:Sh} {K:Sh→Option α},K9 l K=K l
 |[],_=>rfl
 |a::r,K=>by simp only[K9];rw[LL (fun _ _=>pY),mQ]
def fT:aD→(aD→Option α)→Option α
 |[],K=>K []
 |a::r,K=>fN a fun a=>fT r fun r=>K (a::r)
theorem rn:∀{l:aD} {K:aD→Option α},fT l K=K l
 |[],_=>rfl
 |a::r,K=>by simp only[fT];rw[nM,rn]
def Nt{β:Type}:List (Nat×β)→Nat→β→(List (Nat×β)→Option α)→Option α
 |[],t,u,K=>K [(t,u)]
 |(k,v)::r,t,u,K=>if k=t then K ((k,u)::r) else Nt r t u fun r=>K ((k,v)::r)
def H':List (Nat×AV)→(List (Nat×AV)→Option α)→Option α
 |[],K=>K []
 |(t,v)::r,K=>fA v fun v=>H' r fun r=>K ((t,v)::r)
theorem Ap:∀{l:List (Nat×AV)} {K:List (Nat×AV)→Option α},H' l K=K l
 |[],_=>rfl
 |(t,v)::r,K=>by simp only[H'];rw[nN,Ap]
def Ia:List (Nat×List AV)→(List (Nat×List AV)→Option α)→Option α
 |[],K=>K []
 |(t,v)::r,K=>H_ v fun v=>Ia r fun r=>K ((t,v)::r)
theorem Aq:∀{l:List (Nat×List AV)} {K:List (Nat×List AV)→Option α},Ia l K=K l
 |[],_=>rfl
 |(t,v)::r,K=>by simp only[Ia];rw[pY,Aq]
def Kd(st:St)(K:St→Option α):Option α:=match st with
 |⟨env,mem,sh,aa⟩=>H' env fun env=>Ia mem fun mem=>K9 sh fun sh=>fT aa fun aa=>K ⟨env,mem,sh,aa⟩
theorem p6{st:St}{K:St→Option α}:Kd st K=K st:=by
 obtain⟨env,mem,sh,aa⟩:=st;simp only[Kd];rw[Ap,Aq,mQ,rn]
def lk{β:Type}:List (Nat×β)→Nat→Option β
 |[],_=>none
 |(k,v)::r,t=>bif Nat.beq k t then some v else lk r t
theorem rq{β:Type}:∀{l:List (Nat×β)} {t:Nat},lk l t=look l t
 |[],_=>rfl
 |(k,v)::r,t=>by
   simp only[lk,look];rw[rq];by_cases h:k=t
   ·subst h;simp
   ·rw[if_neg h,show Nat.beq k t=false from by rw[Bool.eq_false_iff];intro e;exact h (Nat.eq_of_beq_eq_true e)];rfl
def pt{β:Type}:List (Nat×β)→Nat→β→(List (Nat×β)→Option α)→Option α
 |[],t,u,K=>K [(t,u)]
 |(k,v)::r,t,u,K=>bif Nat.beq k t then K ((k,u)::r) else pt r t u fun r=>K ((k,v)::r)
theorem FT{β:Type}:∀{l:List (Nat×β)} {t:Nat} {u:β} {K:List (Nat×β)→Option α},pt l t u K=K (cJ l t u)
 |[],_,_,_=>rfl
 |(k,v)::r,t,u,K=>by
   simp only[pt,cJ];by_cases h:k=t
   ·subst h;simp
   ·rw[if_neg h,show Nat.beq k t=false from by rw[Bool.eq_false_iff];intro e;exact h (Nat.eq_of_beq_eq_true e)];exact FT
def od(env:List (Nat×AV))(x:d_)(K:AV→Option α):Option α:=match x with
 | .t n=>match lk env n with
   |some v=>K v
   |none=>none
 | .c v=>K v
theorem LM{env:List (Nat×AV)}{x:d_}{K:AV→Option α}:od env x K=(fm env x).bind K:=by
 cases x with
 |t n=>simp only[od,fm,rq];cases look env n<;>rfl
 |c v=>rfl
def K_(env:List (Nat×AV)):List d_→(List AV→Option α)→Option α
 |[],K=>K []
 |x::r,K=>od env x fun v=>K_ env r fun vs=>K (v::vs)
theorem FU{env:List (Nat×AV)}:∀{l:List d_} {K:List AV→Option α},K_ env l K=(dB env l).bind K
 |[],_=>rfl
 |x::r,K=>by
   simp only[K_,dB];rw[LM];cases fm env x with
   |none=>rfl
   |some v=>
     dsimp only[Option.bind_some];rw[FU];cases dB env r<;>rfl
def Ke:IntKind→Nat
 | .i8=>0| .i16=>1| .i32=>2| .i64=>3| .u8=>4| .u16=>5| .u32=>6| .u64=>7
theorem Ib{a b:IntKind}(h:Nat.beq (Ke a) (Ke b)=true):a=b:=by
 have:=Nat.eq_of_beq_eq_true h;cases a<;>cases b<;>first|rfl|(simp[Ke]at this)
def M4:Int→Int→Bool
 | .ofNat a,.ofNat b=>Nat.beq a b
 | .negSucc a,.negSucc b=>Nat.beq a b
 |_,_=>false
theorem Nu{a b:Nat}:Nat.beq a b=decide (a=b):=by
 by_cases h:a=b
 ·subst h;simp
 ·rw[decide_eq_false h,Bool.eq_false_iff];intro e;exact h (Nat.eq_of_beq_eq_true e)
theorem FV{a b:Int}:M4 a b=(a == b):=by
 cases a<;>cases b<;>(rw[Bool.eq_iff_iff];simp[M4,Nu])<;>omega
def La:Int→Int→Bool
 | .ofNat a,.ofNat b=>Nat.blt a b
 | .negSucc a,.negSucc b=>Nat.blt b a
 | .negSucc _,.ofNat _=>true
 | .ofNat _,.negSucc _=>false
theorem s9{a b:Int}:La a b=decide (a<b):=by
 cases a<;>cases b<;>(rw[Bool.eq_iff_iff];simp[La,Nat.blt_eq])<;>omega
def Kf(k:IntKind)(a b:Int)(K:Int→Option α):Option α:=match k,a,b with
 | .i64,.ofNat x,.ofNat y=>bif Nat.blt (x+y) 4611686018427387904 then fN (x+y) fun n=>K (.ofNat n) else fI (IntKind.i64.wrap (.ofNat x+.ofNat y)) K
 |k,a,b=>fI (k.wrap (a+b)) K
theorem Ic{k:IntKind}{a b:Int}{K:Int→Option α}:Kf k a b K=K (k.wrap (a+b)):=by
 unfold Kf;split
 · rename_i x y;cases h:Nat.blt (x+y) 4611686018427387904 with
   |false=>simp only[cond_false];exact FN
   |true=>
     simp only[cond_true,nM];have:x+y<4611686018427387904:=by simpa[Nat.blt_eq] using h
     congr 1;simp[IntKind.wrap,IntKind.bits,IntKind.signed];omega
 ·exact FN
def Kg(op:BinOp)(a b:AV)(K:AV→Option α):Option α:=match a with
 | .pv (.int k x)=>match b with
   | .pv (.int k' y)=>bif Nat.beq (Ke k) (Ke k') then (match op with
       | .eql=>fB (M4 x y) fun c=>K (.pv (.bool c))
       | .neq=>fB (!M4 x y) fun c=>K (.pv (.bool c))
       | .lss=>fB (La x y) fun c=>K (.pv (.bool c))
       | .gtr=>fB (La y x) fun c=>K (.pv (.bool c))
       | .geq=>fB (!La x y) fun c=>K (.pv (.bool c))
       | .leq=>fB (!La y x) fun c=>K (.pv (.bool c))
       | .add=>Kf k x y fun n=>K (.pv (.int k n))
       |op=>(cq op a b).bind fun v=>fV v K)
     else (cq op a b).bind fun v=>fV v K
   |b=>(cq op a b).bind fun v=>fV v K
 |a=>(cq op a b).bind fun v=>fV v K
theorem Ie{op:BinOp}{a b:AV}{K:AV→Option α}:Kg op a b K=(cq op a b).bind K:=by
 have dflt:((cq op a b).bind fun v=>fV v K)=(cq op a b).bind K:=by
   congr 1;funext v;exact FQ
 unfold Kg;split
 · rename_i k x;split
   · rename_i k' y;cases hk:Nat.beq (Ke k) (Ke k') with
     |false=>exact dflt
     |true=>
       obtain rfl:=Ib hk;simp only[cond_true];split
       ·simp[pX,FV,cq]
       ·simp[pX,FV,cq,bne]
       ·simp[pX,s9,cq]
       ·simp[pX,s9,cq]
       ·simp[pX,s9,cq,←decide_not,Int.not_lt]
       ·simp[pX,s9,cq,←decide_not,Int.not_lt]
       ·simp[Ic,cq]
       ·exact dflt
   ·exact dflt
 ·exact dflt
def NW(off:Nat)(x:AV)(K:AV→Option α):Option α:=match x with
 | .aK d o=>fN (o+off) fun n=>K (.aK d n)
 | .a_ b o=>fN (o+off) fun n=>K (.a_ b n)
 | .eD cs=>fS (cs.drop off) fun cs=>K (.eD cs)
 |_=>none
def nth{β:Type}:List β→Nat→Option β
 |[],_=>none
 |a::r,n=>match n with
   |0=>some a
   |n+1=>nth r n
theorem zq{β:Type}:∀{l:List β} {n:Nat},nth l n=l[n]?
 |[],n=>by simp[nth]
 |a::r,0=>rfl
 |a::r,n+1=>by simp only[nth,List.getElem?_cons_succ];exact zq
def ln{β:Type}:List β→Nat→(Nat→Option α)→Option α
 |[],n,K=>K n
 |_::r,n,K=>fN (n+1) fun n=>ln r n K
theorem Au{β:Type}:∀{l:List β} {n:Nat} {K:Nat→Option α},ln l n K=K (n+l.length)
 |[],n,K=>rfl
 |_::r,n,K=>by
   simp only[ln];rw[nM,Au];congr 1;simp;omega
def xV(o:Hi)(vals:List AV)(K:AV→Option α):Option α:=match o with
 | .mv=>match vals with
   |[x]=>K x
   |vals=>(bo .mv vals).bind fun v=>fA v K
 | .bin op=>match vals with
   |[a,b]=>Kg op a b K
   |vals=>(bo (.bin op) vals).bind fun v=>fA v K
 | .fQ off=>match vals with
   |[x]=>NW off x K
   |vals=>(bo (.fQ off) vals).bind fun v=>fA v K
 | .mq=>match vals with
   |[.aK a b]=>K (.aK a b)
   |[.a_ a b]=>K (.a_ a b)
   |vals=>(bo .mq vals).bind fun v=>fA v K
 | .index=>match vals with
   |[.pv (.str s),.pv (.int _ (.ofNat i))]=>match nth s i with
     |some b=>fN b.toNat fun n=>K (.pv (.int .u8 (.ofNat n)))
     |none=>none
   |vals=>(bo .index vals).bind fun v=>fA v K
 | .wT=>match vals with
   |[.pv (.str s)]=>ln s 0 fun n=>K (.pv (.int .i64 (.ofNat n)))
   |vals=>(bo .wT vals).bind fun v=>fA v K
 | .len=>match vals with
   |[.pv (.az l)]=>ln l 0 fun n=>K (.pv (.int .i64 (.ofNat n)))
   |[.own l _]=>ln l 0 fun n=>K (.pv (.int .i64 (.ofNat n)))
   |vals=>(bo .len vals).bind fun v=>fA v K
 | .ev sz=>match bo (.ev sz) vals with
   |some (.di l)=>LK l fun l=>K (.di l)
   |some v=>K v
   |none=>none
 | .slice a b c d e=>(bo (.slice a b c d e) vals).bind fun v=>fV v K
 |o=>(bo o vals).bind fun v=>fA v K
theorem LN{o:Hi}{vals:List AV}{K:AV→Option α}:xV o vals K=(bo o vals).bind K:=by
 have dA:∀o vals,((bo o vals).bind fun v=>fA v K)=(bo o vals).bind K:=by
   intro o vals;congr 1;funext v;exact nN
 unfold xV;split
 · split
   ·rfl
   ·exact dA _ _
 · split
   ·exact Ie
   ·exact dA _ _
 · split
   ·rename_i x;cases x<;>simp[NW,bo,nM,wc]
   ·exact dA _ _
 · split
   ·rfl
   ·rfl
   ·exact dA _ _
 · split
   · rename_i s k i;rw[zq];have hi:¬(Int.ofNat i<0):=by simp
     simp only[bo];rw[if_neg hi];simp only[Int.toNat_natCast,Int.ofNat_eq_natCast];cases s[i]? with
     |none=>rfl
     |some b=>simp[nM]
   ·exact dA _ _
 · split
   ·simp[Au,bo]
   ·exact dA _ _
 · split
   ·simp[Au,bo,cr]
   ·simp[Au,bo,cr]
   ·exact dA _ _
 · split
   ·rename_i l h;rw[h,FR];rfl
   ·rename_i h;rw[h];rfl
   ·rename_i h;rw[h];rfl
 ·congr 1;funext v;exact FQ
 ·exact dA _ _
def lay(env:List (Nat×AV))(mem:List (Nat×List AV))(sh:Sh)(aa:aD)(d:Option Nat)(v:AV)(K:St→Option α):Option α:=match d with
 |some d=>pt env d v fun env=>K ⟨env,mem,sh,aa⟩
 |none=>K ⟨env,mem,sh,aa⟩
theorem jT{env:List (Nat×AV)}{mem:List (Nat×List AV)}{sh:Sh}{aa:aD}{d:Option Nat}{v:AV}{K:St→Option α}:lay env mem sh aa d v K=K ⟨eA env d v,mem,sh,aa⟩:=by
 cases d<;>simp[lay,eA,FT]
def Kh(mem:List (Nat×List AV))(k:Nat)(cs:Option (List AV))(K:List (Nat×List AV)→Option α):Option α:=match cs with
 |some cs=>H_ cs fun cs=>pt mem k cs K
 |none=>K mem
theorem Ig{mem:List (Nat×List AV)}{k:Nat}{cs:Option (List AV)}{K:List (Nat×List AV)→Option α}:Kh mem k cs K=K (eb mem (some k) cs):=by
 cases cs<;>simp[Kh,eb,pY,FT]
def FW(orc:dD)(op:AK)(d:Option Nat)(vals:List AV)(env:List (Nat×AV))(mem:List (Nat×List AV))(sh:Sh)(aa:aD)(K:St→Option α):Option α:=
 match exec orc op vals (op.key.bind (look mem)) sh aa with
 |none=>none
 |some ⟨val,cells,sh',toks'⟩=>fV val fun val=>(match op.key with|some k=>Kh mem k cells|none=>fun K=>K mem) fun mem=>K9 sh' fun sh'=>fT toks' fun toks'=>lay env mem sh' toks' d val K
theorem s_{orc:dD}{op:AK}{d:Option Nat}{vals:List AV}{env:List (Nat×AV)}{mem:List (Nat×List AV)}{sh:Sh}{aa:aD}{K:St→Option α} :
   FW orc op d vals env mem sh aa K=(match exec orc op vals (op.key.bind (look mem)) sh aa with
     |none=>none
     |some out=>some (⟨eA env d out.val,eb mem op.key out.cells,out.sh,out.aa⟩:St)).bind K:=by
 unfold FW;cases exec orc op vals (op.key.bind (look mem)) sh aa with
 |none=>rfl
 |some out=>
   obtain⟨val,cells,sh',toks'⟩:=out;simp only[FQ,Option.bind_some];cases op.key with
   |none=>simp only[mQ,rn,jT];cases cells<;>rfl
   |some k=>simp only[Ig,mQ,rn,jT]
def xP(orc:dD)(g:Nat)(vals:List AV)(K:AV→Option α):Option α:=match cL [] vals with
 |some cI=>match orc.p g cI with
   |some rs=>fA (oM rs) K
   |none=>none
 |none=>none
def x1(orc:dD)(op:AK)(d:Option Nat)(vals:List AV)(env:List (Nat×AV))(mem:List (Nat×List AV))(sh:Sh)(aa:aD)(K:St→Option α):Option α:=match op with
 | .v o=>xV o vals fun v=>lay env mem sh aa d v K
 | .aL g=>xP orc g vals fun v=>lay env mem sh aa d v K
 | .b_ key off sz ag=>match vals with
   |[.aK d' o]=>match lk mem key with
     |some cs=>bif Nat.beq d' key && Nat.beq o off then (match bN ag sz cs off with
         |some v=>fA v fun v=>lay env mem sh aa d v K
         |none=>none) else none
     |none=>none
   |vals=>FW orc (.b_ key off sz ag) d vals env mem sh aa K
 | .dH sz ag=>match vals with
   |[.a_ b off]=>match nth sh b with
     |some (some cs)=>bif bU cs then none else (match bN ag sz cs off with
         |some v=>fA v fun v=>lay env mem sh aa d v K
         |none=>none)
     |_=>none
   |vals=>FW orc (.dH sz ag) d vals env mem sh aa K
 |op=>FW orc op d vals env mem sh aa K
theorem LO{orc:dD}{op:AK}{d:Option Nat}{vals:List AV}{env:List (Nat×AV)}{mem:List (Nat×List AV)}{sh:Sh}{aa:aD}{K:St→Option α} :
   x1 orc op d vals env mem sh aa K=(match exec orc op vals (op.key.bind (look mem)) sh aa with
     |none=>none
     |some out=>some (⟨eA env d out.val,eb mem op.key out.cells,out.sh,out.aa⟩:St)).bind K:=by
 unfold x1;split
 · rename_i o;simp only[LN,jT,exec];cases bo o vals with
   |none=>rfl
   |some v=>rfl
 · rename_i g;simp only[xP,exec];cases cL [] vals with
   |none=>rfl
   |some cI=>
     dsimp only;cases orc.p g cI with
     |none=>rfl
     |some rs=>simp only[nN,jT];rfl
 · rename_i key off sz ag;split
   · rename_i d' o;rw[rq];have hk:((AK.b_ key off sz ag).key.bind (look mem))=look mem key:=rfl;rw[hk];cases look mem key with
     |none=>simp[exec]
     |some cs=>
       simp only[exec];by_cases h:d'=key∧o=off
       · obtain⟨rfl,rfl⟩:=h;simp only[Nat.beq_refl,Bool.and_self,cond_true,and_self,if_true];cases bN ag sz cs o with
         |none=>rfl
         |some v=>simp only[nN,jT];rfl
       · rw[if_neg h]
         have:(Nat.beq d' key && Nat.beq o off)=false:=by
           rw[Bool.eq_false_iff];intro e;simp only[Bool.and_eq_true]at e;exact h ⟨Nat.eq_of_beq_eq_true e.1,Nat.eq_of_beq_eq_true e.2⟩
         rw[this];rfl
   ·exact s_
 · rename_i sz ag;split
   · rename_i b off;rw[zq];simp only[exec];split
     · rename_i cs h;rw[h];dsimp only;cases bU cs with
       |true=>rfl
       |false=>
         simp only[cond_false,Bool.false_eq_true,if_false];cases bN ag sz cs off with
         |none=>rfl
         |some v=>simp only[nN,jT];rfl
     · rename_i h;split
       ·rfl
       · rename_i e1 e2 e3;split at e3
         ·rename_i cs e4;exact absurd e4 (h cs)
         ·cases e3
   ·exact s_
 ·exact s_
def M5(orc:dD)(o:dr)(st:St)(K:St→Option α):Option α:=match st with
 |⟨env,mem,sh,aa⟩=>match o with
   |⟨d,g,args,op⟩=>match g with
     |none=>K_ env args fun vals=>x1 orc op d vals env mem sh aa K
     |some (t,b)=>match lk env t with
       |some (.pv (.bool c))=>bif c == b then K_ env args fun vals=>x1 orc op d vals env mem sh aa K else lay env mem sh aa d .un K
       |some .un=>lay env mem sh aa d .un K
       |_=>none
theorem Ki{orc:dD}{o:dr}{st:St}{K:St→Option α}:M5 orc o st K=(dv orc o st).bind K:=by
 obtain⟨env,mem,sh,aa⟩:=st;obtain⟨d,g,args,op⟩:=o
 have run:(K_ env args fun vals=>x1 orc op d vals env mem sh aa K)=(match dB env args with
     |none=>none
     |some vals=>match exec orc op vals (op.key.bind (look mem)) sh aa with
       |none=>none
       |some out=>some (⟨eA env d out.val,eb mem op.key out.cells,out.sh,out.aa⟩:St)).bind K:=by
   rw[FU];cases dB env args with
   |none=>rfl
   |some vals=>exact LO
 cases g with
 |none=>simp only[M5,dv,ek];exact run
 |some p=>
   obtain⟨t,b⟩:=p;simp only[M5,dv,ek,rq];split
   · rename_i c h;rw[h];dsimp only;cases hc:(c == b) with
     |true=>simp only[cond_true];exact run
     |false=>simp only[cond_false,jT];rfl
   ·rename_i h;rw[h];simp only[jT];rfl
   · rename_i h1 h2;split
     ·rfl
     ·rename_i e;split at e<;>simp_all
     ·rename_i e;split at e<;>simp_all
def Ih(orc:dD):List dr→St→(St→Option α)→Option α
 |[],st,K=>K st
 |o::r,st,K=>M5 orc o st fun st=>Ih orc r st K
theorem Av{orc:dD}:∀{l:List dr} {st:St} {K:St→Option α},Ih orc l st K=(a9 orc l st).bind K
 |[],_,_=>rfl
 |o::r,st,K=>by
   simp only[Ih,a9];rw[Ki];cases dv orc o st with
   |none=>rfl
   |some s=>exact Av
def Aw(f:St→(aU→St→Option α)→Option α)(pre:St→St):Nat→St→(aU→St→Option α)→Option α
 |0,_,_=>none
 |n+1,st,K=>Kd (pre st) fun st=>f st fun e st=>match e with
   | .normal=>Aw f pre n st K
   |e=>K e st
def I8(live:List Nat)(v:AV):Bool:=match v with
 | .aK d _=>live.contains d
 | .g_ d _=>live.contains d
 | .pv _=>true
 | .own ..=>true
 | .agg cs=>ew cs
 |v=>bm v
theorem FX{live:List Nat}{v:AV}:I8 live v=dC live v:=by cases v<;>rfl
def LP(live:List Nat)(env:List (Nat×AV)):List Nat→(List (Nat×AV)→Option α)→Option α
 |[],K=>K []
 |t::r,K=>match lk env t with
   |some v=>LP live env r fun e=>bif I8 live v then K ((t,v)::e) else K e
   |none=>LP live env r K
theorem zt{live:List Nat}{env:List (Nat×AV)}:∀{l:List Nat} {K:List (Nat×AV)→Option α},LP live env l K=K (bn live env l)
 |[],_=>rfl
 |t::r,K=>by
   simp only[LP,bn,rq];cases look env t with
   |none=>exact zt
   |some v=>
     dsimp only;rw[zt,FX];cases dC live v<;>simp
def LQ(mem:List (Nat×List AV)):List Nat→(List (Nat×List AV)→Option α)→Option α
 |[],K=>K []
 |t::r,K=>match lk mem t with
   |some v=>LQ mem r fun e=>K ((t,v)::e)
   |none=>LQ mem r K
theorem zu{mem:List (Nat×List AV)}:∀{l:List Nat} {K:List (Nat×List AV)→Option α},LQ mem l K=K (bq mem l)
 |[],_=>rfl
 |t::r,K=>by
   simp only[LQ,bq,rq];cases look mem t with
   |none=>exact zu
   |some v=>exact zu
def rs(live:List Nat)(st:St)(K:St→Option α):Option α:=match st with
 |⟨env,mem,sh,aa⟩=>LP live env live fun env=>LQ mem live fun mem=>K ⟨env,mem,sh,aa⟩
theorem LR{live:List Nat}{st:St}{K:St→Option α}:rs live st K=K (restrict live st):=by
 obtain⟨env,mem,sh,aa⟩:=st;simp only[rs];rw[zt,zu];rfl
def I9(K:aU→St→Option α):Option (aU×St)→Option α
 |some (e,st)=>K e st
 |none=>none
def cF(orc:dD)(k:Nat):ae→St→(aU→St→Option α)→Option α
 | .skip,st,K=>K .normal st
 | .gk ops live,st,K=>Ih orc ops st fun st=>rs live st fun st=>K .normal st
 | .seq a b,st,K=>cF orc k a st fun e st=>match e with
   | .normal=>cF orc k b st K
   |e=>K e st
 | .cond c a b,st,K=>match fm st.env c with
   |some (.pv (.bool t))=>match t with
     |true=>cF orc k a st K
     |false=>cF orc k b st K
   |_=>none
 | .block id b,st,K=>cF orc k b st fun e st=>match e with
   | .exit id'=>if id'=id then K .normal st else K (.exit id') st
   |e=>K e st
 | .loop live b,st,K=>Aw (cF orc k b) (fun s=>norm (restrict live s)) k st K
 | .back c gb pi px sz ag live x y,st,K=>I9 K (cv orc k (.back c gb pi px sz ag live x y) st)
 | .exit id,st,K=>K (.exit id) st
 | .ret,st,K=>K .ret st
 | .iC ts,st,K=>K .normal (ku ts st)
 | .IY ds,st,K=>bif gm st.env ds then K .normal st else none
 | .jv ps,st,K=>Kd (rR ps st) fun st=>K .normal st
 | .jz ts,st,K=>Kd (wV ts st) fun st=>K .normal st
 | .IZ ts,st,K=>Kd (gH ts st) fun st=>K .normal st
theorem we{f:St→(aU→St→Option α)→Option α}{g:St→Option (aU×St)}{pre:St→St}(h:∀st K,f st K=I9 K (g st)):∀{n:Nat} {st:St} {K:aU→St→Option α},Aw f pre n st K=I9 K (eg g pre n st)
 |0,_,_=>rfl
 |n+1,st,K=>by
   simp only[Aw,eg];rw[p6,h];cases g (pre st) with
   |none=>rfl
   |some q=>
     obtain⟨e,s⟩:=q;cases e with
     |normal=>exact we h
     |ret=>rfl
     |exit id=>rfl
theorem p7{orc:dD}{k:Nat}:∀{c:ae} {st:St} {K:aU→St→Option α},cF orc k c st K=I9 K (cv orc k c st)
 | .skip,_,_=>rfl
 | .gk ops live,st,K=>by
   simp only[cF,cv];rw[Av];cases a9 orc ops st with
   |none=>rfl
   |some s=>simp only[Option.bind_some,LR,I9]
 | .seq a b,st,K=>by
   simp only[cF,cv];rw[p7];cases cv orc k a st with
   |none=>rfl
   |some q=>
     obtain⟨e,s⟩:=q;cases e with
     |normal=>simp only[I9];exact p7
     |ret=>rfl
     |exit id=>rfl
 | .cond c a b,st,K=>by
   simp only[cF,cv];split
   · rename_i t h;rw[h];cases t with
     |true=>exact p7
     |false=>exact p7
   · rename_i h;split
     ·rename_i t h';exact absurd h' (h t)
     ·rfl
 | .block id b,st,K=>by
   simp only[cF,cv];rw[p7];cases cv orc k b st with
   |none=>rfl
   |some q=>
     obtain⟨e,s⟩:=q;cases e with
     |normal=>rfl
     |ret=>rfl
     |exit id'=>
       simp only[I9];split<;>rfl
 | .loop live b,st,K=>by
   simp only[cF,cv];exact we (g:=cv orc k b) fun _ _=>p7
 | .back c gb pi px sz ag live x y,_,_=>by simp only[cF]
 | .exit id,_,_=>rfl
 | .ret,_,_=>rfl
 | .iC _,_,_=>rfl
 | .IY ds,st,K=>by
   simp only[cF,cv];cases gm st.env ds<;>rfl
 | .jv ps,st,K=>by
   simp only[cF,cv];rw[p6];rfl
 | .jz ps,st,K=>by
   simp only[cF,cv];rw[p6];rfl
 | .IZ ps,st,K=>by
   simp only[cF,cv];rw[p6];rfl
def Ii(aR:Bool)(af:aA)(sh0:Sh)(e:aU)(st:St)(K:List AV→Sh→aD→Option α):Option α:=
 match e with
 | .exit _=>none
 |_=>match dL st af.results with
   |some vs=>
     LJ (bV aR af.ks st.sh vs) fun rs=>
     let sh':=if rs.all (aG sh0.length)=true then (d6 aR af.ks st.sh vs).take sh0.length else d6 aR af.ks st.sh vs
     if rs.all bu=true then
       match cC st.aa rs sh' with
       |(rs,sh,_,ts)=>LJ rs fun rs=>K9 sh fun sh=>fT ts fun ts=>K rs sh ts
     else none
   |none=>none
def Dr(K:List AV→Sh→aD→Option α):Option (List AV×Sh×aD)→Option α
 |some (a,b,c)=>K a b c
 |none=>none
theorem Ij{aR:Bool}{af:aA}{sh0:Sh}{e:aU}{st:St}{K:List AV→Sh→aD→Option α}:Ii aR af sh0 e st K=Dr K (finish aR af sh0 (some (e,st))):=by
 cases e with
 |exit id=>rfl
 |normal=>
   simp only[Ii,finish];cases dL st af.results with
   |none=>rfl
   |some vs=>
     simp only[pZ,or_true,if_true];split
     ·simp only[pZ,mQ,rn,Dr]
     ·rfl
 |ret=>
   simp only[Ii,finish];cases dL st af.results with
   |none=>rfl
   |some vs=>
     simp only[pZ,true_or,if_true];split
     ·simp only[pZ,mQ,rn,Dr]
     ·rfl
def ru(orc:dD)(k:Nat)(aR:Bool)(af:aA)(args:List AV)(sh:Sh)(ts:aD)(K:List AV→Sh→aD→Option α):Option α:=
 Kd { env:=bK 0 args,mem:=[],sh,aa:=ts } fun st=>cF orc k af.body st fun e st=>Ii aR af sh e st K
theorem lW{orc:dD}{k:Nat}{aR:Bool}{af:aA}{args:List AV}{sh:Sh}{ts:aD}{K:List AV→Sh→aD→Option α}:ru orc k aR af args sh ts K=Dr K (bL orc k aR af args sh ts):=by
 unfold ru;rw[p6,p7,eL];cases cv orc k af.body { env:=bK 0 args,mem:=[],sh,aa:=ts } with
 |none=>rfl
 |some q=>obtain⟨e,s⟩:=q;simp only[I9];exact Ij
def Du(AP:Nat→Option aA)(k:Nat):Nat→dD
 |0=>{ p:=fun _ _=>none,i:=fun _ _ _ _=>none }
 |n+1=>
   { p:=fun g cI=>match AP g with
       |some af=>match af.mw with
         |some f=>f.f (Du AP k n).p cI
         |none=>if cI.length=af.nparams∧cI.length≤af.ntmps then ru (Du AP k n) k false af (cI.map .pv) [] [] fun rs _ _=>eB rs else none
       |none=>none
     i:=fun g args sh ts=>match AP g with
       |some af=>if args.length≤af.ntmps then ru (Du AP k n) k true af args sh ts fun a b c=>some (a,b,c) else none
       |none=>none }
theorem Ax{AP:Nat→Option aA}{k:Nat}:∀n,Du AP k n=run AP k n
 |0=>rfl
 |n+1=>by
   have ih:=Ax (AP:=AP) (k:=k) n;simp only[Du,run];congr 1
   · funext g cI
     cases AP g with
     |none=>rfl
     |some af=>
       dsimp only;cases af.mw with
       |some f=>dsimp only;rw[ih]
       |none=>
         dsimp only;split
         · rw[lW,ih];cases bL (run AP k n) k false af (cI.map .pv) [] [] with
           |none=>rfl
           |some q=>rfl
         ·rfl
   · funext g args sh ts
     cases AP g with
     |none=>rfl
     |some af=>
       dsimp only;split
       · rw[lW,ih];cases bL (run AP k n) k true af args sh ts with
         |none=>rfl
         |some q=>rfl
       ·rfl
theorem FY{AP:Nat→Option aA}{k n g:Nat}{x rs:List PV}(h:(Du AP k n).p g x=some rs):(aC AP).p g x=some rs:=by
 rw[Ax]at h;exact pz (oz g x) (show (run AP (max k n) (max k n)).p g x=some rs from (cp (Nat.le_max_right k n) (Nat.le_max_left k n)).p _ _ _ h)
def qG(AP:Nat→Option aA)(ov:Nat→List PV→Option (List PV))(k:Nat):Nat→dD
 |0=>{ p:=ov,i:=fun _ _ _ _=>none }
 |n+1=>
   { p:=fun g cI=>match ov g cI with
       |some r=>some r
       |none=>match AP g with
         |some af=>match af.mw with
           |some f=>f.f (qG AP ov k n).p cI
           |none=>if cI.length=af.nparams∧cI.length≤af.ntmps then ru (qG AP ov k n) k false af (cI.map .pv) [] [] fun rs _ _=>eB rs else none
         |none=>none
     i:=fun g args sh ts=>match AP g with
       |some af=>if args.length≤af.ntmps then ru (qG AP ov k n) k true af args sh ts fun a b c=>some (a,b,c) else none
       |none=>none }
theorem wg{AP:Nat→Option aA}{orc:dD}{k:Nat}{aR:Bool}{af:aA}{args:List AV}{sh:Sh}{ts:aD}{r:List AV×Sh×aD}(hle:orc.le (aC AP))(h:bL orc k aR af args sh ts=some r):kC AP aR af args sh ts=some r:=by
 rw[eL]at h;unfold kC;cases hc:cv orc k af.body { env:=bK 0 args,mem:=[],sh,aa:=ts } with
 |none=>rw[hc]at h;simp[finish]at h
 |some q=>
   rw[gU (bS hle (Nat.le_refl k) hc)];rw[hc]at h;exact h
theorem Ay{AP:Nat→Option aA}{ov:Nat→List PV→Option (List PV)}{k:Nat}(hov:∀g x r,ov g x=some r→(aC AP).p g x=some r):∀n,(qG AP ov k n).le (aC AP)
 |0=>⟨hov,fun g x s t r h=>by simp[qG]at h⟩
 |n+1=>by
   have ih:=Ay (k:=k) hov n;refine⟨fun g x r h=>?_,fun g x s t r h=>?_⟩
   · simp only[qG]at h;split at h
     ·rename_i r' e;rw[←h];exact hov g x r' e
     · split at h
       · rename_i af hg;cases hp:af.mw with
         |some f=>rw[hp]at h;rw[sA hg hp];exact f.mono ih.p h
         |none=>
           rw[hp]at h;simp only[Option.ite_none_right_eq_some]at h;obtain⟨⟨h1,h2⟩,h⟩:=h;rw[lW]at h;rw[I3 hg hp h1 h2];cases hb:bL (qG AP ov k n) k false af (x.map .pv) [] [] with
           |none=>rw[hb]at h;simp[Dr]at h
           |some q=>rw[wg ih hb];rw[hb]at h;exact h
       ·cases h
   · simp only[qG]at h;split at h
     · rename_i af hg;simp only[Option.ite_none_right_eq_some]at h;obtain⟨h2,h⟩:=h;rw[lW]at h;rw[I4 hg h2];cases hb:bL (qG AP ov k n) k true af x s t with
       |none=>rw[hb]at h;simp[Dr]at h
       |some q=>rw[wg ih hb];rw[hb]at h;exact h
     ·cases h
theorem LS{AP:Nat→Option aA}{ov:Nat→List PV→Option (List PV)}{k n g:Nat}{x rs:List PV}(hov:∀g x r,ov g x=some r→(aC AP).p g x=some r)(h:(qG AP ov k n).p g x=some rs):(aC AP).p g x=some rs:=(Ay hov n).p _ _ _ h
end Go.Ab.Fc
namespace Go.Ab
section
variable {P:Program} {ns:Names} {w w':World}
theorem wL.below{K:aY}(h:wL K w)(hb:RowKit.Below w.heap.size w w'):wL K w':=by
 intro b o v hk;have h1:=h b o v hk
 have hlt:b<w.heap.size:=by
   simp only[World.cell?]at h1;cases hc:w.heap[b]? with
   |none=>rw[hc]at h1;simp at h1
   |some c=>exact (Array.getElem?_eq_some_iff.1 hc).1
 have h2:=hb.block b hlt;simp only[World.cell?,h2]at h1⊢;exact h1
def jf:List PV→Option (List (List UInt8))
 |[]=>some []
 | .str s::r=>(jf r).map (s::·)
 |_=>none
theorem p8:∀{els:List PV} {xs:List (List UInt8)},jf els=some xs→els=xs.map .str
 |[],xs,h=>by simp[jf]at h;subst h;rfl
 | .str s::r,xs,h=>by
   simp only[jf,Option.map_eq_some_iff]at h;obtain⟨ys,h1,rfl⟩:=h;rw[p8 h1];rfl
 | .bool _::r,_,h=>by simp[jf]at h
 | .int _ _::r,_,h=>by simp[jf]at h
 | .az _::r,_,h=>by simp[jf]at h
 | .agg _::r,_,h=>by simp[jf]at h
def zw:List PV→Option (List PV)
 |[.az els,.str sep]=>match jf els with
   |some xs=>if xs.length≤1000000000∧(Lib.join xs sep).length≤140737488355328 then some [.str (Lib.join xs sep)] else none
   |none=>none
 |_=>none
def Nv:List PV→Option (List PV)
 |[.int .i64 n]=>if 0≤n∧n<100 then some [.str (Lib.decDigits n.toNat)] else none
 |_=>none
def lX:List PV→Option (List PV)
 |[.int .i64 n]=>if -9223372036854775808≤n∧n≤9223372036854775807 then some [.str (Lib.itoa n)] else none
 |_=>none
def tc:Array Value:=(Lib.pow10Tab.map fun z=>Value.int .u64 z).toArray
theorem zx {f:FuncId} {g:Nat} (hpin:ns.iF g=some tc) (hg:P.globalNamed "internal/strconv.uint64pow10"=some g)
   (h:∀n:Int,-9223372036854775808≤n→n≤9223372036854775807→∀w:World,Lib.TabIs P w "internal/strconv.uint64pow10" .u64 Lib.pow10Tab →
     Calls P f #[.int .i64 n] w fun e w'=>e=.returned (.string ⟨(Lib.itoa n).toArray⟩)∧∃k os,w'=Go.Sort.grow (w.drewN k) os) :
   ∀cI rs,lX cI=some rs→qM P ns f cI rs:=by
 intro cI rs hp K w vs hw hk hr;unfold lX at hp;split at hp
 · rename_i n;simp only[Option.ite_none_right_eq_some,Option.some.injEq]at hp;obtain⟨⟨h0,h1⟩,rfl⟩:=hp;simp only[gI]at hr;obtain⟨v,r,rfl,hv,rfl⟩:=hr;have hv:v=.int .i64 n:=by simpa[Rel,R] using hv
   subst hv
   have htab:Lib.TabIs P w "internal/strconv.uint64pow10" .u64 Lib.pow10Tab:=by
     obtain⟨t,z,hh⟩:=hw g _ hpin;unfold Lib.TabIs World.var?
     rw[hg,Option.bind_some,hh];rfl
   refine (h n h0 h1 w htab).mono ?_
   rintro e w' ⟨rfl,k,os,rfl⟩
   have hb:RowKit.Below w.heap.size w (Go.Sort.grow (w.drewN k) os):=⟨rfl,rfl,rfl,by simp[Go.Sort.grow],fun b hb=>by
     simp only[Go.Sort.grow,World.heap_drewN];rw[Array.getElem?_append_left hb]⟩
   exact⟨_,K,rfl,by simp[fD,Rel,R],K.le_refl,fun _ _ _ _ h=>h,hk.below hb,hb⟩
 ·simp at hp
theorem Az{K:aY}:∀{xs:List (List UInt8)} {b o sz:Nat},Row K b o sz (xs.map .str)→xs≠[]→∀(j:Nat) (x:List UInt8),xs[j]?=some x→K b (o+j)=some (.string ⟨x.toArray⟩)
 |[],_,_,_,_,h,_,_,_=>absurd rfl h
 |y::r,b,o,sz,hr,_,j,x,hj=>by
   simp only[List.map_cons,Row,R]at hr;obtain⟨⟨vs,h1,h2,rfl⟩,h4⟩:=hr;simp only[List.length_cons,List.length_nil]at h1;subst h1;cases j with
   |zero=>
     simp at hj;subst hj;exact h2 0 _ rfl
   |succ j=>
     have hj':r[j]?=some x:=(by simpa using hj);have:=Az h4 (by intro e;subst e;simp at hj') j x hj'
     rwa [show o+(0+1)+j=o+(j+1) by omega]at this
theorem Dv{f:FuncId}
   (h0:∀(a:Option Addr) (c:Nat) (sep:ByteArray) (w:World),Calls P f #[.slice a 0 c,.string sep] w fun e w'=>e=.returned (.string ⟨#[]⟩)∧w'=w)
   (h:∀(bk o c:Nat) (xs:List ByteArray) (sep:ByteArray) (w:World),(∀(j:Nat) x,xs[j]?=some x→w.cell? ⟨bk,o+j,none⟩=some (.string x))→bk<w.heap.size→xs.length≤140737488355328→xs.length≤c →
     (Lib.join (xs.map (·.data.toList)) sep.data.toList).length≤140737488355328 →
     Calls P f #[.slice (some ⟨bk,o,none⟩) xs.length c,.string sep] w fun e w'=>e=.returned (.string ⟨(Lib.join (xs.map (·.data.toList)) sep.data.toList).toArray⟩)∧RowKit.Below w.heap.size w w') :
   ∀cI rs,zw cI=some rs→qM P ns f cI rs:=by
 intro cI rs hp K w vs _ hk hr;unfold zw at hp;split at hp
 · rename_i els sep;split at hp
   · rename_i xs hxs;simp only[Option.ite_none_right_eq_some,Option.some.injEq]at hp;obtain⟨⟨hn,hl⟩,rfl⟩:=hp;have:=p8 hxs;subst this;simp only[gI]at hr;obtain⟨v,r,rfl,hv,u,r',rfl,hu,rfl⟩:=hr;have hu:u=.string ⟨sep.toArray⟩:=by simpa[Rel,R] using hu
     subst hu;obtain⟨base,len,cap,rfl,hlc,hlen,hrow⟩:=bO.1 hv;by_cases hnil:xs=[]
     · subst hnil;simp at hlen;subst hlen;refine (h0 base cap _ w).mono ?_
       rintro e w' ⟨rfl,rfl⟩
       exact⟨_,K,rfl,by simp[fD,Rel,R,Lib.join_nil],K.le_refl,fun _ _ _ _ h=>h,hk,RowKit.Below.refl _ _⟩
     · obtain⟨b,o,sz,rfl,hrow'⟩:=hrow.resolve_left (by simpa using hnil);have hx:=Az hrow' hnil;have hxl:(xs.map fun x=>(⟨x.toArray⟩:ByteArray)).length=len:=by simpa using hlen
       have hdat:(xs.map fun x=>(⟨x.toArray⟩:ByteArray)).map (fun x=>x.data.toList)=xs:=by
         rw[List.map_map];have:((fun x:ByteArray=>x.data.toList) ∘ fun x:List UInt8=>(⟨x.toArray⟩:ByteArray))=id:=by funext x;rfl
         rw[this,List.map_id]
       have hb:b<w.heap.size:=by
         cases xs with
         |nil=>exact absurd rfl hnil
         |cons x r=>
           have h1:=hk _ _ _ (hx 0 x rfl);simp only[World.cell?]at h1;cases hc:w.heap[b]? with
           |none=>rw[hc]at h1;simp at h1
           |some c=>exact (Array.getElem?_eq_some_iff.1 hc).1
       have hc:=h b o cap (xs.map fun x=>(⟨x.toArray⟩:ByteArray)) ⟨sep.toArray⟩ w (by
         intro j x hj;simp only[List.getElem?_map,Option.map_eq_some_iff]at hj;obtain⟨y,hy,rfl⟩:=hj;exact hk _ _ _ (hx j y hy)) hb (by simp;omega) (by rw[hxl];exact hlc) (by rw[hdat];exact hl)
       rw[hxl,hdat]at hc;refine hc.mono ?_
       rintro e w' ⟨rfl,hbw⟩
       exact⟨_,K,rfl,by simp[fD,Rel,R],K.le_refl,fun _ _ _ _ h=>h,hk.below hbw,hbw⟩
   ·simp at hp
 ·simp at hp
end
end Go.Ab
namespace Go.Ab
section
variable {P:Program} {w:World}
def FZ(g:Nat):Nat→Option (Array Value):=fun b=>if b=g then some tc else none
theorem Dw(g:Nat):FZ g g=some tc:=if_pos rfl
theorem zy {g:Nat} (hg:P.globalNamed "internal/strconv.uint64pow10"=some g) (h:Lib.TabIs P w "internal/strconv.uint64pow10" .u64 Lib.pow10Tab):kO (FZ g) w:=by
 intro b c e;unfold FZ at e;simp only[Option.ite_none_right_eq_some,Option.some.injEq]at e;obtain⟨rfl,rfl⟩:=e;unfold Lib.TabIs World.var? at h;rw[hg,Option.bind_some]at h;split at h
 ·rename_i cs t z hh;cases h;exact⟨t,z,hh⟩
 ·cases h
theorem ry{x:String×DataW Unit}{r:List (String×DataW Unit)}(h:laidMet P (x::r) w):laidMet P r w:=by
 obtain⟨ps,hv,hnd,hrows⟩:=h;obtain⟨n,d⟩:=x;obtain⟨g,t,cs,fuel,p,q,_,_,_,_,hq,rfl⟩:=hv;exact⟨q,hq,List.Nodup.sublist (List.sublist_append_right _ _) hnd,fun b off hm=>hrows b off (List.mem_append_right _ hm)⟩
theorem F3 {g t e:Nat} {x y:String×DataW Unit} {d:DataW Unit} (hg:P.globalNamed "internal/strconv.uint64pow10"=some g) (hty:(P.globals[g]?).map (·.type)=some t) (ht:P.underlying t=some (.array 20 e))
   (he:P.underlying e=some (.int .u64)) (hce:P.cellsOf e=1) (hct:P.cellsOf t=20) (hd:d=Lib.tabData .u64 Lib.pow10Tab) (h:laidMet P [x,y,("internal/strconv.uint64pow10",d)] w):kO (FZ g) w:=by
 subst hd;exact zy hg (Lib.tabIs_of_head hg hty ht he hce hct (ry (ry h)))
end
end Go.Ab
namespace Go.Ab
open Ev
def jU(o:Nat→List PV→Option (List PV))(g:Nat):List PV→Option (List UInt8)
 |[]=>some []
 |d::r=>match o g [d] with
   |some [.str s]=>(jU o g r).map (s++·)
   |_=>none
def eM(n:Nat):PV→Bool
 | .agg cs=>cs.length == n && cs.all da
 |_=>false
def rz(gd gb:Nat)(o:Nat→List PV→Option (List PV)):List PV→Option (List PV)
 |[.agg [.az ds,.az bs]]=>
   if ds.all (eM 4)=true∧bs.all (eM 20)=true∧ds.length<4611686018427387904∧bs.length<4611686018427387904 then
     match jU o gd ds,jU o gb bs with
     |some a,some b=>if (a++b).length≤140737488355328 then some [.str (a++b)] else none
     |_,_=>none
   else none
 |_=>none
theorem p9{o:Nat→List PV→Option (List PV)}{g:Nat}:∀{l:List PV} {s:List UInt8},jU o g l=some s →
   ∃c:List (Nat×List PV×List PV),(∀x∈c,o x.1 x.2.1=some x.2.2)∧∀o',(∀x∈c,o' x.1 x.2.1=some x.2.2)→jU o' g l=some s
 |[],s,h=>⟨[],by simp,fun _ _=>h⟩
 |d::r,s,h=>by
   simp only[jU]at h;split at h
   · rename_i t ht;simp only[Option.map_eq_some_iff]at h;obtain⟨u,hu,rfl⟩:=h;obtain⟨c,h1,h2⟩:=p9 hu;refine⟨(g,[d],[.str t])::c,?_,fun o' ho=>?_⟩
     · intro x hx;simp only[List.mem_cons]at hx;rcases hx with rfl|hx
       ·exact ht
       ·exact h1 x hx
     ·have e1:=ho _ (List.mem_cons_self);simp only[jU,e1,h2 o' (fun x hx=>ho x (List.mem_cons_of_mem _ hx)),Option.map_some]
   ·cases h
def F4(gd gb:Nat):Prim:=⟨rz gd gb,by
 intro o x r h;unfold rz at h;split at h
 · rename_i ds bs;rw[Option.ite_none_right_eq_some]at h;obtain⟨hc,h⟩:=h;split at h
   · rename_i a b ha hb;obtain⟨c1,f1,f2⟩:=p9 ha;obtain⟨c2,k1,k2⟩:=p9 hb;refine⟨c1++c2,?_,fun o' ho=>?_⟩
     · intro x hx;rcases List.mem_append.1 hx with hx|hx
       ·exact f1 x hx
       ·exact k1 x hx
     ·unfold rz;simp only;rw[if_pos hc,f2 o' (fun x hx=>ho x (List.mem_append_left _ hx)),k2 o' (fun x hx=>ho x (List.mem_append_right _ hx))];exact h
   ·cases h
 ·cases h⟩
theorem mR{sh:Sh}:∀{cs:List PV},cs.all da=true→bJ sh (cs.map .pv)=some cs
 |[],_=>rfl
 |c::cs,h=>by
   simp only[List.all_cons,Bool.and_eq_true]at h;simp only[List.map_cons,bJ];have hl:aP (.pv c)=true:=by cases c<;>first|rfl|simp[da]at h
   rw[if_pos hl,mR h.2];rfl
theorem rB{cs:List PV}(h:cs.all da=true):(cs.map AV.pv).all aP=true:=by
 rw[List.all_eq_true]at *;intro x hx;rw[List.mem_map]at hx;obtain⟨c,hc,rfl⟩:=hx;have:=h c hc;cases c<;>first|rfl|simp[da]at this
theorem kE{zs vs:List AV}(h:vs.length=zs.length):aQ zs 0 vs=vs:=by
 simp[aQ,h]
section
variable {T E:TypeId} {B b:Nat} {w w':World}
theorem lY{p:Value}{bs:List Value}(h:Lib.BuilderAt T E B b p bs w)(hw:∀k,k<w.heap.size→w'.heap[k]?=w.heap[k]?):Lib.BuilderAt T E B b p bs w':=by
 have hlt:=h.lt;obtain⟨h1,v,h2,h3,h4⟩:=h;refine⟨h1,v,by rw[hw b hlt];exact h2,⟨h3.1,?_⟩,h4⟩;rcases h3.2 with h5|⟨g,cap,cur,e1,e2,e3,e4⟩
 ·exact .inl h5
 ·have hg:g<w.heap.size:=(Array.getElem?_eq_some_iff.1 e3).1;exact .inr ⟨g,cap,cur,e1,e2,by rw[hw g hg];exact e3,e4⟩
theorem tg{bs:List Value}(h:Lib.IsBuilder T E B b bs w)(hw:∀k,k<w.heap.size→w'.heap[k]?=w.heap[k]?):Lib.IsBuilder T E B b bs w':=
 h.imp (fun h=>lY h hw) (fun h=>lY h hw)
end
structure Wd(T E:TypeId)(B b:Nat)(acc:List UInt8)(w1 w:World):Prop where
 below:RowKit.Below B w1 w
 le:B≤w.heap.size
 jV:Lib.IsBuilder T E B b (Lib.byteCells acc) w
def DT(K:aY):Gh:={ K,role:=fun _=>.dQ,pm:=fun _=>none,sm:=fun _=>none,tk:=fun _=>none }
section
variable {P:Program} {ns:Names}
theorem LU{K:aY}{w:World}(hpin:kO ns.iF w)(hK:wL K w):Inv (num ns) (DT K) w [] [] [] where
 known:=hK
 aT:=fun _ _ _ _=>.inl rfl
 fresh:=fun _ _=>rfl
 cD:=fun d c h=>by simp[look]at h
 e7:=fun d b h=>by simp[DT]at h
 cX:=fun s c h=>by simp at h
 dT:=fun s b h=>by simp[DT]at h
 cQ:=fun τ n h=>by simp at h
 ed:=fun τ t h=>by simp[DT]at h
 iF:=fun b c hb=>⟨rfl,hpin b c hb⟩
theorem Ik{K:aY}{w w':World}{G':Gh}(h:bw (DT K) w G' w'):∀k,k<w.heap.size→w'.heap[k]?=w.heap[k]?:=fun k hk=>(h.dQ k hk rfl).2
theorem Dx{K:aY}{w w':World}{G':Gh}(h:bw (DT K) w G' w'){B:Nat}(hB:B≤w.heap.size):RowKit.Below B w w':=
 ⟨h.os,h.tape,h.output,h.size,fun k hk=>(h.dQ k (Nat.lt_of_lt_of_le hk hB) rfl).2⟩
theorem Wd.na{T E:TypeId}{B b:Nat}{acc:List UInt8}{w1 w w':World}{K:aY}{G':Gh}(h:Wd T E B b acc w1 w)(he:bw (DT K) w G' w'):Wd T E B b acc w1 w':=
 ⟨h.below.trans (Dx he h.le),Nat.le_trans h.le he.size,tg h.jV (Ik he)⟩
theorem fG{n:Nat}{ops:Array Oper}{Q:Exit→Act→World→Prop}{rest:List Oper}{o:Oper}{a:Act}{w w':World}{v:Value}(hd:∀c,o.op≠.defer c)(hg:o.guard=none)
   (hr:(execOp a.eval o).run P w=.ok (.value v) w') (h:wpListIn Fence.wide n P ops Q rest (a.put o.dst v) w'):wpListIn Fence.wide n P ops Q (o::rest) a w:=by
 unfold wpListIn;have hw:Region.wanted o (yielded ops a.tmps)=true:=by simp[Region.wanted,hg]
 rw[if_pos hw];refine ou (ro:=none) hd ?_;unfold Oper.wp;rw[hr];exact h
theorem F5{o:Oper}{E:Operand→Value}{T:TypeId}(h:o.op=.alloc T):execOp E o=(do let v ←Instr.alloc T true (.tuple #[]);pure (Next.value v):Sem Next):=by
 obtain⟨dst,op,type,pos,after,guard⟩:=o;simp only at h;subst h;rfl
theorem Kj{o:Oper}{E:Operand→Value}{T:TypeId}{x:Operand}(h:o.op=.box T x):execOp E o=(do let v ←Instr.box T (E x);pure (Next.value v):Sem Next):=by
 obtain⟨dst,op,type,pos,after,guard⟩:=o;simp only at h;subst h;rfl
theorem wh{o:Oper}{E:Operand→Value}{T:TypeId}{x:Operand}{i:Nat}(h:o.op=.fieldAddr T x i):execOp E o=(do let v ←Instr.fieldAt T (E x) i;pure (Next.value v):Sem Next):=by
 obtain⟨dst,op,type,pos,after,guard⟩:=o;simp only at h;subst h;rfl
theorem AA{o:Oper}{E:Operand→Value}{T:TypeId}{x:Operand}(h:o.op=.load T x):execOp E o=(do let v ←Instr.loadAt T (E x);pure (Next.value v):Sem Next):=by
 obtain⟨dst,op,type,pos,after,guard⟩:=o;simp only at h;subst h;rfl
theorem d0{n0:Nat}{ro:Option Nat}{n:Nat}(hB:d5 P ns){orc:dD}(horc:eQ P ns orc){A:iy}{N:Nat}{ops:Array Oper}{Q:Exit→Act→World→Prop}{l:List Oper}{as:List dr}{st st':St}{G:Gh}{a:Act}{w:World}
   (hc:bP (ct P ns A N ops) l=some as) (hs:fl (num ns) n0 N G st a w) (hev:a9 orc as st=some st')
   (hq:∀G' a' w',fl (num ns) n0 N G' st' a' w'→bw G w G' w'→a'.defers=a.defers→(∀t,(∀ao∈as,ao.dst≠some t)→a'.tmps[t]?=a.tmps[t]?)→Q .normal a' w'):wpListIn (qn ro) n P ops Q l a w:=by
 have:=fE (ro:=ro) (n:=n) (rest:=[]) (Q:=Q) hB horc hc hs hev (fun G' a' w' h1 h2 h3 h4=>by unfold wpListIn;exact hq G' a' w' h1 h2 h3 h4)
 rwa [List.append_nil]at this
theorem mS{n:Nat}{ops:Array Oper}{Q:Exit→Act→World→Prop}{rest:List Oper}{o:Oper}{f:FuncId}{args:Array Operand}{types:Array TypeId}{a:Act}{w:World}(hop:o.op=.call { callee:=.value (.func f),args,argTypes:=types })(hg:o.guard=none)
   (hb:∃fn b,P.funcs[f]?=some fn∧fn.body=some b∧fn.name ≠ "runtime.NumGoroutine")
   (h:Calls P f (args.map a.eval) w fun e w'=>∃v,e=.returned v∧wpListIn Fence.wide n P ops Q rest (a.put o.dst v) w'):wpListIn Fence.wide n P ops Q (o::rest) a w:=by
 unfold wpListIn;have hw:Region.wanted o (yielded ops a.tmps)=true:=by simp[Region.wanted,hg]
 rw[if_pos hw];refine ou (ro:=none) (by intro c e;rw[hop]at e;cases e) ?_;obtain⟨fn,b,h1,h2,h3⟩:=hb
 have hr:(execOp a.eval o).run P w=.ok (.enter f (args.map a.eval)) w:=by
   obtain⟨dst,op,type,pos,after,guard⟩:=o;simp only at hop;subst hop;simp[execOp,resolve,Act.eval,Deferred.ofValue,invoke,callFunc,h1,h2,h3]
 unfold Oper.wp;rw[hr];refine Calls.mono h ?_
 rintro e w' ⟨v,rfl,h⟩
 exact h
structure lZ(P:Program)(ns:Names)(f gd gb:Nat) where
 fn:Func
 A:iy
 T:TypeId
 E:TypeId
 Tp:TypeId
 fw:Nat
 fs:Nat
 t1:Array TypeId
 t2:Array TypeId
 t3:Array TypeId
 tf:TypeId
 f0:Nat
 f1:Nat
 M6:Field
 M7:Field
 s0:Nat
 s1:Nat
 td:TypeId
 tb:TypeId
 bx:Oper
 rs:Oper
 al:Oper
 fa:Oper
 ld:Oper
 r2:List Oper
 o3:Array Oper
 o4:Array Oper
 l5:List Oper
 w5:Oper
 o6:Array Oper
 Il:Oper
 Im:Oper
 r7:List Oper
 o8:Array Oper
 o9:Array Oper
 l10:List Oper
 F6:Oper
 Kk:Array Oper
 st:Oper
 fi:Oper
 i0:Nat
 i1:Nat
 i2:Nat
 i3:Nat
 i4:Nat
 i5:Nat
 i6:Nat
 i7:Nat
 i8:Nat
 i9:Nat
 wM:Nat
 LV:Nat
 M8:Nat
 b0:Nat
 b1:Nat
 b2:Nat
 b3:Nat
 hf:P.funcs[f]?=some fn
 pN:fn.body=some (.seq (.region i0 #[bx,rs] false) (.seq (.region i1 #[al] false) (.seq (.seq (.region i2 (fa::ld::r2).toArray false) (.block b0 (.loop (.seq (.region i3 o3 false) (.seq (.cond (.tmp 12) .skip (.exit b0)) (.seq (.block b1 (.seq (.region i4 o4 false) (.region i5 (l5++[w5]).toArray false))) (.region i6 o6 false)))))))
   (.seq (.seq (.region i7 (Il::Im::r7).toArray false) (.block b2 (.loop (.seq (.region i8 o8 false) (.seq (.cond (.tmp 23) .skip (.exit b2)) (.seq (.block b3 (.seq (.region i9 o9 false) (.region wM (l10++[F6]).toArray false))) (.region LV Kk false))))))) (.seq (.region M8 #[st,fi] false) .ret)))))
 fx:fn.results=#[.tmp 2]
 hN:fn.ntmps=31
 LW:bx.op=.box Tp (.tmp 0)∧bx.dst=some 1∧bx.guard=none
 Kb:rs.op=.assign (.const (.string ⟨#[]⟩))∧rs.dst=some 2∧rs.guard=none
 Lb:al.op=.alloc T∧al.dst=some 3∧al.guard=none
 hz:(P.info? T).bind (·.zero)=some (.agg #[.pointer none,.slice none 0 0])
 Lc:fa.op=.fieldAddr tf (.tmp 1) f0∧fa.dst=some 8∧fa.guard=none
 NX:eF P tf f0=some M6∧M6.offset=0∧ck P M6.type=some s0∧s0≠0
 Ld:ld.op=.load td (.tmp 8)∧ld.dst=some 9∧ld.guard=none
 Nw:ck P td=some 1∧fo P td=some false
 c2:bP (ct P ns A 31 (fa::ld::r2).toArray) r2=some [⟨some 10,none,[.t 9],.v .len⟩,⟨some 11,none,[.c (.pv (.int .i64 0))],.v .mv⟩]
 Dy:Il.op=.fieldAddr tf (.tmp 1) f1∧Il.dst=some 19∧Il.guard=none
 LX:eF P tf f1=some M7∧M7.offset=1∧ck P M7.type=some s1∧s1≠0
 Dz:Im.op=.load tb (.tmp 19)∧Im.dst=some 20∧Im.guard=none
 K8:ck P tb=some 1∧fo P tb=some false
 c7:bP (ct P ns A 31 (Il::Im::r7).toArray) r7=some [⟨some 21,none,[.t 20],.v .len⟩,⟨some 22,none,[.c (.pv (.int .i64 0))],.v .mv⟩]
 c3:bP (ct P ns A 31 o3) o3.toList=some [⟨some 12,none,[.t 11,.t 10],.v (.bin .lss)⟩]
 c4:bP (ct P ns A 31 o4) o4.toList=some [⟨some 13,none,[.t 9,.t 11],.v (.ep 4)⟩,⟨some 14,none,[.t 13],.v (.eW 4 true)⟩,⟨some 5,none,[],.alloc 5 [.int .i64 0,.str [],.az [],.az []]⟩,⟨none,none,[.t 5,.t 14],.bB 5 0 4⟩]
 c5:bP (ct P ns A 31 (l5++[w5]).toArray) l5=some [⟨some 15,none,[.t 5],.b_ 5 0 4 true⟩,⟨some 16,none,[.t 15],.aL gd⟩]
 c6:bP (ct P ns A 31 o6) o6.toList=some [⟨some 18,none,[.t 11,.c (.pv (.int .i64 1))],.v (.bin .add)⟩,⟨some 11,none,[.t 18],.v .mv⟩]
 M9:w5.op=.call { callee:=.value (.func fw),args:=#[.tmp 3,.tmp 16],argTypes:=t1 }∧w5.dst=some 17∧w5.guard=none
 c8:bP (ct P ns A 31 o8) o8.toList=some [⟨some 23,none,[.t 22,.t 21],.v (.bin .lss)⟩]
 c9:bP (ct P ns A 31 o9) o9.toList=some [⟨some 24,none,[.t 20,.t 22],.v (.ep 20)⟩,⟨some 25,none,[.t 24],.v (.eW 20 true)⟩,⟨some 7,none,[],.alloc 7 [.int .i64 0,.bool false,.str [],.bool false,.int .i64 0,.str [],.int .i64 0,.int .i64 0,.az [],.int .i64 0,.int .i64 0,.str [],.int .i64 0,.az [],.az [],.int .i64 0,.str [],.int .i64 0,.int .i64 0,.az []]⟩,⟨none,none,[.t 7,.t 25],.bB 7 0 20⟩]
 c10:bP (ct P ns A 31 (l10++[F6]).toArray) l10=some [⟨some 26,none,[.t 7],.b_ 7 0 20 true⟩,⟨some 27,none,[.t 26],.aL gb⟩]
 c11:bP (ct P ns A 31 Kk) Kk.toList=some [⟨some 29,none,[.t 22,.c (.pv (.int .i64 1))],.v (.bin .add)⟩,⟨some 22,none,[.t 29],.v .mv⟩]
 Io:F6.op=.call { callee:=.value (.func fw),args:=#[.tmp 3,.tmp 27],argTypes:=t2 }∧F6.dst=some 28∧F6.guard=none
 ot:st.op=.call { callee:=.value (.func fs),args:=#[.tmp 3],argTypes:=t3 }∧st.dst=some 30∧st.guard=none
 K7:fi.op=.assign (.tmp 30)∧fi.dst=some 2∧fi.guard=none
 Nx:∃fn b,P.funcs[fw]?=some fn∧fn.body=some b∧fn.name ≠ "runtime.NumGoroutine"
 NY:∃fn b,P.funcs[fs]?=some fn∧fn.body=some b∧fn.name ≠ "runtime.NumGoroutine"
 Og:∃f,ns.of f=some gd
 Oh:∃f,ns.of f=some gb
 write:∀(B b:Nat) (bs:List Value) (s:ByteArray) (w:World),Lib.IsBuilder T E B b bs w→bs.length+s.size≤140737488355328→B≤w.heap.size →
   Calls P fw #[.pointer (some ⟨b,0,none⟩),.string s] w fun e w'=>e=.returned (.tuple #[.int .i64 s.size,.nilIface])∧(Lib.BuilderAt T E B b (.pointer (some ⟨b,0,none⟩)) (bs++Lib.strCells s) w'∧RowKit.Below B w w')
 read:∀(B b:Nat) (l:List UInt8) (w:World),Lib.IsBuilder T E B b (Lib.byteCells l) w→B≤w.heap.size →
   Calls P fs #[.pointer (some ⟨b,0,none⟩)] w fun e w'=>e=.returned (.string ⟨l.toArray⟩)∧RowKit.Below B w w'
theorem rC{o:Nat→List PV→Option (List PV)}{g:Nat}{l:List PV}{i:Nat}{el:PV}{s:List UInt8}(hi:l[i]?=some el)(h:jU o g (l.drop i)=some s) :
   ∃t u,o g [el]=some [.str t]∧jU o g (l.drop (i+1))=some u∧s=t++u:=by
 have hlt:=(List.getElem?_eq_some_iff.1 hi).1
 have e:l.drop i=el::l.drop (i+1):=by
   rw[List.drop_eq_getElem_cons hlt];congr 1;exact (List.getElem?_eq_some_iff.1 hi).2
 rw[e]at h;simp only[jU]at h;split at h
 ·rename_i t ht;simp only[Option.map_eq_some_iff]at h;obtain⟨u,hu,rfl⟩:=h;exact⟨t,u,ht,hu,rfl⟩
 ·cases h
theorem kF{K:aY}{a:Act}{w:World}{env:List (Nat×AV)}(hpin:kO ns.iF w)(hK:wL K w)(hs:a.tmps.size=31)(hd:a.defers=[])(he:∀t x,look env t=some x→∃v,a.tmps[t]?=some v∧au (num ns) (DT K) x v) :
   fl (num ns) 0 31 (DT K) { env,mem:=[],sh:=[],aa:=[] } a w:=
 ⟨⟨hs,he⟩,LU hpin hK,Nat.zero_le _,[],by simpa using hd,by simp,by simp⟩
theorem kh{P:Program}{o:Oper}{op:Op}(h:o.op=op)(hn:∀c,op≠.defer c):∀c,o.op≠.defer c:=fun c=>by rw[h];exact hn c
structure Kl(K:aY)(ds:List PV)(b b1 i:Nat)(a:Act):Prop where
 size:a.tmps.size=31
 defers:a.defers=[]
 p1:a.tmps[1]?=some (.pointer (some ⟨b1,0,none⟩))
 p3:a.tmps[3]?=some (.pointer (some ⟨b,0,none⟩))
 l:∃v,a.tmps[9]?=some v∧Rel K (.az ds) v
 n:a.tmps[10]?=some (.int .i64 ds.length)
 i:a.tmps[11]?=some (.int .i64 i)
theorem I_{orc:dD}{i n:Int}:a9 orc [⟨some 12,none,[.t 11,.t 10],.v (.bin .lss)⟩] { env:=[(11,.pv (.int .i64 i)),(10,.pv (.int .i64 n))],mem:=[],sh:=[],aa:=[] } =
   some { env:=[(11,.pv (.int .i64 i)),(10,.pv (.int .i64 n)),(12,.pv (.bool (decide (i<n))))],mem:=[],sh:=[],aa:=[] }:=by
 simp
theorem LY{orc:dD}{ds:List PV}{i:Nat}{cs:List PV}(hi:ds[i]?=some (.agg cs))(hl:cs.length=4)(hc:cs.all da=true) :
   a9 orc [⟨some 13,none,[.t 9,.t 11],.v (.ep 4)⟩,⟨some 14,none,[.t 13],.v (.eW 4 true)⟩,⟨some 5,none,[],.alloc 5 [.int .i64 0,.str [],.az [],.az []]⟩,⟨none,none,[.t 5,.t 14],.bB 5 0 4⟩] { env:=[(9,.pv (.az ds)),(11,.pv (.int .i64 i))],mem:=[],sh:=[],aa:=[] } =
   some { env:=[(9,.pv (.az ds)),(11,.pv (.int .i64 i)),(13,.eD cs),(14,.pv (.agg cs)),(5,.aK 5 0)],mem:=[(5,cs.map .pv)],sh:=[],aa:=[] }:=by
 have hi0:¬((i:Int)<0):=by omega
 have h1:(List.map AV.pv cs).all aP=true:=rB hc;have h2:cs.take 4=cs:=by rw[←hl];exact List.take_length
 have h4:4≤cs.length:=by omega
 have h3:∀zs:List AV,zs.length=4→aQ zs 0 (cs.map .pv)=cs.map .pv:=fun zs hz=>kE (by simp[hl,hz]);simp[-getElem?_pos,-List.all_map,-List.all_eq_true,-eR,hi,hi0,hl,h2,h3,h1,h4]
theorem LZ{orc:dD}{cs:List PV}{g:Nat}{s:List UInt8}{env:List (Nat×AV)}(he:look env 5=some (.aK 5 0))(hl:cs.length=4)(hc:cs.all da=true)(hg:orc.p g [.agg cs]=some [.str s]) :
   ∃env',a9 orc [⟨some 15,none,[.t 5],.b_ 5 0 4 true⟩,⟨some 16,none,[.t 15],.aL g⟩] { env,mem:=[(5,cs.map .pv)],sh:=[],aa:=[] }=some { env:=env',mem:=[(5,cs.map .pv)],sh:=[],aa:=[] }∧look env' 16=some (.pv (.str s)):=by
 have h1:bJ [] (cs.map .pv)=some cs:=mR hc;have h2:(cs.map AV.pv).take 4=cs.map .pv:=by rw[←hl];simpa using List.take_length (l:=cs.map AV.pv)
 have h4:4≤cs.length:=by omega
 refine⟨cJ (cJ env 15 (.agg (cs.map .pv))) 16 (.pv (.str s)),?_,by rw[bh]⟩;have h5:look (cJ env 15 (.agg (cs.map .pv))) 15=some (.agg (cs.map .pv)):=bh _ _ _;simp[-getElem?_pos,he,h1,h2,h4,h5,hg]
theorem L0{orc:dD}{i:Nat}(h:i<4611686018427387904):a9 orc [⟨some 18,none,[.t 11,.c (.pv (.int .i64 1))],.v (.bin .add)⟩,⟨some 11,none,[.t 18],.v .mv⟩] { env:=[(11,.pv (.int .i64 i))],mem:=[],sh:=[],aa:=[] } =
   some { env:=[(11,.pv (.int .i64 ((i:Int)+1))),(18,.pv (.int .i64 ((i:Int)+1)))],mem:=[],sh:=[],aa:=[] }:=by
 simp (disch:=omega) [aw]
theorem F7{orc:dD}(hB:d5 P ns)(horc:eQ P ns orc){f gd gb:Nat}(D:lZ P ns f gd gb){K:aY}{w0 w1:World}{ds:List PV}{b1 b B:Nat}(hpin:kO ns.iF w0)(hK:wL K w0)(h01:RowKit.Below w0.heap.size w0 w1)(hB1:w0.heap.size≤B)
   (hds:ds.all (eM 4)=true) (hlen:ds.length<4611686018427387904) {Q:Exit→Act→World→Prop} {all:List UInt8} (hall:all.length≤140737488355328) :
   ∀(j i:Nat) (a:Act) (w:World) (acc rest:List UInt8),ds.length-i=j→i≤ds.length→Kl K ds b b1 i a→Wd D.T D.E B b acc w1 w→jU orc.p gd (ds.drop i)=some rest→(∃q,all=acc++rest++q) →
     (∀a' w',Kl K ds b b1 ds.length a'→Wd D.T D.E B b (acc++rest) w1 w'→Q .normal a' w') →
     Code.roundsIn Fence.wide 0 P (.seq (.region D.i3 D.o3 false) (.seq (.cond (.tmp 12) .skip (.exit D.b0)) (.seq (.block D.b1 (.seq (.region D.i4 D.o4 false) (.region D.i5 (D.l5++[D.w5]).toArray false))) (.region D.i6 D.o6 false)))) (Exit.inBlock D.b0 Q) (j+1) a w:=by
 have gw:∀{acc:List UInt8} {w:World},Wd D.T D.E B b acc w1 w→wL K w:=fun hW=>hK.below (h01.trans (hW.below.mono hB1));have pinw:∀{acc:List UInt8} {w:World},Wd D.T D.E B b acc w1 w→kO ns.iF w:=fun hW=>hpin.below (h01.trans (hW.below.mono hB1))
 have bI:∀{G:Gh} {i:Int},au (num ns) G (.pv (.int .i64 i)) (.int .i64 i):=by intros;simp[au,Rel,R]
 intro j;induction j with
 |zero=>
   intro i a w acc rest hj hi hh hW hr hq hQ;rw[roundsIn_succ];refine wpIn_seq (wpIn_region_list ?_)
   have hs:=kF (ns:=ns) (env:=[(11,.pv (.int .i64 i)),(10,.pv (.int .i64 ds.length))]) (pinw hW) (gw hW) hh.size hh.defers (by
     intro t x hx;simp only[look]at hx;split at hx
     ·rename_i e;subst e;cases hx;exact⟨_,hh.i,bI⟩
     · split at hx
       ·rename_i e;subst e;cases hx;exact⟨_,hh.n,bI⟩
       ·cases hx)
   refine d0 (ro:=none) hB horc D.c3 hs I_ fun G1 a1 W1 hs1 he1 hd1 hk1=>?_
   change (Code.seq (.cond (.tmp 12) .skip (.exit D.b0)) _).wpIn Fence.wide 0 P _ a1 W1
   obtain⟨v8,h8,r8⟩:=hs1.env.env 12 _ rfl;simp[au,Rel,R]at r8;have hkl:i=ds.length:=by omega
   subst hkl;have hc:a1.eval (.tmp 12)=.bool false:=by simp[Act.eval,h8,r8]
   refine wpIn_seq (wpIn_cond_false hc (wpIn_exit ?_));simp only[Exit.then,Exit.inBlock,if_true];have hrest:rest=[]:=by rw[List.drop_length]at hr;simp[jU]at hr;exact hr
   subst hrest;refine hQ a1 W1 ⟨hs1.env.size,hd1.trans hh.defers,?_,?_,?_,?_,?_⟩ (by rw[List.append_nil];exact hW.na he1)
   ·rw[hk1 1 (by simp)];exact hh.p1
   ·rw[hk1 3 (by simp)];exact hh.p3
   ·rw[hk1 9 (by simp)];exact hh.l
   ·rw[hk1 10 (by simp)];exact hh.n
   ·rw[hk1 11 (by simp)];exact hh.i
 |succ j ih=>
   intro i a w acc rest hj hi hh hW hr hq hQ;have hlt:i<ds.length:=by omega
   obtain⟨el,hel⟩:∃el,ds[i]?=some el:=⟨ds[i],List.getElem?_eq_getElem hlt⟩;have hok:=List.all_eq_true.1 hds el (List.mem_of_getElem? hel);cases el with
   |agg cs=>
     simp only[eM,Bool.and_eq_true,beq_iff_eq]at hok;obtain⟨hcl,hcp⟩:=hok;obtain⟨s,u,hs1',hu,rfl⟩:=rC hel hr;rw[roundsIn_succ];refine wpIn_seq (wpIn_region_list ?_)
     have hs:=kF (ns:=ns) (env:=[(11,.pv (.int .i64 i)),(10,.pv (.int .i64 ds.length))]) (pinw hW) (gw hW) hh.size hh.defers (by
       intro t x hx;simp only[look]at hx;split at hx
       ·rename_i e;subst e;cases hx;exact⟨_,hh.i,bI⟩
       · split at hx
         ·rename_i e;subst e;cases hx;exact⟨_,hh.n,bI⟩
         ·cases hx)
     refine d0 (ro:=none) hB horc D.c3 hs I_ fun G1 a1 W1 hs1 he1 hd1 hk1=>?_
     change (Code.seq (.cond (.tmp 12) .skip (.exit D.b0)) _).wpIn Fence.wide 0 P _ a1 W1
     obtain⟨v8,h8,r8⟩:=hs1.env.env 12 _ rfl;simp[au,Rel,R]at r8;have hc:a1.eval (.tmp 12)=.bool true:=by simp[Act.eval,h8,r8];omega
     have hh1:Kl K ds b b1 i a1:=by
       refine⟨hs1.env.size,hd1.trans hh.defers,?_,?_,?_,?_,?_⟩
       ·rw[hk1 1 (by simp)];exact hh.p1
       ·rw[hk1 3 (by simp)];exact hh.p3
       ·rw[hk1 9 (by simp)];exact hh.l
       ·rw[hk1 10 (by simp)];exact hh.n
       ·rw[hk1 11 (by simp)];exact hh.i
     have hW1:=hW.na he1;refine wpIn_seq (wpIn_cond_true hc (wpIn_skip ?_))
     change (Code.seq (.block D.b1 _) _).wpIn Fence.wide 0 P _ a1 W1
     refine wpIn_seq (wpIn_block (wpIn_seq (wpIn_region_list ?_)));obtain⟨vl,hvl,rvl⟩:=hh1.l
     have hs2:=kF (ns:=ns) (env:=[(9,.pv (.az ds)),(11,.pv (.int .i64 i))]) (pinw hW1) (gw hW1) hh1.size hh1.defers (by
       intro t x hx;simp only[look]at hx;split at hx
       ·rename_i e;subst e;cases hx;exact⟨_,hvl,by simp only[au];exact rvl⟩
       · split at hx
         ·rename_i e;subst e;cases hx;exact⟨_,hh1.i,bI⟩
         ·cases hx)
     refine d0 (ro:=none) hB horc D.c4 hs2 (LY hel hcl hcp) fun G2 a2 W2 hs2' he2 hd2 hk2=>?_
     change (Code.region D.i5 (D.l5++[D.w5]).toArray false).wpIn Fence.wide 0 P _ a2 W2
     refine wpIn_region_list ?_;obtain⟨env3,hev3,hl3⟩:=LZ (orc:=orc) (env:=[(9,.pv (.az ds)),(11,.pv (.int .i64 i)),(13,.eD cs),(14,.pv (.agg cs)),(5,.aK 5 0)]) rfl hcl hcp hs1';refine fE (ro:=none) (rest:=[D.w5]) hB horc D.c5 hs2' hev3 fun G3 a3 W3 hs3 he3 hd3 hk3=>?_;have he23:=he2.trans he3
     have hW3:=hW1.na he23;obtain⟨vs,hvs,rvs⟩:=hs3.env.env 16 _ hl3;simp[au,Rel,R]at rvs;subst rvs
     have hh3:Kl K ds b b1 i a3:=by
       refine⟨hs3.env.size,(hd3.trans hd2).trans hh1.defers,?_,?_,?_,?_,?_⟩
       ·rw[hk3 1 (by simp),hk2 1 (by simp)];exact hh1.p1
       ·rw[hk3 3 (by simp),hk2 3 (by simp)];exact hh1.p3
       ·rw[hk3 9 (by simp),hk2 9 (by simp)];exact hh1.l
       ·rw[hk3 10 (by simp),hk2 10 (by simp)];exact hh1.n
       ·rw[hk3 11 (by simp),hk2 11 (by simp)];exact hh1.i
     refine mS D.M9.1 D.M9.2.2 D.Nx ?_;have hargs:(#[.tmp 3,.tmp 16]:Array Operand).map a3.eval=#[.pointer (some ⟨b,0,none⟩),.string ⟨s.toArray⟩]:=by simp[Act.eval,hh3.p3,hvs]
     rw[hargs];obtain⟨q,hq⟩:=hq
     have hsum:(Lib.byteCells acc).length+(⟨s.toArray⟩:ByteArray).size≤140737488355328:=by
       have:=congrArg List.length hq;simp at this;simp only[Lib.byteCells_length];show acc.length+s.toArray.size≤_;simp;omega
     refine (D.write B b (Lib.byteCells acc) ⟨s.toArray⟩ W3 hW3.jV hsum hW3.le).mono ?_
     rintro e w4 ⟨rfl,hb4,hbel⟩
     refine⟨_,rfl,?_⟩;have hW4:Wd D.T D.E B b (acc++s) w1 w4:=⟨hW3.below.trans hbel,Nat.le_trans hW3.le hbel.size,.inr (by rw[Lib.byteCells_append];exact hb4)⟩
     have hh4:Kl K ds b b1 i (a3.put D.w5.dst (.tuple #[.int .i64 (⟨s.toArray⟩:ByteArray).size,.nilIface])):=by
       rw[D.M9.2.1];refine⟨by simp[Act.put,hh3.size],hh3.defers,?_,?_,?_,?_,?_⟩;all_goals simp only[Act.put];rw[Array.getElem?_setIfInBounds_ne (by decide)]
       ·exact hh3.p1
       ·exact hh3.p3
       ·exact hh3.l
       ·exact hh3.n
       ·exact hh3.i
     change (Code.region D.i6 D.o6 false).wpIn Fence.wide 0 P _ _ w4
     refine wpIn_region_list ?_
     have hs5:=kF (ns:=ns) (env:=[(11,.pv (.int .i64 i))]) (pinw hW4) (gw hW4) hh4.size hh4.defers (by
       intro t x hx;simp only[look]at hx;split at hx
       ·rename_i e;subst e;cases hx;exact⟨_,hh4.i,bI⟩
       ·cases hx)
     refine d0 (ro:=none) hB horc D.c6 hs5 (L0 (by omega)) fun G6 a6 W6 hs6 he6 hd6 hk6=>?_;obtain⟨v6,h6,r6⟩:=hs6.env.env 11 _ rfl;simp[au,Rel,R]at r6
     have hh6:Kl K ds b b1 (i+1) a6:=by
       refine⟨hs6.env.size,hd6.trans hh4.defers,?_,?_,?_,?_,?_⟩
       ·rw[hk6 1 (by simp)];exact hh4.p1
       ·rw[hk6 3 (by simp)];exact hh4.p3
       ·rw[hk6 9 (by simp)];exact hh4.l
       ·rw[hk6 10 (by simp)];exact hh4.n
       ·rw[h6,r6];simp
     refine ih (i+1) a6 W6 (acc++s) u (by omega) (by omega) hh6 (hW4.na he6) hu ⟨q,by rw[hq];simp⟩ ?_;intro a' w' h1 h2;exact hQ a' w' h1 (by rw[←List.append_assoc];exact h2)
   |_=>simp[eM]at hok
structure Km(K:aY)(ds:List PV)(b b1 i:Nat)(a:Act):Prop where
 size:a.tmps.size=31
 defers:a.defers=[]
 p1:a.tmps[1]?=some (.pointer (some ⟨b1,0,none⟩))
 p3:a.tmps[3]?=some (.pointer (some ⟨b,0,none⟩))
 l:∃v,a.tmps[20]?=some v∧Rel K (.az ds) v
 n:a.tmps[21]?=some (.int .i64 ds.length)
 i:a.tmps[22]?=some (.int .i64 i)
theorem I'{orc:dD}{i n:Int}:a9 orc [⟨some 23,none,[.t 22,.t 21],.v (.bin .lss)⟩] { env:=[(22,.pv (.int .i64 i)),(21,.pv (.int .i64 n))],mem:=[],sh:=[],aa:=[] } =
   some { env:=[(22,.pv (.int .i64 i)),(21,.pv (.int .i64 n)),(23,.pv (.bool (decide (i<n))))],mem:=[],sh:=[],aa:=[] }:=by
 simp
theorem L1{orc:dD}{ds:List PV}{i:Nat}{cs:List PV}(hi:ds[i]?=some (.agg cs))(hl:cs.length=20)(hc:cs.all da=true) :
   a9 orc [⟨some 24,none,[.t 20,.t 22],.v (.ep 20)⟩,⟨some 25,none,[.t 24],.v (.eW 20 true)⟩,⟨some 7,none,[],.alloc 7 [.int .i64 0,.bool false,.str [],.bool false,.int .i64 0,.str [],.int .i64 0,.int .i64 0,.az [],.int .i64 0,.int .i64 0,.str [],.int .i64 0,.az [],.az [],.int .i64 0,.str [],.int .i64 0,.int .i64 0,.az []]⟩,⟨none,none,[.t 7,.t 25],.bB 7 0 20⟩] { env:=[(20,.pv (.az ds)),(22,.pv (.int .i64 i))],mem:=[],sh:=[],aa:=[] } =
   some { env:=[(20,.pv (.az ds)),(22,.pv (.int .i64 i)),(24,.eD cs),(25,.pv (.agg cs)),(7,.aK 7 0)],mem:=[(7,cs.map .pv)],sh:=[],aa:=[] }:=by
 have hi0:¬((i:Int)<0):=by omega
 have h1:(List.map AV.pv cs).all aP=true:=rB hc;have h2:cs.take 20=cs:=by rw[←hl];exact List.take_length
 have h4:20≤cs.length:=by omega
 have h3:∀zs:List AV,zs.length=20→aQ zs 0 (cs.map .pv)=cs.map .pv:=fun zs hz=>kE (by simp[hl,hz]);simp[-getElem?_pos,-List.all_map,-List.all_eq_true,-eR,hi,hi0,hl,h2,h3,h1,h4]
theorem L2{orc:dD}{cs:List PV}{g:Nat}{s:List UInt8}{env:List (Nat×AV)}(he:look env 7=some (.aK 7 0))(hl:cs.length=20)(hc:cs.all da=true)(hg:orc.p g [.agg cs]=some [.str s]) :
   ∃env',a9 orc [⟨some 26,none,[.t 7],.b_ 7 0 20 true⟩,⟨some 27,none,[.t 26],.aL g⟩] { env,mem:=[(7,cs.map .pv)],sh:=[],aa:=[] }=some { env:=env',mem:=[(7,cs.map .pv)],sh:=[],aa:=[] }∧look env' 27=some (.pv (.str s)):=by
 have h1:bJ [] (cs.map .pv)=some cs:=mR hc;have h2:(cs.map AV.pv).take 20=cs.map .pv:=by rw[←hl];simpa using List.take_length (l:=cs.map AV.pv)
 have h4:20≤cs.length:=by omega
 refine⟨cJ (cJ env 26 (.agg (cs.map .pv))) 27 (.pv (.str s)),?_,by rw[bh]⟩;have h5:look (cJ env 26 (.agg (cs.map .pv))) 26=some (.agg (cs.map .pv)):=bh _ _ _;simp[-getElem?_pos,he,h1,h2,h4,h5,hg]
theorem L3{orc:dD}{i:Nat}(h:i<4611686018427387904):a9 orc [⟨some 29,none,[.t 22,.c (.pv (.int .i64 1))],.v (.bin .add)⟩,⟨some 22,none,[.t 29],.v .mv⟩] { env:=[(22,.pv (.int .i64 i))],mem:=[],sh:=[],aa:=[] } =
   some { env:=[(22,.pv (.int .i64 ((i:Int)+1))),(29,.pv (.int .i64 ((i:Int)+1)))],mem:=[],sh:=[],aa:=[] }:=by
 simp (disch:=omega) [aw]
theorem F8{orc:dD}(hB:d5 P ns)(horc:eQ P ns orc){f gd gb:Nat}(D:lZ P ns f gd gb){K:aY}{w0 w1:World}{ds:List PV}{b1 b B:Nat}(hpin:kO ns.iF w0)(hK:wL K w0)(h01:RowKit.Below w0.heap.size w0 w1)(hB1:w0.heap.size≤B)
   (hds:ds.all (eM 20)=true) (hlen:ds.length<4611686018427387904) {Q:Exit→Act→World→Prop} {all:List UInt8} (hall:all.length≤140737488355328) :
   ∀(j i:Nat) (a:Act) (w:World) (acc rest:List UInt8),ds.length-i=j→i≤ds.length→Km K ds b b1 i a→Wd D.T D.E B b acc w1 w→jU orc.p gb (ds.drop i)=some rest→(∃q,all=acc++rest++q) →
     (∀a' w',Km K ds b b1 ds.length a'→Wd D.T D.E B b (acc++rest) w1 w'→Q .normal a' w') →
     Code.roundsIn Fence.wide 0 P (.seq (.region D.i8 D.o8 false) (.seq (.cond (.tmp 23) .skip (.exit D.b2)) (.seq (.block D.b3 (.seq (.region D.i9 D.o9 false) (.region D.wM (D.l10++[D.F6]).toArray false))) (.region D.LV D.Kk false)))) (Exit.inBlock D.b2 Q) (j+1) a w:=by
 have gw:∀{acc:List UInt8} {w:World},Wd D.T D.E B b acc w1 w→wL K w:=fun hW=>hK.below (h01.trans (hW.below.mono hB1));have pinw:∀{acc:List UInt8} {w:World},Wd D.T D.E B b acc w1 w→kO ns.iF w:=fun hW=>hpin.below (h01.trans (hW.below.mono hB1))
 have bI:∀{G:Gh} {i:Int},au (num ns) G (.pv (.int .i64 i)) (.int .i64 i):=by intros;simp[au,Rel,R]
 intro j;induction j with
 |zero=>
   intro i a w acc rest hj hi hh hW hr hq hQ;rw[roundsIn_succ];refine wpIn_seq (wpIn_region_list ?_)
   have hs:=kF (ns:=ns) (env:=[(22,.pv (.int .i64 i)),(21,.pv (.int .i64 ds.length))]) (pinw hW) (gw hW) hh.size hh.defers (by
     intro t x hx;simp only[look]at hx;split at hx
     ·rename_i e;subst e;cases hx;exact⟨_,hh.i,bI⟩
     · split at hx
       ·rename_i e;subst e;cases hx;exact⟨_,hh.n,bI⟩
       ·cases hx)
   refine d0 (ro:=none) hB horc D.c8 hs I' fun G1 a1 W1 hs1 he1 hd1 hk1=>?_
   change (Code.seq (.cond (.tmp 23) .skip (.exit D.b2)) _).wpIn Fence.wide 0 P _ a1 W1
   obtain⟨v8,h8,r8⟩:=hs1.env.env 23 _ rfl;simp[au,Rel,R]at r8;have hkl:i=ds.length:=by omega
   subst hkl;have hc:a1.eval (.tmp 23)=.bool false:=by simp[Act.eval,h8,r8]
   refine wpIn_seq (wpIn_cond_false hc (wpIn_exit ?_));simp only[Exit.then,Exit.inBlock,if_true];have hrest:rest=[]:=by rw[List.drop_length]at hr;simp[jU]at hr;exact hr
   subst hrest;refine hQ a1 W1 ⟨hs1.env.size,hd1.trans hh.defers,?_,?_,?_,?_,?_⟩ (by rw[List.append_nil];exact hW.na he1)
   ·rw[hk1 1 (by simp)];exact hh.p1
   ·rw[hk1 3 (by simp)];exact hh.p3
   ·rw[hk1 20 (by simp)];exact hh.l
   ·rw[hk1 21 (by simp)];exact hh.n
   ·rw[hk1 22 (by simp)];exact hh.i
 |succ j ih=>
   intro i a w acc rest hj hi hh hW hr hq hQ;have hlt:i<ds.length:=by omega
   obtain⟨el,hel⟩:∃el,ds[i]?=some el:=⟨ds[i],List.getElem?_eq_getElem hlt⟩;have hok:=List.all_eq_true.1 hds el (List.mem_of_getElem? hel);cases el with
   |agg cs=>
     simp only[eM,Bool.and_eq_true,beq_iff_eq]at hok;obtain⟨hcl,hcp⟩:=hok;obtain⟨s,u,hs1',hu,rfl⟩:=rC hel hr;rw[roundsIn_succ];refine wpIn_seq (wpIn_region_list ?_)
     have hs:=kF (ns:=ns) (env:=[(22,.pv (.int .i64 i)),(21,.pv (.int .i64 ds.length))]) (pinw hW) (gw hW) hh.size hh.defers (by
       intro t x hx;simp only[look]at hx;split at hx
       ·rename_i e;subst e;cases hx;exact⟨_,hh.i,bI⟩
       · split at hx
         ·rename_i e;subst e;cases hx;exact⟨_,hh.n,bI⟩
         ·cases hx)
     refine d0 (ro:=none) hB horc D.c8 hs I' fun G1 a1 W1 hs1 he1 hd1 hk1=>?_
     change (Code.seq (.cond (.tmp 23) .skip (.exit D.b2)) _).wpIn Fence.wide 0 P _ a1 W1
     obtain⟨v8,h8,r8⟩:=hs1.env.env 23 _ rfl;simp[au,Rel,R]at r8;have hc:a1.eval (.tmp 23)=.bool true:=by simp[Act.eval,h8,r8];omega
     have hh1:Km K ds b b1 i a1:=by
       refine⟨hs1.env.size,hd1.trans hh.defers,?_,?_,?_,?_,?_⟩
       ·rw[hk1 1 (by simp)];exact hh.p1
       ·rw[hk1 3 (by simp)];exact hh.p3
       ·rw[hk1 20 (by simp)];exact hh.l
       ·rw[hk1 21 (by simp)];exact hh.n
       ·rw[hk1 22 (by simp)];exact hh.i
     have hW1:=hW.na he1;refine wpIn_seq (wpIn_cond_true hc (wpIn_skip ?_))
     change (Code.seq (.block D.b3 _) _).wpIn Fence.wide 0 P _ a1 W1
     refine wpIn_seq (wpIn_block (wpIn_seq (wpIn_region_list ?_)));obtain⟨vl,hvl,rvl⟩:=hh1.l
     have hs2:=kF (ns:=ns) (env:=[(20,.pv (.az ds)),(22,.pv (.int .i64 i))]) (pinw hW1) (gw hW1) hh1.size hh1.defers (by
       intro t x hx;simp only[look]at hx;split at hx
       ·rename_i e;subst e;cases hx;exact⟨_,hvl,by simp only[au];exact rvl⟩
       · split at hx
         ·rename_i e;subst e;cases hx;exact⟨_,hh1.i,bI⟩
         ·cases hx)
     refine d0 (ro:=none) hB horc D.c9 hs2 (L1 hel hcl hcp) fun G2 a2 W2 hs2' he2 hd2 hk2=>?_
     change (Code.region D.wM (D.l10++[D.F6]).toArray false).wpIn Fence.wide 0 P _ a2 W2
     refine wpIn_region_list ?_;obtain⟨env3,hev3,hl3⟩:=L2 (orc:=orc) (env:=[(20,.pv (.az ds)),(22,.pv (.int .i64 i)),(24,.eD cs),(25,.pv (.agg cs)),(7,.aK 7 0)]) rfl hcl hcp hs1';refine fE (ro:=none) (rest:=[D.F6]) hB horc D.c10 hs2' hev3 fun G3 a3 W3 hs3 he3 hd3 hk3=>?_;have he23:=he2.trans he3
     have hW3:=hW1.na he23;obtain⟨vs,hvs,rvs⟩:=hs3.env.env 27 _ hl3;simp[au,Rel,R]at rvs;subst rvs
     have hh3:Km K ds b b1 i a3:=by
       refine⟨hs3.env.size,(hd3.trans hd2).trans hh1.defers,?_,?_,?_,?_,?_⟩
       ·rw[hk3 1 (by simp),hk2 1 (by simp)];exact hh1.p1
       ·rw[hk3 3 (by simp),hk2 3 (by simp)];exact hh1.p3
       ·rw[hk3 20 (by simp),hk2 20 (by simp)];exact hh1.l
       ·rw[hk3 21 (by simp),hk2 21 (by simp)];exact hh1.n
       ·rw[hk3 22 (by simp),hk2 22 (by simp)];exact hh1.i
     refine mS D.Io.1 D.Io.2.2 D.Nx ?_;have hargs:(#[.tmp 3,.tmp 27]:Array Operand).map a3.eval=#[.pointer (some ⟨b,0,none⟩),.string ⟨s.toArray⟩]:=by simp[Act.eval,hh3.p3,hvs]
     rw[hargs];obtain⟨q,hq⟩:=hq
     have hsum:(Lib.byteCells acc).length+(⟨s.toArray⟩:ByteArray).size≤140737488355328:=by
       have:=congrArg List.length hq;simp at this;simp only[Lib.byteCells_length];show acc.length+s.toArray.size≤_;simp;omega
     refine (D.write B b (Lib.byteCells acc) ⟨s.toArray⟩ W3 hW3.jV hsum hW3.le).mono ?_
     rintro e w4 ⟨rfl,hb4,hbel⟩
     refine⟨_,rfl,?_⟩;have hW4:Wd D.T D.E B b (acc++s) w1 w4:=⟨hW3.below.trans hbel,Nat.le_trans hW3.le hbel.size,.inr (by rw[Lib.byteCells_append];exact hb4)⟩
     have hh4:Km K ds b b1 i (a3.put D.F6.dst (.tuple #[.int .i64 (⟨s.toArray⟩:ByteArray).size,.nilIface])):=by
       rw[D.Io.2.1];refine⟨by simp[Act.put,hh3.size],hh3.defers,?_,?_,?_,?_,?_⟩;all_goals simp only[Act.put];rw[Array.getElem?_setIfInBounds_ne (by decide)]
       ·exact hh3.p1
       ·exact hh3.p3
       ·exact hh3.l
       ·exact hh3.n
       ·exact hh3.i
     change (Code.region D.LV D.Kk false).wpIn Fence.wide 0 P _ _ w4
     refine wpIn_region_list ?_
     have hs5:=kF (ns:=ns) (env:=[(22,.pv (.int .i64 i))]) (pinw hW4) (gw hW4) hh4.size hh4.defers (by
       intro t x hx;simp only[look]at hx;split at hx
       ·rename_i e;subst e;cases hx;exact⟨_,hh4.i,bI⟩
       ·cases hx)
     refine d0 (ro:=none) hB horc D.c11 hs5 (L3 (by omega)) fun G6 a6 W6 hs6 he6 hd6 hk6=>?_;obtain⟨v6,h6,r6⟩:=hs6.env.env 22 _ rfl;simp[au,Rel,R]at r6
     have hh6:Km K ds b b1 (i+1) a6:=by
       refine⟨hs6.env.size,hd6.trans hh4.defers,?_,?_,?_,?_,?_⟩
       ·rw[hk6 1 (by simp)];exact hh4.p1
       ·rw[hk6 3 (by simp)];exact hh4.p3
       ·rw[hk6 20 (by simp)];exact hh4.l
       ·rw[hk6 21 (by simp)];exact hh4.n
       ·rw[h6,r6];simp
     refine ih (i+1) a6 W6 (acc++s) u (by omega) (by omega) hh6 (hW4.na he6) hu ⟨q,by rw[hq];simp⟩ ?_;intro a' w' h1 h2;exact hQ a' w' h1 (by rw[←List.append_assoc];exact h2)
   |_=>simp[eM]at hok
theorem F9{orc:dD}{tl tn ti:Nat}{ds:List PV}(h:tn≠tl)(h1:ti≠tn)(h2:ti≠tl):a9 orc [⟨some tn,none,[.t tl],.v .len⟩,⟨some ti,none,[.c (.pv (.int .i64 0))],.v .mv⟩] { env:=[(tl,.pv (.az ds))],mem:=[],sh:=[],aa:=[] } =
   some { env:=[(tl,.pv (.az ds)),(tn,.pv (.int .i64 ds.length)),(ti,.pv (.int .i64 0))],mem:=[],sh:=[],aa:=[] }:=by
 have h':tl≠tn:=Ne.symm h;have h1':tn≠ti:=Ne.symm h1;have h2':tl≠ti:=Ne.symm h2;simp[h,h1,h2,h',h1',h2']
theorem step1{orc:dD}(hB:d5 P ns)(horc:eQ P ns orc){f gd gb:Nat}(D:lZ P ns f gd gb){K:aY}{w0 w1:World}{ds bs:List PV}{vd vb:Value}{ta tb:List UInt8}(hpin:kO ns.iF w0)(hK:wL K w0)
   (hw1s:w1.heap.size=w0.heap.size+1) (hbx1:w1.heap[w0.heap.size]?=some (.cells #[vd,vb] D.Tp (0,0))) (h01:RowKit.Below w0.heap.size w0 w1)
   (hd1:ds.all (eM 4)=true) (hd2:bs.all (eM 20)=true) (hd3:ds.length<4611686018427387904) (hd4:bs.length<4611686018427387904) (hlen:(ta++tb).length≤140737488355328)
   (hvd:R K false (.az ds) [vd]) (hvb:R K false (.az bs) [vb]) (ha:jU orc.p gd ds=some ta) (hb:jU orc.p gb bs=some tb) {a1:Act}
   (s1:a1.tmps.size=31∧a1.defers=[]∧a1.tmps[1]?=some (.pointer (some ⟨w0.heap.size,0,none⟩))) :
   (Code.seq (.region D.i1 #[D.al] false) (.seq (.seq (.region D.i2 (D.fa::D.ld::D.r2).toArray false) (.block D.b0 (.loop (.seq (.region D.i3 D.o3 false) (.seq (.cond (.tmp 12) .skip (.exit D.b0)) (.seq (.block D.b1 (.seq (.region D.i4 D.o4 false) (.region D.i5 (D.l5++[D.w5]).toArray false))) (.region D.i6 D.o6 false)))))))
     (.seq (.seq (.region D.i7 (D.Il::D.Im::D.r7).toArray false) (.block D.b2 (.loop (.seq (.region D.i8 D.o8 false) (.seq (.cond (.tmp 23) .skip (.exit D.b2)) (.seq (.block D.b3 (.seq (.region D.i9 D.o9 false) (.region D.wM (D.l10++[D.F6]).toArray false))) (.region D.LV D.Kk false))))))) (.seq (.region D.M8 #[D.st,D.fi] false) .ret)))).wpIn Fence.wide 0 P
     (bodyPost P D.fn fun e w'=>∃v K',e=.returned v∧fD K' [.str (ta++tb)] v∧K.le K'∧(∀b o u,b<w0.heap.size→K' b o=some u→K b o=some u)∧wL K' w'∧RowKit.Below w0.heap.size w0 w') a1 w1:=by
 have hF:∀f,Fence.wide.fn f:=fun _=>trivial;have bI:∀{G:Gh} {i:Int},au (num ns) G (.pv (.int .i64 i)) (.int .i64 i):=by intros;simp[au,Rel,R]
 obtain⟨s1a,s1b,s1c⟩:=s1;refine wpIn_seq (wpIn_region_list ?_);refine fG (w':=w1.alloc (.cells #[.pointer none,.slice none 0 0] D.T)) (v:=.pointer (some ⟨w1.heap.size,0,none⟩)) (kh (P:=P) D.Lb.1 (by simp)) D.Lb.2.2 ?_ ?_
 · have h1:=D.Lb.1;have h2:=D.hz;cases hi:P.info? D.T with
   |none=>simp[hi]at h2
   |some inf=>
     simp[hi]at h2;have hz:(zeroValue D.T).run P w1=.ok (.agg #[.pointer none,.slice none 0 0]) w1:=by simp[zeroValue,typeInfo,hi,h2]
     have h3:=F5 (E:=a1.eval) D.Lb.1;rw[h3];simp only[Instr.alloc,Sem.run_bind,hz,Result.andThen_ok,fy,Sem.run_pure];rfl
 rw[D.Lb.2.1]
 change (Code.seq (.seq (.region D.i2 _ false) _) _).wpIn Fence.wide 0 P _ _ _
 have hW2:Wd D.T D.E w1.heap.size w1.heap.size [] w1 (w1.alloc (.cells #[.pointer none,.slice none 0 0] D.T)):=
   ⟨(RowKit.Below.refl _ _).alloc (Nat.le_refl _) _,((RowKit.Below.refl w1.heap.size w1).alloc (Nat.le_refl _) _).size,Lib.fresh_isBuilder D.T D.E w1⟩
 generalize w1.alloc (.cells #[.pointer none,.slice none 0 0] D.T)=w2 at hW2⊢
 have s2:∀a2:Act,a2=a1.put (some 3) (.pointer (some ⟨w1.heap.size,0,none⟩))→a2.tmps.size=31∧a2.defers=[]∧a2.tmps[1]?=some (.pointer (some ⟨w0.heap.size,0,none⟩))∧a2.tmps[3]?=some (.pointer (some ⟨w1.heap.size,0,none⟩)):=by
   rintro a2 rfl
   refine⟨by simp[Act.put,s1a],s1b,?_,by simp[Act.put,s1a]⟩;simp only[Act.put];rw[Array.getElem?_setIfInBounds_ne (by decide)];exact s1c
 obtain⟨s2a,s2b,s2c,s2d⟩:=s2 _ rfl;generalize a1.put (some 3) (.pointer (some ⟨w1.heap.size,0,none⟩))=a2 at s2a s2b s2c s2d⊢;have hB1:w0.heap.size≤w1.heap.size:=by omega
 have gw:∀{acc:List UInt8} {w:World},Wd D.T D.E w1.heap.size w1.heap.size acc w1 w→wL K w:=fun hW=>hK.below (h01.trans (hW.below.mono hB1));have pinw:∀{acc:List UInt8} {w:World},Wd D.T D.E w1.heap.size w1.heap.size acc w1 w→kO ns.iF w:=fun hW=>hpin.below (h01.trans (hW.below.mono hB1))
 have boxAt:∀{acc:List UInt8} {w:World},Wd D.T D.E w1.heap.size w1.heap.size acc w1 w→w.heap[w0.heap.size]?=some (.cells #[vd,vb] D.Tp (0,0)):=fun hW=>(hW.below.block _ (by omega)).trans hbx1
 have hrel:aq (num ns) (DT K) [.pv (.az ds),.pv (.az bs)] [vd,vb]:=by
   simp only[aq,au];exact⟨vd,[vb],rfl,hvd,vb,[],rfl,hvb,rfl⟩
 refine wpIn_seq (wpIn_seq (wpIn_region_list ?_));have hl2:(D.fa::D.ld::D.r2).toArray.toList=D.fa::D.ld::D.r2:=by simp
 rw[hl2];refine fG (w':=w2) (v:=.pointer (some ⟨w0.heap.size,0,none⟩)) (kh (P:=P) D.Lc.1 (by simp)) D.Lc.2.2 ?_ ?_
 ·have h1:=D.Lc.1;obtain⟨k1,k2,k3,k4⟩:=D.NX;have h2:=fW (P:=P) (w:=w2) k1 k3 k4 w0.heap.size 0;rw[k2]at h2;have h3:=wh (E:=a2.eval) D.Lc.1;have h4:a2.eval (.tmp 1)=.pointer (some ⟨w0.heap.size,0,none⟩):=(by simp[Act.eval,s2c]);rw[h3,h4];simp only[Sem.run_bind,h2,Result.andThen_ok,Sem.run_pure]
 rw[D.Lc.2.1];obtain⟨u9,g9,r9⟩:=en (ns:=ns) (w:=w2) (off:=0) (x:=.pv (.az ds)) D.Nw.1 D.Nw.2 rfl hrel (eJ (boxAt hW2));refine fG (w':=w2) (v:=u9) (kh (P:=P) D.Ld.1 (by simp)) D.Ld.2.2 ?_ ?_
 ·have h1:=D.Ld.1;have h3:=AA (E:=(a2.put (some 8) (.pointer (some ⟨w0.heap.size,0,none⟩))).eval) D.Ld.1;have h4:(a2.put (some 8) (.pointer (some ⟨w0.heap.size,0,none⟩))).eval (.tmp 8)=.pointer (some ⟨w0.heap.size,0,none⟩):=(by simp[Act.eval,Act.put,s2a]);rw[h3,h4];simp[Instr.loadAt,Instr.sureAddr,g9]
 rw[D.Ld.2.1]
 have s3:∀a3:Act,a3=(a2.put (some 8) (.pointer (some ⟨w0.heap.size,0,none⟩))).put (some 9) u9→a3.tmps.size=31∧a3.defers=[]∧a3.tmps[1]?=some (.pointer (some ⟨w0.heap.size,0,none⟩))∧a3.tmps[3]?=some (.pointer (some ⟨w1.heap.size,0,none⟩))∧a3.tmps[9]?=some u9:=by
   rintro a3 rfl
   refine⟨by simp[Act.put,s2a],s2b,?_,?_,by simp[Act.put,s2a]⟩;all_goals simp only[Act.put];rw[Array.getElem?_setIfInBounds_ne (by decide),Array.getElem?_setIfInBounds_ne (by decide)]
   ·exact s2c
   ·exact s2d
 obtain⟨s3a,s3b,s3c,s3d,s3e⟩:=s3 _ rfl;generalize (a2.put (some 8) (.pointer (some ⟨w0.heap.size,0,none⟩))).put (some 9) u9=a3 at s3a s3b s3c s3d s3e⊢
 have hs3:=kF (ns:=ns) (env:=[(9,.pv (.az ds))]) (pinw hW2) (gw hW2) s3a s3b (by
   intro t x hx;simp only[look]at hx;split at hx
   ·rename_i e;subst e;cases hx;exact⟨_,s3e,r9⟩
   ·cases hx)
 refine d0 (ro:=none) hB horc D.c2 hs3 (F9 (by decide) (by decide) (by decide)) fun G4 a4 W4 hs4 he4 hd4' hk4=>?_;obtain⟨v10,h10,r10⟩:=hs4.env.env 10 _ rfl;obtain⟨v11,h11,r11⟩:=hs4.env.env 11 _ rfl;simp[au,Rel,R]at r10 r11
 have hh4:Kl K ds w1.heap.size w0.heap.size 0 a4:=by
   refine⟨hs4.env.size,hd4'.trans s3b,?_,?_,?_,?_,?_⟩
   ·rw[hk4 1 (by simp)];exact s3c
   ·rw[hk4 3 (by simp)];exact s3d
   ·rw[hk4 9 (by simp)];exact⟨u9,s3e,by simpa only[au,DT] using r9⟩
   ·rw[h10,r10]
   ·rw[h11,r11];simp
 change (Code.block D.b0 _).wpIn Fence.wide 0 P _ a4 W4
 refine wpIn_block (wpIn_loop_rounds (ds.length+1) ?_);refine F7 hB horc D hpin hK h01 hB1 hd1 hd3 hlen ds.length 0 a4 W4 [] ta (by omega) (by omega) hh4 (hW2.na he4) ha ⟨tb,by simp⟩ fun a5 W5 hh5 hW5=>?_;rw[List.nil_append]at hW5
 change (Code.seq (.seq (.region D.i7 _ false) _) _).wpIn Fence.wide 0 P _ a5 W5
 refine wpIn_seq (wpIn_seq (wpIn_region_list ?_));have hl7:(D.Il::D.Im::D.r7).toArray.toList=D.Il::D.Im::D.r7:=by simp
 rw[hl7];refine fG (w':=W5) (v:=.pointer (some ⟨w0.heap.size,1,none⟩)) (kh (P:=P) D.Dy.1 (by simp)) D.Dy.2.2 ?_ ?_
 ·have h1:=D.Dy.1;obtain⟨k1,k2,k3,k4⟩:=D.LX;have h2:=fW (P:=P) (w:=W5) k1 k3 k4 w0.heap.size 0;rw[k2]at h2;have h3:=wh (E:=a5.eval) D.Dy.1;have h4:a5.eval (.tmp 1)=.pointer (some ⟨w0.heap.size,0,none⟩):=(by simp[Act.eval,hh5.p1]);rw[h3,h4];simp only[Sem.run_bind,h2,Result.andThen_ok,Sem.run_pure]
 rw[D.Dy.2.1];obtain⟨u20,g20,r20⟩:=en (ns:=ns) (w:=W5) (off:=1) (x:=.pv (.az bs)) D.K8.1 D.K8.2 rfl hrel (eJ (boxAt hW5));refine fG (w':=W5) (v:=u20) (kh (P:=P) D.Dz.1 (by simp)) D.Dz.2.2 ?_ ?_
 ·have h1:=D.Dz.1;have h3:=AA (E:=(a5.put (some 19) (.pointer (some ⟨w0.heap.size,1,none⟩))).eval) D.Dz.1;have h4:(a5.put (some 19) (.pointer (some ⟨w0.heap.size,1,none⟩))).eval (.tmp 19)=.pointer (some ⟨w0.heap.size,1,none⟩):=(by simp[Act.eval,Act.put,hh5.size]);rw[h3,h4];simp[Instr.loadAt,Instr.sureAddr,g20]
 rw[D.Dz.2.1]
 have s6:∀a6:Act,a6=(a5.put (some 19) (.pointer (some ⟨w0.heap.size,1,none⟩))).put (some 20) u20→a6.tmps.size=31∧a6.defers=[]∧a6.tmps[1]?=some (.pointer (some ⟨w0.heap.size,0,none⟩))∧a6.tmps[3]?=some (.pointer (some ⟨w1.heap.size,0,none⟩))∧a6.tmps[20]?=some u20:=by
   rintro a6 rfl
   refine⟨by simp[Act.put,hh5.size],hh5.defers,?_,?_,by simp[Act.put,hh5.size]⟩;all_goals simp only[Act.put];rw[Array.getElem?_setIfInBounds_ne (by decide),Array.getElem?_setIfInBounds_ne (by decide)]
   ·exact hh5.p1
   ·exact hh5.p3
 obtain⟨s6a,s6b,s6c,s6d,s6e⟩:=s6 _ rfl;generalize (a5.put (some 19) (.pointer (some ⟨w0.heap.size,1,none⟩))).put (some 20) u20=a6 at s6a s6b s6c s6d s6e⊢
 have hs6:=kF (ns:=ns) (env:=[(20,.pv (.az bs))]) (pinw hW5) (gw hW5) s6a s6b (by
   intro t x hx;simp only[look]at hx;split at hx
   ·rename_i e;subst e;cases hx;exact⟨_,s6e,r20⟩
   ·cases hx)
 refine d0 (ro:=none) hB horc D.c7 hs6 (F9 (by decide) (by decide) (by decide)) fun G7 a7 W7 hs7 he7 hd7' hk7=>?_;obtain⟨v21,h21,r21⟩:=hs7.env.env 21 _ rfl;obtain⟨v22,h22,r22⟩:=hs7.env.env 22 _ rfl;simp[au,Rel,R]at r21 r22
 have hh7:Km K bs w1.heap.size w0.heap.size 0 a7:=by
   refine⟨hs7.env.size,hd7'.trans s6b,?_,?_,?_,?_,?_⟩
   ·rw[hk7 1 (by simp)];exact s6c
   ·rw[hk7 3 (by simp)];exact s6d
   ·rw[hk7 20 (by simp)];exact⟨u20,s6e,by simpa only[au,DT] using r20⟩
   ·rw[h21,r21]
   ·rw[h22,r22];simp
 change (Code.block D.b2 _).wpIn Fence.wide 0 P _ a7 W7
 refine wpIn_block (wpIn_loop_rounds (bs.length+1) ?_);refine F8 hB horc D hpin hK h01 hB1 hd2 hd4 hlen bs.length 0 a7 W7 ta tb (by omega) (by omega) hh7 (hW5.na he7) hb ⟨[],by simp⟩ fun a8 W8 hh8 hW8=>?_
 change (Code.seq (.region D.M8 _ false) .ret).wpIn Fence.wide 0 P _ a8 W8
 refine wpIn_seq (wpIn_region_list ?_);refine mS D.ot.1 D.ot.2.2 D.NY ?_;have hargs:(#[.tmp 3]:Array Operand).map a8.eval=#[.pointer (some ⟨w1.heap.size,0,none⟩)]:=by simp[Act.eval,hh8.p3]
 rw[hargs];refine (D.read w1.heap.size w1.heap.size (ta++tb) W8 hW8.jV hW8.le).mono ?_
 rintro e w9 ⟨rfl,hbel⟩
 refine⟨_,rfl,?_⟩;refine eS hF D.K7.1 D.K7.2.2 ?_;rw[D.ot.2.1,D.K7.2.1]
 change (Code.ret).wpIn Fence.wide 0 P _ _ _
 refine wpIn_ret ?_;refine⟨hh8.defers,.string ⟨(ta++tb).toArray⟩,?_,?_⟩
 ·simp[results,D.fx,Act.put,Act.eval,hh8.size]
 ·have hbel0:RowKit.Below w0.heap.size w0 w9:=h01.trans ((hW8.below.trans hbel).mono hB1);exact⟨_,K,rfl,by simp[fD,Rel,R],K.le_refl,fun _ _ _ _ h=>h,hK.below hbel0,hbel0⟩
theorem DA{orc:dD}(hB:d5 P ns)(horc:eQ P ns orc){f gd gb:Nat}(D:lZ P ns f gd gb){cI rs:List PV}(h:rz gd gb orc.p cI=some rs):qM P ns f cI rs:=by
 unfold rz at h;split at h
 · rename_i ds bs;rw[Option.ite_none_right_eq_some]at h;obtain⟨⟨hd1,hd2,hd3,hd4⟩,h⟩:=h;split at h
   · rename_i ta tb ha hb;simp only[Option.ite_none_right_eq_some,Option.some.injEq]at h;obtain⟨hlen,rfl⟩:=h;intro K w0 vs hpin hK hr;simp only[gI]at hr;obtain⟨v0,r0,rfl,hv0,rfl⟩:=hr;obtain⟨us,rfl,hus⟩:=hv0;simp only[dk]at hus;obtain⟨vd,r1,rfl,hvd,vb,r2,rfl,hvb,rfl⟩:=hus;refine callsIn_wide (n:=0).1 ?_;refine callsIn_of_wp D.hf D.pN trivial ?_ rfl;rw[D.hN];have hF:∀f,Fence.wide.fn f:=fun _=>trivial
     have bI:∀{G:Gh} {i:Int},au (num ns) G (.pv (.int .i64 i)) (.int .i64 i):=by intros;simp[au,Rel,R]
     refine wpIn_seq (wpIn_region_list ?_);refine fG (w':=w0.alloc (.cells #[vd,vb] D.Tp)) (v:=.pointer (some ⟨w0.heap.size,0,none⟩)) (kh (P:=P) D.LW.1 (by simp)) D.LW.2.2 ?_ ?_
     ·have he:Act.eval { tmps:=(#[Value.agg [vd,vb].toArray]:Array Value)++Array.replicate (31-(#[Value.agg [vd,vb].toArray]:Array Value).size) undef,defers:=[] } (.tmp 0)=.agg #[vd,vb]:=(by simp[Act.eval]);rw[Kj D.LW.1,he];simp only[Instr.box,Sem.run_bind,fy,Result.andThen_ok,Sem.run_pure];rfl
     refine eS hF D.Kb.1 D.Kb.2.2 ?_;rw[D.LW.2.1,D.Kb.2.1];have hw1s:(w0.alloc (.cells #[vd,vb] D.Tp)).heap.size=w0.heap.size+1:=Array.size_push _;have hbx1:(w0.alloc (.cells #[vd,vb] D.Tp)).heap[w0.heap.size]?=some (.cells #[vd,vb] D.Tp (0,0)):=heap_alloc_new;have h01:RowKit.Below w0.heap.size w0 (w0.alloc (.cells #[vd,vb] D.Tp)):=(RowKit.Below.refl _ _).alloc (Nat.le_refl _) _;generalize w0.alloc (.cells #[vd,vb] D.Tp)=w1 at hw1s hbx1 h01⊢
     change (Code.seq (.region D.i1 #[D.al] false) _).wpIn Fence.wide 0 P _ _ _
     have s1:∀(a1:Act),a1=((Act.put { tmps:=(#[Value.agg [vd,vb].toArray]:Array Value)++Array.replicate (31-(#[Value.agg [vd,vb].toArray]:Array Value).size) undef,defers:=[] } (some 1) (.pointer (some ⟨w0.heap.size,0,none⟩))).put (some 2) (.string ⟨#[]⟩)) →
         a1.tmps.size=31∧a1.defers=[]∧a1.tmps[1]?=some (.pointer (some ⟨w0.heap.size,0,none⟩)):=by
       rintro a1 rfl
       refine⟨by simp[Act.put],rfl,?_⟩;simp[Act.put]
     refine step1 hB horc D hpin hK hw1s hbx1 h01 hd1 hd2 hd3 hd4 hlen hvd hvb ha hb (s1 _ ?_);simp[Act.eval]
   ·cases h
 ·cases h
end
end Go.Ab
