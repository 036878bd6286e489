import Derived.Test.YthcoecdbgdhihaaGreatDoorAbB
import Derived.RangeFuncLeaves
import Derived.RangeFuncRecord
import Derived.WalkKit
import Derived.ProofKit
import Derived.OpenShut
import Derived.Carry
import Derived.Lib.Join
import Derived.Lib.ItoaNum
import Derived.Lib.LaidTab
import Derived.Sort.Grow
import Derived.Deep.Draws
import Derived.Lib.Builder
import Derived.Lib.UnsafeStr
import Derived.Lib.AppendStr
/-
  Functions: n levels of calls of the evaluator are what the model does.
  The pieces of a function's code by their places: for functions that are known by their code's shape.
  From the rows' readings to pure data, and from what the evaluator gives to a law's contract.
  The evaluator for the kernel: what an operation lays is brought to its last form at once. It answers as the evaluator does.
  Functions of Go's library that the kit knows: strings.Join, and strconv.Itoa of small numbers.
  The table that strconv reads, as the rows list it.
  A program's text written through a strings.Builder: what the declarations' and the bindings' texts are, one after another.
-/
set_option linter.unusedVariables false
set_option linter.unusedSimpArgs false
set_option linter.unnecessarySimpa false
set_option maxRecDepth 100000
set_option maxHeartbeats 8000000
namespace Go.Ab
section
variable {P:Program} {ns:Names} {G:Gh} {w:World}
theorem uk:∀{l:List AV} {i t:Nat} {v:AV},look (bZ i l) t=some v→i≤t∧l[t-i]?=some v
 |[],i,t,v,h=>by simp[bZ,look]at h
 |x::l,i,t,v,h=>by
   simp only[bZ,look]at h;split at h
   ·rename_i e;subst e;cases h;simp
   ·rename_i hne;obtain⟨h1,h2⟩:=uk h;refine⟨by omega,?_⟩;rw[show t-i=(t-(i+1))+1 from by omega];simpa using h2
theorem Lx{N:Nat}{args:List AV}{vs:List Value}(hr:aw (num ns) G args vs)(hN:args.length≤N) :
   l4 (num ns) G N (bZ 0 args) { tmps:=vs.toArray++Array.replicate (N-vs.toArray.size) undef,defers:=[] }:=by
 have hl:=hr.length;refine⟨by simp;omega,fun t x hx=>?_⟩;obtain⟨_,h2⟩:=uk hx;simp only[Nat.sub_zero]at h2;obtain⟨v,h3,h4⟩:=hr.get h2;refine⟨v,?_,h4⟩;rw[Array.getElem?_append_left (by have:=(List.getElem?_eq_some_iff.1 h3).1;simpa using this)];simpa using h3
theorem rO{n0 N:Nat}{st:St}{a:Act}(hs:gV (num ns) n0 N G st a w){F:ResultVar→Sem Value}(hF1:∀t,F (.tmp t)=pure (a.tmps.getD t undef))(hF2:∀ad t,F (.cell ad t)=(do loadVar t (←asAddr (a.tmps.getD ad undef)))):∀{rvs:List ResultVar} {rs:List qb} {xs:List AV},cf (Fx P) rvs=some rs→ek st rs=some xs →
   ∃vs,(rvs.mapM F).run P w=.ok vs w∧aw (num ns) G xs vs
 |[],rs,xs,hc,hx=>by
   simp[cf]at hc;subst hc;simp[ek]at hx;subst hx;exact⟨[],by simp,by simp[aw]⟩
 |r::rvs,rs,xs,hc,hx=>by
   simp only[cf]at hc;split at hc
   · rename_i ar ars h1 h2;simp at hc;subst hc;simp only[ek]at hx;split at hx
     · rename_i v vs' g1 g2;simp at hx;subst hx;obtain⟨us,k1,k2⟩:=rO hs hF1 hF2 h2 g2
       have one:∃u,(F r).run P w=.ok u w∧aB (num ns) G v u:=by
         cases r with
         |tmp t=>
           simp[Fx]at h1;subst h1;simp only[qZ]at g1;obtain⟨u,e1,e2⟩:=hs.env.env t v g1;exact⟨u,by rw[hF1];simp[e1],e2⟩
         |cell ad t=>
           simp only[Fx]at h1;split at h1
           · rename_i sz ag hsz hag;simp at h1;subst h1;simp only[qZ]at g1;split at g1
             · rename_i d e1;split at g1
               ·rename_i cs e2;simp only[Option.ite_none_right_eq_some]at g1;obtain⟨rfl,g1⟩:=g1;obtain⟨u,f1,f2⟩:=hs.env.env _ _ e1;simp only[aB]at f2;obtain⟨b,hp,rfl⟩:=f2;obtain⟨b',hp',hblk,_⟩:=hs.inv.cT _ _ e2;rw[hp]at hp';cases hp';obtain⟨_,c,ty,hh,hrel⟩:=hblk;obtain⟨u,q1,q2⟩:=fE (w:=w) hsz hag g1 hrel (gk hh);exact⟨u,by rw[hF2];simp[f1,asAddr,q1],q2⟩
               ·cases g1
             · rename_i s e1;split at g1
               · rename_i cs e2;split at g1
                 ·cases g1
                 ·rename_i hm;obtain⟨u,f1,f2⟩:=hs.env.env _ _ e1;simp only[aB]at f2;obtain⟨b,hp,rfl⟩:=f2;obtain⟨b',hp',hblk,_⟩:=hs.inv.dq _ _ e2;rw[hp]at hp';cases hp';obtain⟨_,c,ty,vs,suf,hh,_,hsp,hrel⟩:=hblk.cells (by simpa using hm);obtain⟨u,q1,q2⟩:=fE (w:=w) hsz hag g1 hrel (oV hh hsp);exact⟨u,by rw[hF2];simp[f1,asAddr,q1],q2⟩
               ·cases g1
             ·cases g1
           ·simp at h1
       obtain⟨u,o1,o2⟩:=one;refine⟨u::us,?_,?_⟩
       ·rw[List.mapM_cons];simp only[Sem.run_bind];rw[o1];simp only[Result.andThen_ok];rw[k1];rfl
       ·simp only[aw];exact⟨u,us,rfl,o2,k2⟩
     ·simp at hx
   ·simp at hc
theorem ou{G':Gh}{sh:Sh}{ks:List Nat}(hle:G.le G')(hf:jY ns G G' sh ks)(hl:∀(s:Nat) (cells:List AV),sh[s]?=some (some cells)→cells.all aT=true)
   {x:AV} {v:Value} (ha:∀s∈eB x,s∈ks) (h:aB (num ns) G x v):aB (num ns) G' (tj sh x) v:=by
 unfold tj;split
 ·rename_i p hp;simp only[aB];exact tI hle hf hl ha hp h
 ·exact h.mono hle
theorem Ly{G':Gh}{sh:Sh}{ks:List Nat}(hle:G.le G')(hf:jY ns G G' sh ks)(hl:∀(s:Nat) (cells:List AV),sh[s]?=some (some cells)→cells.all aT=true)
   {x:AV} {v:Value} (ha:aT x=true→∀s∈eB x,s∈ks) (h:aB (num ns) G x v):aB (num ns) G' (vA sh x) v:=by
 unfold vA;split
 ·exact h.mono hle
 · split
   ·rename_i hl';exact ou hle hf hl (ha hl') h
   ·exact h.mono hle
theorem wB{G':Gh}{sh:Sh}{ks:List Nat}(hle:G.le G')(hf:jY ns G G' sh ks)(hl:∀(s:Nat) (cells:List AV),sh[s]?=some (some cells)→cells.all aT=true) :
   ∀{cs:List AV} {vs:List Value},(∀s∈eB (.agg cs),s∈ks)→aw (num ns) G cs vs→aw (num ns) G' (cs.map (vA sh)) vs
 |[],vs,_,h=>by simpa[aw] using h
 |c::cs,vs,ha,h=>by
   simp only[aw]at h;obtain⟨v,r,e,e1,e2⟩:=h;simp only[List.map_cons,aw];refine⟨v,r,e,Ly hle hf hl (fun hb s hs=>ha s ?_) e1,wB hle hf hl (fun s hs=>ha s ?_) e2⟩
   ·simp only[eB,List.flatMap_cons,List.mem_append];left;cases c<;>simp_all[eB,aT]
   ·simp only[eB,List.flatMap_cons,List.mem_append]at hs⊢;exact .inr hs
theorem Lz{G':Gh}{sh:Sh}{ks:List Nat}(hle:G.le G')(hf:jY ns G G' sh ks)(hl:∀(s:Nat) (cells:List AV),sh[s]?=some (some cells)→cells.all aT=true)
   {x:AV} {v:Value} (ha:∀s∈eB x,s∈ks) (h:aB (num ns) G x v):aB (num ns) G' (Cv sh x) v:=by
 unfold Cv;split
 ·exact h.mono hle
 ·exact h.mono hle
 ·simp only[aB]at h⊢;obtain⟨vs,e,r⟩:=h;exact⟨vs,e,wB hle hf hl ha r⟩
 ·exact ou hle hf hl ha h
theorem oz{G':Gh}{sh:Sh}{ks:List Nat}{F:Sh→AV→AV}(hF:∀{x:AV} {v:Value},(∀s∈eB x,s∈ks)→aB (num ns) G x v→aB (num ns) G' (F sh x) v) :
   ∀{xs:List AV} {vs:List Value},(∀s∈xs.flatMap eB,s∈ks)→aw (num ns) G xs vs→aw (num ns) G' (xs.map (F sh)) vs
 |[],vs,_,h=>by simpa[aw] using h
 |x::xs,vs,ha,h=>by
   simp only[aw]at h;obtain⟨v,r,e,e1,e2⟩:=h;simp only[List.flatMap_cons,List.mem_append]at ha;simp only[List.map_cons,aw];exact⟨v,r,e,hF (fun s hs=>ha s (.inl hs)) e1,oz hF (fun s hs=>ha s (.inr hs)) e2⟩
theorem EG{G':Gh}{sh:Sh}{ks:List Nat}{aU kst:Bool}(hle:G.le G')(hf:jY ns G G' sh ks)(hl:∀(s:Nat) (cells:List AV),sh[s]?=some (some cells)→cells.all aT=true)
   {xs:List AV} {vs:List Value} (ha:∀s∈xs.flatMap eB,s∈ks) (h:aw (num ns) G xs vs):aw (num ns) G' (cq aU kst sh xs) vs:=by
 unfold cq;split
 · split
   ·exact aw.mono hle h
   ·exact oz (Lz hle hf hl) ha h
 ·exact oz (ou hle hf hl) ha h
theorem EH{xs:List AV}{vs:List Value}(h:aw (num ns) G xs vs):cU (num ns) G xs (if h:vs.toArray.size=1 then vs.toArray[0] else .tuple vs.toArray):=by
 unfold cU;split
 ·rename_i r;simp only[aw]at h;obtain⟨v,r',e,e1,e2⟩:=h;subst e2;subst e;simpa using e1
 · rename_i hn;have hl:=h.length;rw[dif_neg]
   ·exact⟨vs,rfl,h⟩
   · intro e;simp at e;rw[e]at hl;cases xs with
     |nil=>simp at hl
     |cons x xs=>
       cases xs with
       |nil=>exact hn x rfl
       |cons _ _=>simp at hl
end
mutual
theorem um{ρ:bQ}{G G':Gh}{n:Nat}(hK:G.K.le G'.K)(hs:∀s b,s<n→G.sm s=some b→G'.sm s=some b):∀{x:AV} {v:Value},bN x=true→aK n x=true→aB ρ G x v→aB ρ G' x v
 | .pv p,_,_,_,h=>by simp only[aB]at h⊢;exact h.mono hK
 | .aW s o,_,_,hr,h=>by simp[aK]at hr;simp only[aB]at h⊢;obtain⟨b,e,r⟩:=h;exact⟨b,hs _ _ hr e,r⟩
 | .aP s _ n _,_,_,hr,h=>by simp[aK]at hr;simp only[aB]at h⊢;obtain⟨b,c,e,r⟩:=h;exact⟨b,c,hs _ _ hr e,r⟩
 | .kr,_,_,_,h=>by simpa only[aB] using h
 | .ku s,_,_,hr,h=>by simp[aK]at hr;simp only[aB]at h⊢;obtain⟨b,e,r⟩:=h;exact⟨b,hs _ _ hr e,r⟩
 | .p_ ..,_,hp,_,_=>by simp[bN]at hp
 | .gg _,_,_,_,h=>by simp only[aB]at h
 | .fn g cap,_,hp,hr,h=>by
   simp only[bN]at hp;simp only[aK]at hr;simp only[aB]at h⊢;obtain⟨f,vs,e1,e2,r⟩:=h;exact⟨f,vs,e1,e2,qx hK hs hp hr r⟩
 | .un,_,hp,_,_=>by simp[bN]at hp
 | .dH _,_,_,_,h=>by simp only[aB]at h⊢;obtain⟨b,l,e,r⟩:=h;exact⟨b,l,e,r.mono hK⟩
 | .own _ _,_,hp,_,_=>by simp[bN]at hp
 | .agg _,_,hp,hr,h=>by
   simp only[bN]at hp;simp only[aK]at hr;simp only[aB]at h⊢;obtain⟨vs,e,r⟩:=h;exact⟨vs,e,qx hK hs hp hr r⟩
 | .qW _,_,hp,_,_=>by simp[bN]at hp
 | .az _ _,_,hp,_,_=>by simp[bN]at hp
 | .gf _,_,hp,_,_=>by simp[bN]at hp
theorem qx{ρ:bQ}{G G':Gh}{n:Nat}(hK:G.K.le G'.K)(hs:∀s b,s<n→G.sm s=some b→G'.sm s=some b):∀{xs:List AV} {vs:List Value},bN.iW xs=true→aK.cB n xs=true→aw ρ G xs vs→aw ρ G' xs vs
 |[],_,_,_,h=>by simpa only[aw] using h
 |x::xs,_,hp,hr,h=>by
   simp only[bN.iW,Bool.and_eq_true]at hp;simp only[aK.cB,Bool.and_eq_true]at hr;simp only[aw]at h⊢;obtain⟨v,r,e,e1,e2⟩:=h;exact⟨v,r,e,um hK hs hp.1 hr.1 e1,qx hK hs hp.2 hr.2 e2⟩
end
section
variable {P:Program} {ns:Names} {G:Gh} {w:World}
theorem uo{ρ:bQ}{G':Gh}{n:Nat}(hK:G.K.le G'.K)(hs:∀s b,s<n→G.sm s=some b→G'.sm s=some b)(ht:∀τ t,G.tk τ=some t→G'.tk τ=some t):∀{xs:List AV} {vs:List Value},fh xs=true→aK.cB n xs=true→aw ρ G xs vs→aw ρ G' xs vs
 |[],_,_,_,h=>by simpa only[aw] using h
 |x::xs,_,hp,hr,h=>by
   simp only[fh,Bool.and_eq_true]at hp;simp only[aK.cB,Bool.and_eq_true]at hr;simp only[aw]at h⊢;obtain⟨v,r,e,e1,e2⟩:=h;refine⟨v,r,e,?_,uo hK hs ht hp.2 hr.2 e2⟩;cases x with
   |own l τ=>
     simp only[aB]at e1⊢;obtain⟨t,a1,a2,a3,a4⟩:=e1;exact⟨t,ht _ _ a1,a2,a3.mono hK,fun hl=>⟨(a4 hl).1,NO (a4 hl).2 fun⟨b,o,e,r⟩=>⟨b,o,e,Row.mono hK _ _ _ _ r⟩⟩⟩
   |_=>exact um hK hs (show bN _=true from hp.1) hr.1 e1
theorem I6{ρ:bQ}{G':Gh}{n:Nat}(hK:G.K.le G'.K)(hs:∀s b,s<n→G.sm s=some b→G'.sm s=some b)(ht:∀τ t,G.tk τ=some t→G'.tk τ=some t){x:AV}{v:Value}(hp:bJ x=true)(hr:aK n x=true)(h:aB ρ G x v):aB ρ G' x v:=by
 cases x with
 |own l τ=>
   simp only[aB]at h⊢;obtain⟨t,e1,e2,e3,e4⟩:=h;exact⟨t,ht _ _ e1,e2,e3.mono hK,fun hl=>⟨(e4 hl).1,NO (e4 hl).2 fun⟨b,o,e,r⟩=>⟨b,o,e,Row.mono hK _ _ _ _ r⟩⟩⟩
 |agg cs=>
   simp only[aK]at hr;simp only[aB]at h⊢;obtain⟨vs,e,r⟩:=h;exact⟨vs,e,uo hK hs ht (by simpa[bJ] using hp) hr r⟩
 |_=>exact um hK hs (show bN _=true from hp) hr h
theorem oA{ρ:bQ}{G':Gh}{n:Nat}(hK:G.K.le G'.K)(hs:∀s b,s<n→G.sm s=some b→G'.sm s=some b)(ht:∀τ t,G.tk τ=some t→G'.tk τ=some t):∀{xs:List AV} {vs:List Value},xs.all bJ=true→xs.all (aK n)=true→aw ρ G xs vs→aw ρ G' xs vs
 |[],_,_,_,h=>by simpa only[aw] using h
 |x::xs,_,hp,hr,h=>by
   simp only[List.all_cons,Bool.and_eq_true]at hp hr;simp only[aw]at h⊢;obtain⟨v,r,e,e1,e2⟩:=h;exact⟨v,r,e,I6 hK hs ht hp.1 hr.1 e1,oA hK hs ht hp.2 hr.2 e2⟩
def Gh.bare(G:Gh):Gh:={ G with pm:=fun _=>none,role:=fun b=>match G.role b with| .lO _=>.ez|r=>r }
theorem Inv.bare{mem:List (Nat×List AV)}{sh:Sh}{ts:aG}(hi:Inv (num ns) G w mem sh ts):Inv (num ns) G.bare w [] sh ts where
 known:=hi.known
 aZ:=fun b o v hk=>by
   rcases hi.aZ b o v hk with h|⟨τ,h⟩
   ·exact .inl (by simp[Gh.bare,h])
   ·exact .inr ⟨τ,by simp[Gh.bare,h]⟩
 fresh:=fun b hb=>by simp[Gh.bare,hi.fresh b hb]
 cT:=fun d cells h=>by simp[look]at h
 gM:=fun d b h=>by simp[Gh.bare]at h
 dq:=fun s cells hs=>by
   obtain⟨b,e1,e2,e3,e4⟩:=hi.dq s cells hs;obtain⟨hr,o,hh,hrel⟩:=e2;exact⟨b,e1,⟨by simp[Gh.bare,hr],o,hh,hrel.to (fun _ _ _ h=>h) (fun _ e=>e) (fun _ r=>jz (G:=G) (G':=G.bare) (bl.le_refl _) (fun _ _ h=>h) (fun _ _ h=>h) (jd e3) r)⟩,e3,e4⟩
 eF:=hi.eF
 dh:=fun τ n h=>by
   obtain⟨t,e1,e2,e3⟩:=hi.dh τ n h;refine⟨t,e1,e2,e3.cap,e3.zero,fun hlt=>?_⟩;obtain⟨b,o,c,ty,f1,f2,f3,f4,f5⟩:=e3.spare hlt;exact⟨b,o,c,ty,f1,by simp[Gh.bare,f2],f3,f4,f5⟩
 e_:=hi.e_
 kz:=fun b c hb=>⟨by simp[Gh.bare,(hi.kz b c hb).1],(hi.kz b c hb).2⟩
def Gh.nI(G:Gh)(n:Nat):Gh:={ G with sm:=fun s=>if s<n then G.sm s else none }
theorem Inv.nI{sh:Sh}{ts:aG}(hi:Inv (num ns) G w [] sh ts)(n:Nat):Inv (num ns) (G.nI n) w [] (sh.take n) ts where
 known:=hi.known
 aZ:=hi.aZ
 fresh:=hi.fresh
 cT:=fun d cells h=>by simp[look]at h
 gM:=hi.gM
 dq:=fun s cells hs=>by
   rw[List.getElem?_take]at hs;split at hs
   ·rename_i hlt;obtain⟨b,e1,e2,e3,e4⟩:=hi.dq s cells hs;obtain⟨hr,o,hh,hrel⟩:=e2;exact⟨b,by simp[Gh.nI,hlt,e1],⟨hr,o,hh,hrel.to (fun _ _ _ h=>h) (fun _ e=>e) (fun _ r=>oA (G:=G) (G':=G.nI n) (n:=s+1) (bl.le_refl G.K) (fun s' b' hs' h=>by simp only[Gh.nI];rw[if_pos (by omega)];exact h) (fun _ _ h=>h) (jd e3) e4 r)⟩,e3,e4⟩
   ·simp at hs
 eF:=fun s b h=>by
   simp only[Gh.nI]at h;split at h
   ·have:=hi.eF s b h;simp;omega
   ·simp at h
 dh:=fun τ n h=>by
   obtain⟨t,e1,e2,e3⟩:=hi.dh τ n h;exact⟨t,e1,e2,e3.cap,e3.zero,e3.spare⟩
 e_:=hi.e_
 kz:=hi.kz
theorem Inv.shut{mem:List (Nat×List AV)}{sh:Sh}{aa:aG}{D:Nat}{x:Option (List Deferred)}(hi:Inv (num ns) G w mem sh aa)(hD:w.heap[D]?=some (.deferred x)) :
   Inv (num ns) G (w.putObj D (.deferred none)) mem sh aa:=by
 have hne:∀{b:Nat} {c:Array Value} {t:TypeId},w.heap[b]?=some (.cells c t (0,0))→(w.putObj D (.deferred none)).heap[b]?=some (.cells c t (0,0)):=by
   intro b c t h;rw[World.putObj_heap_other]
   ·exact h
   ·rintro rfl;rw[hD]at h;cases h
 have hsize:(w.putObj D (.deferred none)).heap.size=w.heap.size:=by simp[World.putObj]
 refine { hi with known:=?_,fresh:=?_,cT:=?_,dq:=?_,dh:=?_,kz:=?_ }
 · intro b o v hk;have h:=hi.known b o v hk;rw[←h];have:b≠D:=by rintro rfl;simp[World.cell?,hD]at h
   simp only[World.cell?,World.putObj_heap_other this]
 ·intro b hb;exact hi.fresh b (by omega)
 ·intro k cs hk;obtain⟨b,e1,⟨e2,c,t,e3,e4⟩,e5⟩:=hi.cT k cs hk;exact⟨b,e1,⟨e2,c,t,hne e3,e4⟩,e5⟩
 · intro k cs hk;obtain⟨b,e1,⟨e2,o,e3,e4⟩,e5⟩:=hi.dq k cs hk;refine⟨b,e1,⟨e2,o,?_,e4⟩,e5⟩;rw[World.putObj_heap_other]
   ·exact e3
   · rintro rfl
     rw[hD]at e3;cases e3;rcases e4 with⟨_,_,_,_,h,_⟩|⟨_,_,_,h,_⟩<;>cases h
 ·intro τ n hn;obtain⟨t,e1,e2,e3⟩:=hi.dh τ n hn;refine⟨t,e1,e2,e3.cap,e3.zero,fun hlt=>?_⟩;obtain⟨b,o,c,ty,f1,f2,f3,f4,f5⟩:=e3.spare hlt;exact⟨b,o,c,ty,f1,f2,hne f3,f4,f5⟩
 · intro b c hb;obtain⟨h1,t',z,h2⟩:=hi.kz b c hb;refine⟨h1,t',z,?_⟩;rw[World.putObj_heap_other]
   ·exact h2
   ·rintro rfl;rw[hD]at h2;cases h2
theorem bK.shut{G':Gh}{w':World}{D:Nat}(he:bK G w G' w')(hD:w.heap.size≤D):bK G w G' (w'.putObj D (.deferred none)):=
 { he with
   size:=by simpa[World.putObj] using he.size
   os:=by simpa[World.putObj] using he.os
   tape:=by simpa[World.putObj] using he.tape
   output:=by simpa[World.putObj] using he.output
   ez:=fun b hb hr=>by
     obtain⟨h1,h2⟩:=he.ez b hb hr;exact⟨h1,by rw[World.putObj_heap_other (by omega)];exact h2⟩ }
theorem rP{fn:Func}{tmps:Array Value}{R:Ending→World→Prop}{mem:List (Nat×List AV)}{sh:Sh}{aa:aG}{G':Gh}:∀(Ds:List Nat) (w':World),Inv (num ns) G' w' mem sh aa→bK G w G' w'→Ds.Nodup →
   (∀D∈Ds,w.heap.size≤D∧w'.heap[D]?=some (.deferred (some []))) →
   (∀w'',Inv (num ns) G' w'' mem sh aa→bK G w G' w''→∃v,(results fn tmps).run P w''=.ok v w''∧R (.returned v) w'') →
   LeavesInM Fence.wide 0 P fn tmps R (Ds.map (fun D=>{ target:=.collected D,args:=#[] })) .returning w'
 |[],w',hi,he,_,_,h=>h w' hi he
 |D::Ds,w',hi,he,hn,hD,h=>by
   obtain⟨h1,h2⟩:=hD D (by simp);refine⟨by simp,.inl ⟨D,_,rfl,run_takeDeferred h2,?_⟩⟩;simp only[List.nodup_cons]at hn;refine rP Ds _ (hi.shut h2) (he.shut h1) hn.2 (fun E hE=>?_) h;obtain⟨g1,g2⟩:=hD E (by simp[hE]);refine⟨g1,?_⟩;rw[World.putObj_heap_other]
   ·exact g2
   ·rintro rfl;exact hn.1 hE
theorem uq(hm:P.follows .mixedOrders=true)(hB:eU P ns)(hBk:sI P ns){orc:d9}(horc:gD P ns orc){A:ko}{k f:Nat}{aU:Bool}{fn:Func}{af:aA}(hf:P.funcs[f]?=some fn)(hc:oU P ns A fn=some af)
   {args rs:List AV} {vs:List Value} {sh sh':Sh} {ts ts':aG} (hi:Inv (num ns) G w [] sh ts) (hr:aw (num ns) G args vs) (hN:args.length≤af.ntmps) (h:b_ orc k aU af args sh ts=some (rs,sh',ts')) :
   (Calls P f vs.toArray w fun e w'=>∃v G',e=.returned v∧cU (num ns) G' rs v∧Inv (num ns) G' w' [] sh' ts'∧bK G w G' w')∧rs.all bJ=true:=by
 unfold oU at hc;split at hc
 · rename_i c ars ui ie;simp only[Option.ite_none_right_eq_some,Option.map_eq_some_iff]at hc;obtain⟨_,ac,hcc,rfl⟩:=hc;unfold b_ at h;split at h
   · rename_i e st hev;simp only[Option.ite_none_right_eq_some]at h;obtain⟨he,h⟩:=h;split at h
     · rename_i xs hxs;simp only[Option.ite_none_right_eq_some]at h;obtain⟨hpass,h⟩:=h;let kst:=A.ks;let shk:Sh:=eV aU kst st.sh xs;let PY:Sh:=if (cq aU kst st.sh xs).all (aK sh.length)=true then shk.take sh.length else shk;have h:some ((cS st.aa (cq aU kst st.sh xs) PY).1,(cS st.aa (cq aU kst st.sh xs) PY).2.1,(cS st.aa (cq aU kst st.sh xs) PY).2.2.2)=some (rs,sh',ts'):=h;simp only[Option.some.injEq,Prod.mk.injEq]at h;obtain⟨Rs,hsh,hts⟩:=h;have hpass':rs.all bJ=true:=by rw[←Rs];exact iI hpass
       refine⟨?_,hpass'⟩;refine callsIn_wide (n:=0).1 (callsIn_of_wp_marks hf ui trivial ?_ rfl);have hs0:gV (num ns) w.heap.size fn.ntmps G { env:=bZ 0 args,mem:=[],sh,aa:=ts } { tmps:=vs.toArray++Array.replicate (fn.ntmps-vs.toArray.size) undef,defers:=[] } w:=⟨Lx hr hN,hi,Nat.le_refl _,[],rfl,by simp,by simp⟩;refine jf (ro:=none) hm hB horc hBk hcc (.inl rfl) hev hs0 fun G' a' w1 hs1 hevo1=>?_
       have key:LeavesInM Fence.wide 0 P fn a'.tmps (fun e w'=>∃v G',e=.returned v∧cU (num ns) G' rs v∧Inv (num ns) G' w' [] sh' ts'∧bK G w G' w') a'.defers .returning w1:=by
         obtain⟨m0,Ds,m1,m2,m3⟩:=hs1.marks;rw[m1];refine rP Ds w1 hs1.inv hevo1 m2 (fun D hD=>⟨(m3 D hD).1,(m3 D hD).2.2.2⟩) ?_;intro w' hi' hevo;have hs':gV (num ns) w.heap.size fn.ntmps G' st { tmps:=a'.tmps,defers:=[] } w':=⟨⟨hs1.env.size,hs1.env.env⟩,hi',hevo.size,[],rfl,by simp,by simp⟩;obtain⟨us,u1,u2⟩:=rO (P:=P) hs' (F:=fun| .tmp t=>pure (a'.tmps.getD t undef)| .cell ad t=>do loadVar t (←asAddr (a'.tmps.getD ad undef))) (fun _=>rfl) (fun _ _=>rfl) ie hxs;refine⟨(if h:us.toArray.size=1 then us.toArray[0] else .tuple us.toArray),?_,?_⟩
         · unfold results;rw[Array.mapM_eq_mapM_toList];simp only[Sem.run_bind,Sem.run_map]
           erw [u1]
           rfl
         · obtain⟨G1,k1,k2,k3,hout⟩:∃G1,Inv (num ns) G1 w' st.mem shk st.aa∧G'.le G1∧bK G' w' G1 w'∧aw (num ns) G1 (cq aU kst st.sh xs) us:=by
             by_cases hkk:(aU && kst)=true
             · refine⟨G',?_,Gh.le_refl _,bK.refl _ _,?_⟩
               · have:shk=st.sh:=by simp only[shk,eV,hkk,if_true]
                 rw[this];exact hs'.inv
               · have:cq aU kst st.sh xs=xs:=by
                   simp only[Bool.and_eq_true]at hkk;simp only[cq,hkk.1,hkk.2,if_true]
                 rw[this];exact u2
             · obtain⟨G1,k1,k2,k3,k4,k5⟩:=Inv.kill (xs.flatMap eB) hs'.inv;refine⟨G1,?_,k2,k3,EG (aU:=aU) k2 k4 hs'.inv.tJ (fun s hs=>hs) u2⟩
               have:shk=cA st.sh xs:=by
                 simp only[shk,eV];rw[if_neg hkk]
               rw[this];exact k1
           have hbare:=jz (G:=G1) (G':=G1.bare) (bl.le_refl _) (fun _ _ h=>h) (fun _ _ h=>h) hpass hout;have k1b:=k1.bare;have hevo0:=hevo.trans k3
           obtain⟨G2,i2,r2,e2⟩:∃G2,Inv (num ns) G2 w' [] PY st.aa∧aw (num ns) G2 (cq aU kst st.sh xs) us∧bK G w G2 w':=by
             have bareEvo:bK G w G1.bare w':={
               size:=hevo0.size,os:=hevo0.os,tape:=hevo0.tape,output:=hevo0.output,K:=hevo0.K,sm:=hevo0.sm,
               ez:=fun b hb hr=>⟨by simp[Gh.bare,(hevo0.ez b hb hr).1],(hevo0.ez b hb hr).2⟩
               iQ:=fun b τ hb hr=>by
                 rcases hevo0.iQ b τ hb hr with h|⟨τ',h⟩
                 ·exact .inl (by simp[Gh.bare,h])
                 ·exact .inr ⟨τ',by simp[Gh.bare,h]⟩
               gN:=hevo0.gN }
             by_cases href:(cq aU kst st.sh xs).all (aK sh.length)=true
             · have hshd:PY=shk.take sh.length:=if_pos href;rw[hshd];refine⟨G1.bare.nI sh.length,k1b.nI sh.length,oA (G:=G1.bare) (G':=G1.bare.nI sh.length) (n:=sh.length) (bl.le_refl _) (fun s b hs h=>by simp only[Gh.nI];rw[if_pos hs];exact h) (fun _ _ h=>h) hpass href hbare,?_⟩
               exact { size:=bareEvo.size,os:=bareEvo.os,tape:=bareEvo.tape,output:=bareEvo.output,K:=bareEvo.K,
                       sm:=fun s b hsb=>by
                         have:=hi.eF s b hsb;show (if s<sh.length then G1.sm s else none)=some b;rw[if_pos this];exact bareEvo.sm s b hsb
                       ez:=bareEvo.ez,iQ:=bareEvo.iQ,gN:=bareEvo.gN }
             ·have hshd:PY=shk:=if_neg href;rw[hshd];exact⟨G1.bare,k1b,hbare,bareEvo⟩
           obtain⟨m,tks,hNS,hto,hrel⟩:=i2.JX hpass r2;rw[Rs]at hrel;rw[hsh,hts]at hto;exact⟨_,G2.to m tks,rfl,EH hrel,hto,e2.to m tks⟩
       cases e with
       |normal=>exact key
       |ret=>exact key
       |exit id=>simp at he
     ·simp at h
   ·simp at h
 ·simp at hc
theorem vP{orc:d9}{k:Nat}{aU:Bool}{af:aA}{args rs:List AV}{sh sh':Sh}{ts ts':aG}(h:b_ orc k aU af args sh ts=some (rs,sh',ts')):rs.all bJ=true:=by
 unfold b_ at h;split at h
 · split at h
   · split at h
     ·simp only[Option.ite_none_right_eq_some]at h;obtain⟨hp,h⟩:=h;have e:=congrArg Prod.fst (Option.some.inj h);dsimp only at e;rw[←e];exact iI hp
     ·simp at h
   ·simp at h
 ·simp at h
structure Impl(P:Program)(ns:Names)(AP:Nat→Option aA):Prop where
 mixed:P.follows .mixedOrders=true
 funcs:∀f g,ns.of f=some g→(∃fn A af,P.funcs[f]?=some fn∧oU P ns A fn=some af∧AP g=some af) ∨
   ((∃fn b,P.funcs[f]?=some fn∧fn.body=some b∧fn.name ≠ "runtime.NumGoroutine") ∧
     (AP g=none∨∃af pf,AP g=some af∧af.qc=some pf∧af.body=.exit 0∧∀orc,gD P ns orc→∀cW rs,pf.f orc.p cW=some rs→v5 P ns f cW rs))
 J1:sI P ns
 Rt:∀g sz bytes f,look ns.cl g=some (sz,bytes)→ns.of f=some g→Nonempty (iJ P ns f sz bytes)
theorem Impl.yz{AP:Nat→Option aA}(h:Impl P ns AP):eU P ns:=by
 intro f g hg;rcases h.funcs f g hg with⟨fn,A,af,h1,h2,_⟩|⟨⟨fn,b,h1,h2,h3⟩,_⟩
 · unfold oU at h2;split at h2
   ·rename_i b rs hb _;simp only[Option.ite_none_right_eq_some]at h2;obtain⟨⟨_,hn⟩,_⟩:=h2;exact⟨fn,b,h1,hb,by simpa using hn⟩
   ·simp at h2
 ·exact⟨fn,b,h1,h2,h3⟩
theorem EI{A:ko}{fn:Func}{af:aA}(h:oU P ns A fn=some af):af.qc=none:=by
 unfold oU at h;split at h
 ·simp only[Option.ite_none_right_eq_some,Option.map_eq_some_iff]at h;obtain⟨_,_,_,rfl⟩:=h;rfl
 ·simp at h
theorem ur:∀{rs:List AV} {ps:List PV},fW rs=some ps→rs=ps.map .pv
 |[],ps,h=>by simp[fW]at h;subst h;rfl
 |x::rs,ps,h=>by
   cases x with
   |pv p=>
     simp only[fW,Option.map_eq_some_iff]at h;obtain⟨qs,h1,rfl⟩:=h;simp[ur h1]
   |_=>simp[fW]at h
theorem rQ:∀{ps:List PV} {vs:List Value},aw (num ns) G (ps.map .pv) vs→jo G.K ps vs
 |[],vs,h=>by simp only[List.map_nil,aw]at h;exact h
 |p::ps,vs,h=>by
   simp only[List.map_cons,aw]at h;obtain⟨v,r,e,e1,e2⟩:=h;simp only[aB]at e1;exact⟨v,r,e,e1,rQ e2⟩
theorem I7{ps:List PV}{v:Value}(h:cU (num ns) G (ps.map .pv) v):ik G.K ps v:=by
 unfold ik;split
 ·rename_i p;simp only[List.map_cons,List.map_nil,cU,aB]at h;exact h
 · rename_i hn;unfold cU at h;split at h
   · rename_i r e;cases ps with
     |nil=>simp at e
     |cons q qs=>
       cases qs with
       |nil=>exact absurd rfl (hn q)
       |cons _ _=>simp at e
   ·obtain⟨vs,e,h⟩:=h;exact⟨vs,e,rQ h⟩
theorem wC{AP:Nat→Option aA}(hI:Impl P ns AP)(k:Nat):∀n,gD P ns (run AP k n)
 |0=>⟨fun g f cW rs _ h=>by simp[run]at h,fun g f args ts rs sh sh' ts' _ _ h=>by simp[run]at h,fun g sz by_ f h1 h2=>(hI.Rt g sz by_ f h1 h2).elim Bk⟩
 |n+1=>by
   have ih:=wC hI k n;refine⟨fun g f cW rs hg h=>?_,fun g f args ts rs sh sh' ts' hg hp h=>?_,ih.c⟩
   · rcases hI.funcs f g hg with⟨fn,A,af,h1,h2,h3⟩|⟨_,h3|⟨af,pf,h3,h4,_,h5⟩⟩
     · simp only[run,h3,EI h2,Option.ite_none_right_eq_some]at h;obtain⟨⟨_,hN⟩,h⟩:=h;split at h
       · rename_i xs x2 hb;obtain⟨sh',ts'⟩:=x2;have hxs:=ur h;subst hxs;intro K w vs hpin hK hr;let G0:Gh:={ K,role:=fun _=>.ez,pm:=fun _=>none,sm:=fun _=>none,tk:=fun _=>none }
         have hi:Inv (num ns) G0 w [] [] []:={
           known:=hK,aZ:=fun _ _ _ _=>.inl rfl,fresh:=fun _ _=>rfl,cT:=fun d c h=>by simp[look]at h,gM:=fun d b h=>by simp[G0]at h,
           dq:=fun s c h=>by simp at h,eF:=fun s b h=>by simp[G0]at h,dh:=fun τ n h=>by simp at h,e_:=fun τ t h=>by simp[G0]at h,kz:=fun b c hb=>⟨rfl,hpin b c hb⟩ }
         have hC:=(uq hI.mixed hI.yz hI.J1 ih h1 h2 hi (gj (ρ:=num ns) (G:=G0) hr) (by simpa using hN) hb).1;refine hC.mono ?_
         rintro e w' ⟨v,G',rfl,ie,hi',hevo⟩
         refine⟨v,G'.K,rfl,I7 ie,hevo.K,fun b o u hb hk=>hevo.gN b o u hb rfl hk,hi'.known,⟨hevo.os,hevo.tape,hevo.output,hevo.size,fun b hb=>(hevo.ez b hb rfl).2⟩⟩
       ·simp at h
     ·simp only[run,h3]at h;cases h
     ·simp only[run,h3,h4]at h;exact h5 _ ih _ _ h
   · rcases hI.funcs f g hg with⟨fn,A,af,h1,h2,h3⟩|⟨_,h3|⟨af,pf,h3,_,h4,_⟩⟩
     ·simp only[run,h3,Option.ite_none_right_eq_some]at h;obtain⟨hN,h⟩:=h;exact⟨fun G w vs hi hr=>(uq hI.mixed hI.yz hI.J1 ih h1 h2 hi hr hN h).1,vP h⟩
     ·simp only[run,h3]at h;cases h
     ·simp only[run,h3,Option.ite_none_right_eq_some]at h;obtain⟨_,h⟩:=h;unfold b_ at h;rw[h4]at h;simp[cM]at h
end
end Go.Ab
namespace Go.Ab
def uu:Code→List (Nat×Array Oper)
 | .region id ops _=>[(id,ops)]
 | .seq a b| .cond _ a b| .rangeFunc _ _ a b=>uu a++uu b
 | .block _ c| .loop c| .scope c=>uu c
 |_=>[]
def mh:Code→List Nat
 | .seq a b| .cond _ a b| .rangeFunc _ _ a b=>mh a++mh b
 | .block i c=>i::mh c
 | .loop c| .scope c=>mh c
 |_=>[]
def fZ(fn:Func):Code:=match fn.body with|some c=>c|none=>.skip
def mi(fn:Func)(i:Nat):Array Oper:=match (uu (fZ fn))[i]? with|some (_,o)=>o|none=>#[]
def dk(fn:Func)(i:Nat):Nat:=match (uu (fZ fn))[i]? with|some (n,_)=>n|none=>0
def sJ(fn:Func)(i:Nat):Nat:=match (mh (fZ fn))[i]? with|some n=>n|none=>0
def aS(fn:Func)(i j:Nat):Oper:=match (mi fn i).toList[j]? with|some o=>o|none=>default
def typesOf(o:Oper):Array TypeId:=match o.op with| .call c=>c.argTypes|_=>#[]
def dE(o:Oper):TypeId×TypeId:=match o.op with| .binOp _ t _ _ u=>(t,u)|_=>(0,0)
def LA(P:Program)(t:TypeId):TypeId:=match P.underlying t with|some (.slice e)=>e|_=>0
open Go.ChangeShapes Go.WideShapes Go.ChangeAt Go.RowKit
def KW(w:World):bl:=fun b o=>w.cell? ⟨b,o,none⟩
theorem Tw(w:World):Cl (KW w) w:=fun _ _ _ h=>h
def OE(S:TypeId→PV→Prop):List Field→List PV→Prop
 |[],[]=>True
 |f::fs,p::ps=>S f.type p∧OE S fs ps
 |_,_=>False
def wD(P:Program):Nat→TypeId→PV→Prop
 |0,_,_=>False
 |n+1,t,p=>match P.underlying t with
   |some .bool=>∃b,p=.bool b
   |some (.int k)=>∃i,p=.int k i∧(Lit.int k i).wf=true
   |some .string=>∃s,p=.str s∧s.length≤maxLen
   |some (.slice e)=>∃els,p=.au els∧els.length≤maxLen∧∀q∈els,wD P n e q
   |some (.struct fs)=>∃ps:List PV,p=.agg (ps.flatMap aX)∧OE (wD P n) fs.toList ps
   |_=>False
def LB(P:Program):Nat→List Field→Nat→Bool
 |o,[],total=>o == total
 |o,f::fs,total=>f.offset == o && LB P (o+P.cellsOf f.type) fs total
def FL(P:Program)(T:List TypeId):Bool:=T.all fun t=>match P.underlying t with
 |some .bool|some (.int _)|some .string=>true
 |some (.slice e)=>T.contains e && decide (0<P.cellsOf e)
 |some (.struct fs)=>fs.toList.all (fun f=>T.contains f.type) && LB P 0 fs.toList (P.cellsOf t)
 |_=>false
section
variable {H:Type} {enc:TypeId×Value→H} {P:Program} {w:World} {base:Nat} {sp:Nat→Bool} {held:Bool}
theorem Bo{α β:Type}{f:α→Option β}:∀{l:List α} {r:List β},l.mapM f=some r→∀{i:Nat} {x:α},l[i]?=some x→∃y,r[i]?=some y∧f x=some y
 |[],_,_,i,x,hx=>by simp at hx
 |a::l,r,h,i,x,hx=>by
   simp only[List.mapM_cons,Option.bind_eq_bind,Option.bind_eq_some_iff,Option.pure_def,Option.some.injEq]at h;obtain⟨y,h1,ys,h2,rfl⟩:=h;cases i with
   |zero=>simp at hx;subst hx;exact⟨y,by simp,h1⟩
   |succ i=>simpa using Bo h2 (i:=i) (by simpa using hx)
theorem Bp{α β:Type}{f:α→Option β}:∀{l:List α} {r:List β},l.mapM f=some r→r.length=l.length
 |[],r,h=>by simp at h;subst h;rfl
 |a::l,r,h=>by
   simp only[List.mapM_cons,Option.bind_eq_bind,Option.bind_eq_some_iff,Option.pure_def,Option.some.injEq]at h;obtain⟨y,h1,ys,h2,rfl⟩:=h;simp[Bp h2]
theorem I8{a:Addr}{n:Nat}{cs:List Value}(hn:0<n)(h:w.cells? base a n=some cs):cs.length=n∧a.spot=none∧At (KW w) a.block a.off cs:=by
 unfold World.cells? at h;split at h
 · have hl:cs.length=n:=by simpa using Bp h
   have key:∀i,i<n→∃y,cs[i]?=some y∧w.cell? (a.add i)=some y:=by
     intro i hi;exact Bo h (i:=i) (x:=i) (by simp[hi])
   obtain⟨y0,_,h0⟩:=key 0 hn
   have hspot:a.spot=none:=by
     cases hsp:a.spot with
     |none=>rfl
     |some s=>
       simp only[Addr.add,if_true,World.cell?]at h0;split at h0
       ·simp[hsp]at h0
       ·cases h0
   refine⟨hl,hspot,?_⟩;intro j v hj;have hjn:j<n:=by have:=(List.getElem?_eq_some_iff.1 hj).1;omega
   have e:a.add j=⟨a.block,a.off+j,none⟩:=by
     unfold Addr.add;split
     ·rename_i h0;subst h0;cases a;simp_all
     ·rfl
   obtain⟨y,h1,h2⟩:=key j hjn;rw[e]at h2;rw[hj]at h1;cases h1;exact h2
 ·cases h
theorem FM{K:bl}{S:PV→Prop}{b sz:Nat}:∀{n:Nat} {o:Nat},(∀i,i<n→∃vs q,vs.length=sz∧At K b (o+i*sz) vs∧S q∧R K true q vs)→∃els:List PV,els.length=n∧(∀q∈els,S q)∧Row K b o sz els
 |0,o,_=>⟨[],rfl,by simp,by simp only[Row]⟩
 |n+1,o,h=>by
   obtain⟨vs,q,h1,h2,h3,h4⟩:=h 0 (by omega)
   obtain⟨els,e1,e2,e3⟩:=FM (K:=K) (S:=S) (b:=b) (sz:=sz) (n:=n) (o:=o+sz) fun i hi=>by
     obtain⟨vs,q,h1,h2,h3,h4⟩:=h (i+1) (by omega);refine⟨vs,q,h1,?_,h3,h4⟩
     rwa [show o+sz+i*sz=o+(i+1)*sz from by rw[Nat.add_mul];omega]
   refine⟨q::els,by simp[e1],?_,?_⟩
   · intro x hx;simp only[List.mem_cons]at hx;rcases hx with rfl|hx
     ·exact h3
     ·exact e2 x hx
   ·simp only[Row];exact⟨⟨vs,h1,by simpa using h2,h4⟩,e3⟩
theorem wE{K:bl}{S:TypeId→PV→Prop}{cs:List Value}:∀{fs:List Field} {o total:Nat},LB P o fs total=true→cs.length=total →
   (∀f∈fs,∃q,S f.type q∧R K true q ((cs.drop f.offset).take (P.cellsOf f.type)))→∃ps:List PV,OE S fs ps∧dL K (ps.flatMap aX) (cs.drop o)
 |[],o,total,hl,hc,_=>⟨[],by simp[OE],by
     simp[LB]at hl;simp[dL];omega⟩
 |f::fs,o,total,hl,hc,h=>by
   simp only[LB,Bool.and_eq_true,beq_iff_eq]at hl;obtain⟨hf,hl⟩:=hl;obtain⟨q,h1,h2⟩:=h f (by simp);obtain⟨ps,e1,e2⟩:=wE (K:=K) (S:=S) (cs:=cs) hl hc (fun f' hf'=>h f' (by simp[hf']));refine⟨q::ps,⟨h1,e1⟩,?_⟩;simp only[List.flatMap_cons];have:=(R.cells h2).append e2;rw[hf]at this
   rwa [←List.drop_drop,List.take_append_drop]at this
theorem uv{T:List TypeId}(hT:FL P T=true):∀(n:Nat) (t:TypeId) (cs:List Value) (x:DataW H×List MemPlace),t∈T →
   DataW.trod enc P w base sp held n t cs=some x→∃p,wD P n t p∧R (KW w) true p cs
 |0,t,cs,x,_,h=>by simp[DataW.trod]at h
 |n+1,t,cs,x,ht,h=>by
   have hp:=List.all_eq_true.1 hT t ht;simp only[wD];split at hp
   ·rename_i hu;obtain⟨b,rfl,_⟩:=DataW.trod_bool hu h;exact⟨.bool b,by exact⟨b,rfl⟩,by simp[R]⟩
   ·rename_i k hu;obtain⟨i,rfl,_,hw⟩:=DataW.trod_int hu h;exact⟨.int k i,by exact⟨i,rfl,hw⟩,by simp[R]⟩
   ·rename_i hu;obtain⟨s,rfl,_,hl⟩:=DataW.trod_string hu h;exact⟨.str s.data.toList,by exact⟨_,rfl,by simpa using hl⟩,by simp[R]⟩
   · rename_i e hu;simp only[Bool.and_eq_true,List.contains_iff_mem,decide_eq_true_eq]at hp;rcases DataW.trod_slice hu h with⟨rfl,_⟩|⟨a,len,cap,elems,rest,m,e0,rfl,_,_,hlen,hcap,hel,hget,_,_⟩
     ·exact⟨.au [],by exact⟨[],rfl,by simp,by simp⟩,by simp only[R];exact⟨none,0,0,rfl,Nat.le_refl _,rfl,.inl trivial⟩⟩
     · have hm:m=n:=(by omega);subst hm;by_cases h0:len=0
       ·subst h0;exact⟨.au [],by exact⟨[],rfl,by simp,by simp⟩,by simp only[R];exact⟨some a,0,cap,rfl,hlen,rfl,.inl trivial⟩⟩
       · have key:∀i,i<len→∃vs q,vs.length=P.cellsOf e∧(a.add (i*P.cellsOf e)).spot=none∧At (KW w) (a.add (i*P.cellsOf e)).block (a.add (i*P.cellsOf e)).off vs∧wD P m e q∧R (KW w) true q vs:=by
           intro i hi;have hg:=hget i hi;rw[List.getElem?_eq_getElem (by omega)]at hg;simp only[Option.bind_eq_some_iff]at hg;obtain⟨vs,h1,h2⟩:=hg;obtain⟨c1,c2,c3⟩:=I8 hp.2 h1;obtain⟨q,q1,q2⟩:=uv hT m e vs _ hp.1 h2;exact⟨vs,q,c1,c2,c3,q1,q2⟩
         have hspot:a.spot=none:=by
           obtain⟨_,_,_,h2,_⟩:=key 0 (by omega);simpa[Addr.add] using h2
         obtain⟨els,e1,e2,e3⟩:=FM (K:=KW w) (S:=wD P m e) (b:=a.block) (sz:=P.cellsOf e) (n:=len) (o:=a.off) fun i hi=>by
           obtain⟨vs,q,c1,c2,c3,q1,q2⟩:=key i hi;refine⟨vs,q,c1,?_,q1,q2⟩
           have:(a.add (i*P.cellsOf e)).block=a.block∧(a.add (i*P.cellsOf e)).off=a.off+i*P.cellsOf e:=by
             unfold Addr.add;split
             ·rename_i h0;simp[h0]
             ·exact⟨rfl,rfl⟩
           rwa [this.1,this.2]at c3
         refine⟨.au els,by exact⟨els,rfl,by omega,e2⟩,?_⟩;simp only[R];refine⟨some a,len,cap,rfl,hlen,e1,.inr ⟨a.block,a.off,P.cellsOf e,?_,e3⟩⟩;cases a;simp_all
   · rename_i fs hu;simp only[Bool.and_eq_true,List.all_eq_true,List.contains_iff_mem]at hp;obtain⟨xs,m,e0,_,hcs,hxs,hget⟩:=DataW.trod_struct hu h;have hm:m=n:=by omega
     subst hm
     obtain⟨ps,e1,e2⟩:=wE (K:=KW w) (S:=wD P m) (cs:=cs) hp.2 hcs fun f hf=>by
       obtain⟨i,hi,SB⟩:=List.getElem_of_mem hf;have hg:=hget i f (by rw[←Array.getElem?_toList];rw[List.getElem?_eq_getElem hi,SB]);rw[List.getElem?_eq_getElem (by simp at hi;omega)]at hg;exact uv hT m f.type _ _ (hp.1 f hf) hg
     refine⟨.agg (ps.flatMap aX),by exact⟨ps,rfl,e1⟩,?_⟩;simp only[R];exact⟨trivial,by simpa using e2⟩
   ·cases hp
theorem OF{T:List TypeId}(hT:FL P T=true){t:TypeId}{v:Value}{d:DataW H}{ps:List MemPlace}{r:Reach}{b0:Nat}(ht:t∈T)(hv:Value.okWide P w r b0 t v)
   (h:DataW.Trod enc P w base sp held t v d ps):∃n p,wD P n t p∧Rel (KW w) p v:=by
 obtain⟨n,hn⟩:=h;obtain⟨p,h1,h2⟩:=uv hT n t _ _ ht hn;refine⟨n,p,h1,?_⟩;have hp:=List.all_eq_true.1 hT t ht;cases n with
 |zero=>simp[wD]at h1
 |succ n=>
   simp only[wD]at h1;simp only[Value.okWide]at hv;split at hp
   ·rename_i hu;rw[hu]at h1 hv;obtain⟨b,rfl⟩:=h1;simp only[Cell.okWide,hu,Cell.ok]at hv;cases v<;>simp_all[Value.cells,R,Rel]
   ·rename_i k hu;rw[hu]at h1 hv;obtain⟨b,rfl,_⟩:=h1;simp only[Cell.okWide,hu,Cell.ok]at hv;cases v<;>simp_all[Value.cells,R,Rel]
   ·rename_i hu;rw[hu]at h1 hv;obtain⟨b,rfl,_⟩:=h1;simp only[Cell.okWide,hu,Cell.ok]at hv;cases v<;>simp_all[Value.cells,R,Rel]
   · rename_i e hu;rw[hu]at h1 hv;obtain⟨b,rfl,_⟩:=h1;simp only[Cell.okWide,hu,Cell.ok]at hv;cases v with
     |slice a l c=>
       simp only[R]at h2;simp only[Rel,R];simpa[Value.cells] using h2
     |agg cs=>simp at hv
     |_=>simp_all[Value.cells,R]
   ·rename_i fs hu;rw[hu]at h1 hv;obtain⟨b,rfl,_⟩:=h1;obtain⟨cs,rfl,_⟩:=hv;simp only[Value.cells,R]at h2;exact⟨cs.toList,by simp,h2.2⟩
   ·cases hp
def I9(P:Program):List TypeId→List PV→Prop
 |[],[]=>True
 |t::ts,p::ps=>(∃n,wD P n t p)∧I9 P ts ps
 |_,_=>False
theorem Bq{T:List TypeId}(hT:FL P T=true){r:Reach}{b0:Nat}:∀{ts:List TypeId} {vs:List Value} {ds:List (DataW H)} {ps:List MemPlace},(∀t∈ts,t∈T) →
   (∀(j:Nat) t v,ts[j]?=some t→vs[j]?=some v→Value.okWide P w r b0 t v)→DataW.TrodAll enc P w base sp held ts vs ds ps→∃cW,I9 P ts cW∧jo (KW w) cW vs∧ds.length=ts.length
 |[],vs,ds,ps,_,_,h=>by
   obtain⟨rfl,rfl,rfl⟩:=trodAll_nil h;exact⟨[],by simp[I9],by simp[jo],rfl⟩
 |t::ts,vs,ds,ps,hts,hv,h=>by
   obtain⟨v,vs',d,ds',p,q,rfl,rfl,rfl,h1,h2⟩:=trodAll_cons h;obtain⟨n,pv,a1,a2⟩:=OF hT (hts t (by simp)) (hv 0 t v (by simp) (by simp)) h1;obtain⟨cW,b1,b2,b3⟩:=Bq hT (fun t ht=>hts t (by simp[ht])) (fun j t v hj hj'=>hv (j+1) t v (by simpa using hj) (by simpa using hj')) h2;exact⟨pv::cW,⟨⟨n,a1⟩,b1⟩,⟨v,vs',rfl,a2,b2⟩,by simp[b3]⟩
theorem uw{W W':World}(hl:laidOutB P=true)(hb:Below W.heap.size W W'):∀{ts:List TypeId} {vs:List Value} {ds:List (DataW H)} {ps:List MemPlace},(∀t∈ts,P.readableRec t=true∧t<P.types.size) →
   DataW.TrodAll enc P W 0 (fun _=>true) true ts vs ds ps→(∀x∈ps,x.block<W.heap.size)→∀{sp:Nat→Bool},(∀x∈ps,sp x.block=true)→DataW.TrodAll enc P W' 0 sp true ts vs ds ps
 |[],vs,ds,ps,_,h,_,_,_=>by
   obtain⟨rfl,rfl,rfl⟩:=trodAll_nil h;exact trodAll_mk0
 |t::ts,vs,ds,ps,hts,h,hlt,sp,hs=>by
   obtain⟨v,vs',d,ds',p,q,rfl,rfl,rfl,h1,h2⟩:=trodAll_cons h;refine trodAll_cons_mk ?_ (uw hl hb (fun t ht=>hts t (by simp[ht])) h2 (fun x hx=>hlt x (by simp[hx])) (fun x hx=>hs x (by simp[hx])));exact WideElems.Trod_stays hl (hts t (by simp)).1 (hts t (by simp)).2 h1 (fun x hx=>hb.same (hlt x (by simp[hx]))) (fun x hx=>hs x (by simp[hx]))
end
theorem I_{H:Type}{enc:TypeId×Value→H}{P:Program}{f:Func}{s:ChangeSpec}{apart fresh handsOn again:Bool}{W W':World}{args:Array Value}{v:Value}{ds gs:List (DataW H)}{before:List MemPlace}
   (hW:DataW.Whole enc P f.params.toList s.vars apart W args.toList ds gs before)
   (ie:∀(b:Nat) (sp:Nat→Bool) (hd:Bool),DataW.TrodAll enc P W' b sp hd f.resultTypes.toList (v.resultList f.resultTypes.size) (s.fn H (ds++gs)).results [])
   (hargs:∀sp:Nat→Bool,(∀p∈before,sp p.block=true)→DataW.TrodAll enc P W' 0 sp true f.params.toList args.toList (s.fn H (ds++gs)).args before)
   (hvars:∀sp:Nat→Bool,DataW.TrodVars enc P W' sp s.vars (s.fn H (ds++gs)).vars []) (hB:Below W.heap.size W W')
   (hok:∀(j:Nat) (t:TypeId) (r:Value),f.resultTypes[j]?=some t→(v.resultList f.resultTypes.size)[j]?=some r→Value.okWide P W' .any 0 t r) :
   s.post enc P f apart fresh handsOn again W args v W':=by
 have hlt:∀p∈before,p.block<W.heap.size:=fun p hp=>by simpa using hW.lt p hp
 have hold:∀p∈before,(fun b=>decide (b<W.heap.size)) p.block=true:=fun p hp=>by simpa using hlt p hp
 refine⟨ds,gs,before,[],before,[],hW,ie _ _ _,hargs _ hold,hvars _,World.keptBut_mono (fun p hp=>⟨hp,.inr (.inl hp)⟩) (hB.frame _),fun _=>⟨hok,_,_,([]++before)++[],⟨[]++before,[],trodAll_append (hargs _ (fun _ _=>rfl)) (ie _ _ _),hvars _,rfl,?_,?_⟩,?_⟩⟩
 ·obtain⟨_,_,_,_,_,hz,_⟩:=hW;intro b off hp;simp only[List.nil_append,List.append_nil]at hp;rw[hB.frozen (hlt _ hp)];exact hz b off hp
 ·obtain⟨_,_,_,_,_,_,hn⟩:=hW;intro ha;simpa using hn ha
 ·intro p hp _;simpa using hp
theorem yA{H:Type}{enc:TypeId×Value→H}{P:Program}{ns:Names}{AP:Nat→Option aA}(hI:Impl P ns AP){f g:Nat}{fn:Func}{s:ChangeSpec}{T:List TypeId}{tb:TypeId}
   (hg:ns.of f=some g) (hvars:s.vars=[]) (ie:fn.resultTypes=#[tb]) (SD:P.underlying tb=some .bool) (hl:laidOutB P=true)
   (hrd:∀t∈fn.params.toList,P.readableRec t=true∧t<P.types.size) (hT:FL P T=true) (hin:∀t∈fn.params.toList,t∈T)
   (hs:∀ds:List (DataW H),ds.length=fn.params.size→s.fn H ds={ results:=[.lit (.bool true)],args:=ds })
   (law:∀cW,I9 P fn.params.toList cW→(aC AP).p g cW=some [.bool true])
   (W:World) (base:Nat) (args:Array Value) (ds gs:List (DataW H)) (before:List MemPlace)
   (hval:∀(j:Nat) t v,fn.params[j]?=some t→args[j]?=some v→Value.okWide P W .any base t v)
   (hW:DataW.Whole enc P fn.params.toList s.vars false W args.toList ds gs before)
   (hpin:nW ns.kz W:=by intro _ _ h;exact Option.noConfusion (show (none:Option (Array Value))=some _ from h)) :
   Calls P f args W fun e W'=>∃v,e=.returned v∧s.post enc P fn false true false false W args v W':=by
 have hW':=hW;obtain⟨p,q,hA,hV,rfl,hfz,hnd⟩:=hW;rw[hvars]at hV;obtain⟨rfl,rfl⟩:=trodVars_none hV;simp only[List.append_nil]at hW';obtain⟨cW,h1,h2,h3⟩:=Bq (r:=.any) (b0:=base) hT hin (fun j t v hj hj'=>hval j t v (by simpa using hj) (by simpa using hj')) hA;obtain⟨n,hn⟩:=sF (law cW h1);have hC:=(wC hI n n).p g f cW _ hg hn (KW W) W args.toList hpin (Tw W) h2;rw[Array.toArray_toList]at hC;refine hC.mono ?_
 rintro e W' ⟨v,K',rfl,hr,_,_,_,hB⟩
 simp only[ik,Rel,R]at hr;obtain rfl:v=.bool true:=by simpa using hr
 have hlt:∀x∈p,x.block<W.heap.size:=fun x hx=>by simpa using hW'.lt x hx
 have hspec:=hs ds (by simpa using h3);refine⟨_,rfl,I_ hW' (fun _ _ _=>?_) (fun sp hsp=>?_) (fun _=>?_) hB (ok_one ie rfl (okWide_bool_mk SD _))⟩
 ·simp only[List.append_nil];rw[hspec,ie];exact trodAll_cons_mk (p:=[]) (p':=[]) (shut_bool SD _) trodAll_mk0
 ·simp only[List.append_nil];rw[hspec];exact uw hl hB hrd hA hlt hsp
 ·rw[hvars];simp only[List.append_nil];rw[hspec];rfl
end Go.Ab
namespace Go.Ab.Fc
variable {α:Type}
def fN(n:Nat)(K:Nat→Option α):Option α:=match n with
 |0=>K 0
 |m+1=>K (m+1)
theorem rR{n:Nat}{K:Nat→Option α}:fN n K=K n:=by cases n<;>rfl
def fI(n:Int)(K:Int→Option α):Option α:=match n with
 | .ofNat m=>fN m fun m=>K (.ofNat m)
 | .negSucc m=>fN m fun m=>K (.negSucc m)
theorem LC{n:Int}{K:Int→Option α}:fI n K=K n:=by cases n<;>simp[fI,rR]
def fB(b:Bool)(K:Bool→Option α):Option α:=match b with
 |true=>K true
 |false=>K false
theorem ux{b:Bool}{K:Bool→Option α}:fB b K=K b:=by cases b<;>rfl
def fS{β:Type}:List β→(List β→Option α)→Option α
 |[],K=>K []
 |a::r,K=>fS r fun r=>K (a::r)
theorem Bs{β:Type}:∀{l:List β} {K:List β→Option α},fS l K=K l
 |[],_=>rfl
 |a::r,K=>by simp only[fS];rw[Bs]
def fL(p:PV)(K:PV→Option α):Option α:=match p with
 | .bool b=>fB b fun b=>K (.bool b)
 | .int k n=>fI n fun n=>K (.int k n)
 | .str s=>K (.str s)
 | .agg cs=>K (.agg cs)
 | .au l=>K (.au l)
theorem P4{p:PV}{K:PV→Option α}:fL p K=K p:=by cases p<;>simp[fL,ux,LC]
def Tx:List PV→(List PV→Option α)→Option α
 |[],K=>K []
 |a::r,K=>fL a fun a=>Tx r fun r=>K (a::r)
theorem EJ:∀{l:List PV} {K:List PV→Option α},Tx l K=K l
 |[],_=>rfl
 |a::r,K=>by simp only[Tx];rw[P4,EJ]
def fP(p:PV)(K:PV→Option α):Option α:=match p with
 | .agg cs=>Tx cs fun cs=>K (.agg cs)
 |p=>fL p K
theorem LD{p:PV}{K:PV→Option α}:fP p K=K p:=by cases p<;>simp[fP,EJ,P4]
def VO(v:AV)(K:AV→Option α):Option α:=match v with
 | .un=>K .un
 | .pv p=>fP p fun p=>K (.pv p)
 | .dH l=>K (.dH l)
 | .own l τ=>fN τ fun τ=>K (.own l τ)
 | .agg cs=>K (.agg cs)
 | .qW cs=>K (.qW cs)
 | .az a b=>fN a fun a=>fN b fun b=>K (.az a b)
 | .aW a b=>fN a fun a=>fN b fun b=>K (.aW a b)
 | .gf cs=>fS cs fun cs=>K (.gf cs)
 | .aP a b c d=>fN a fun a=>fN c fun c=>K (.aP a b c d)
 | .fn g c=>K (.fn g c)
 | .kr=>K .kr
 | .ku s=>fN s fun s=>K (.ku s)
 | .gg kvs=>fS kvs fun kvs=>K (.gg kvs)
 | .p_ a b c=>fN a fun a=>fN b fun b=>fN c fun c=>K (.p_ a b c)
 | .jH a b=>fN a fun a=>fN b fun b=>K (.jH a b)
theorem LF{v:AV}{K:AV→Option α}:VO v K=K v:=by cases v<;>simp[VO,LD,rR,Bs]
def OG:List AV→(List AV→Option α)→Option α
 |[],K=>K []
 |a::r,K=>VO a fun a=>OG r fun r=>K (a::r)
theorem uy:∀{l:List AV} {K:List AV→Option α},OG l K=K l
 |[],_=>rfl
 |a::r,K=>by simp only[OG];rw[LF,uy]
def fA(v:AV)(K:AV→Option α):Option α:=match v with
 | .agg cs=>OG cs fun cs=>K (.agg cs)
 | .qW cs=>OG cs fun cs=>K (.qW cs)
 | .fn g cs=>OG cs fun cs=>K (.fn g cs)
 |v=>VO v K
theorem rS{v:AV}{K:AV→Option α}:fA v K=K v:=by cases v<;>simp[fA,uy,LF]
def Tz:List AV→(List AV→Option α)→Option α
 |[],K=>K []
 |a::r,K=>fA a fun a=>Tz r fun r=>K (a::r)
theorem uz:∀{l:List AV} {K:List AV→Option α},Tz l K=K l
 |[],_=>rfl
 |a::r,K=>by simp only[Tz];rw[rS,uz]
def fV(v:AV)(K:AV→Option α):Option α:=match v with
 | .pv (.str s)=>fS s fun s=>K (.pv (.str s))
 | .pv (.au l)=>fS l fun l=>K (.pv (.au l))
 | .dH l=>fS l fun l=>Tx l fun l=>K (.dH l)
 | .own l τ=>fS l fun l=>fN τ fun τ=>K (.own l τ)
 |v=>fA v K
theorem LG{v:AV}{K:AV→Option α}:fV v K=K v:=by
 cases v with
 |pv p=>cases p<;>simp[fV,Bs,rS]
 |_=>simp[fV,Bs,rS,EJ,rR]
def TE:List PV→(List PV→Option α)→Option α
 |[],K=>K []
 |a::r,K=>fP a fun a=>TE r fun r=>K (a::r)
theorem LH:∀{l:List PV} {K:List PV→Option α},TE l K=K l
 |[],_=>rfl
 |a::r,K=>by simp only[TE];rw[LD,LH]
def fresh:AK→Bool
 | .v (.eh _)| .v (.slice ..)| .append ..| .v (.bin .add)=>true
 |_=>false
def Xp(op:AK)(v:AV)(K:AV→Option α):Option α:=match op,v with
 | .v (.eh _),.dH l=>TE l fun l=>K (.dH l)
 |op,v=>if fresh op then fV v K else fA v K
def fO{β:Type}(f:β→(β→Option α)→Option α)(o:Option β)(K:Option β→Option α):Option α:=match o with
 |none=>K none
 |some x=>f x fun x=>K (some x)
theorem TG{β:Type}{f:β→(β→Option α)→Option α}(hf:∀x K,f x K=K x){o:Option β}{K:Option β→Option α}:fO f o K=K o:=by cases o<;>simp[fO,hf]
def SE:Sh→(Sh→Option α)→Option α
 |[],K=>K []
 |a::r,K=>fO OG a fun a=>SE r fun r=>K (a::r)
theorem qy:∀{l:Sh} {K:Sh→Option α},SE l K=K l
 |[],_=>rfl
 |a::r,K=>by simp only[SE];rw[TG (fun _ _=>uy),qy]
def fT:aG→(aG→Option α)→Option α
 |[],K=>K []
 |a::r,K=>fN a fun a=>fT r fun r=>K (a::r)
theorem wF:∀{l:aG} {K:aG→Option α},fT l K=K l
 |[],_=>rfl
 |a::r,K=>by simp only[fT];rw[rR,wF]
def Wp{β:Type}:List (Nat×β)→Nat→β→(List (Nat×β)→Option α)→Option α
 |[],t,u,K=>K [(t,u)]
 |(k,v)::r,t,u,K=>if k=t then K ((k,u)::r) else Wp r t u fun r=>K ((k,v)::r)
def OH:List (Nat×AV)→(List (Nat×AV)→Option α)→Option α
 |[],K=>K []
 |(t,v)::r,K=>fA v fun v=>OH r fun r=>K ((t,v)::r)
theorem FN:∀{l:List (Nat×AV)} {K:List (Nat×AV)→Option α},OH l K=K l
 |[],_=>rfl
 |(t,v)::r,K=>by simp only[OH];rw[rS,FN]
def OI:List (Nat×List AV)→(List (Nat×List AV)→Option α)→Option α
 |[],K=>K []
 |(t,v)::r,K=>OG v fun v=>OI r fun r=>K ((t,v)::r)
theorem FO:∀{l:List (Nat×List AV)} {K:List (Nat×List AV)→Option α},OI l K=K l
 |[],_=>rfl
 |(t,v)::r,K=>by simp only[OI];rw[uy,FO]
def Ru(st:St)(K:St→Option α):Option α:=match st with
 |⟨env,mem,sh,aa⟩=>OH env fun env=>OI mem fun mem=>SE sh fun sh=>fT aa fun aa=>K ⟨env,mem,sh,aa⟩
theorem uA{st:St}{K:St→Option α}:Ru st K=K st:=by
 obtain⟨env,mem,sh,aa⟩:=st;simp only[Ru];rw[FN,FO,qy,wF]
def lk{β:Type}:List (Nat×β)→Nat→Option β
 |[],_=>none
 |(k,v)::r,t=>bif Nat.beq k t then some v else lk r t
theorem wG{β:Type}:∀{l:List (Nat×β)} {t:Nat},lk l t=look l t
 |[],_=>rfl
 |(k,v)::r,t=>by
   simp only[lk,look];rw[wG];by_cases h:k=t
   ·subst h;simp
   ·rw[if_neg h,show Nat.beq k t=false from by rw[Bool.eq_false_iff];intro e;exact h (Nat.eq_of_beq_eq_true e)];rfl
def pt{β:Type}:List (Nat×β)→Nat→β→(List (Nat×β)→Option α)→Option α
 |[],t,u,K=>K [(t,u)]
 |(k,v)::r,t,u,K=>bif Nat.beq k t then K ((k,u)::r) else pt r t u fun r=>K ((k,v)::r)
theorem LI{β:Type}:∀{l:List (Nat×β)} {t:Nat} {u:β} {K:List (Nat×β)→Option α},pt l t u K=K (cX l t u)
 |[],_,_,_=>rfl
 |(k,v)::r,t,u,K=>by
   simp only[pt,cX];by_cases h:k=t
   ·subst h;simp
   ·rw[if_neg h,show Nat.beq k t=false from by rw[Bool.eq_false_iff];intro e;exact h (Nat.eq_of_beq_eq_true e)];exact LI
def od(env:List (Nat×AV))(x:eT)(K:AV→Option α):Option α:=match x with
 | .t n=>match lk env n with
   |some v=>K v
   |none=>none
 | .c v=>K v
theorem TH{env:List (Nat×AV)}{x:eT}{K:AV→Option α}:od env x K=(hU env x).bind K:=by
 cases x with
 |t n=>simp only[od,hU,wG];cases look env n<;>rfl
 |c v=>rfl
def SF(env:List (Nat×AV)):List eT→(List AV→Option α)→Option α
 |[],K=>K []
 |x::r,K=>od env x fun v=>SF env r fun vs=>K (v::vs)
theorem LJ{env:List (Nat×AV)}:∀{l:List eT} {K:List AV→Option α},SF env l K=(dY env l).bind K
 |[],_=>rfl
 |x::r,K=>by
   simp only[SF,dY];rw[TH];cases hU env x with
   |none=>rfl
   |some v=>
     dsimp only[Option.bind_some];rw[LJ];cases dY env r<;>rfl
def Rv:IntKind→Nat
 | .i8=>0| .i16=>1| .i32=>2| .i64=>3| .u8=>4| .u16=>5| .u32=>6| .u64=>7
theorem OJ{a b:IntKind}(h:Nat.beq (Rv a) (Rv b)=true):a=b:=by
 have:=Nat.eq_of_beq_eq_true h;cases a<;>cases b<;>first|rfl|(simp[Rv]at this)
def VP:Int→Int→Bool
 | .ofNat a,.ofNat b=>Nat.beq a b
 | .negSucc a,.negSucc b=>Nat.beq a b
 |_,_=>false
theorem Wq{a b:Nat}:Nat.beq a b=decide (a=b):=by
 by_cases h:a=b
 ·subst h;simp
 ·rw[decide_eq_false h,Bool.eq_false_iff];intro e;exact h (Nat.eq_of_beq_eq_true e)
theorem LK{a b:Int}:VP a b=(a == b):=by
 cases a<;>cases b<;>(rw[Bool.eq_iff_iff];simp[VP,Wq])<;>omega
def SG:Int→Int→Bool
 | .ofNat a,.ofNat b=>Nat.blt a b
 | .negSucc a,.negSucc b=>Nat.blt b a
 | .negSucc _,.ofNat _=>true
 | .ofNat _,.negSucc _=>false
theorem yB{a b:Int}:SG a b=decide (a<b):=by
 cases a<;>cases b<;>(rw[Bool.eq_iff_iff];simp[SG,Nat.blt_eq])<;>omega
def Rw(k:IntKind)(a b:Int)(K:Int→Option α):Option α:=match k,a,b with
 | .i64,.ofNat x,.ofNat y=>bif Nat.blt (x+y) 4611686018427387904 then fN (x+y) fun n=>K (.ofNat n) else fI (IntKind.i64.wrap (.ofNat x+.ofNat y)) K
 |k,a,b=>fI (k.wrap (a+b)) K
theorem OK{k:IntKind}{a b:Int}{K:Int→Option α}:Rw k a b K=K (k.wrap (a+b)):=by
 unfold Rw;split
 · rename_i x y;cases h:Nat.blt (x+y) 4611686018427387904 with
   |false=>simp only[cond_false];exact LC
   |true=>
     simp only[cond_true,rR];have:x+y<4611686018427387904:=by simpa[Nat.blt_eq] using h
     congr 1;simp[IntKind.wrap,IntKind.bits,IntKind.signed];omega
 ·exact LC
def Rx(op:BinOp)(a b:AV)(K:AV→Option α):Option α:=match a with
 | .pv (.int k x)=>match b with
   | .pv (.int k' y)=>bif Nat.beq (Rv k) (Rv k') then (match op with
       | .eql=>fB (VP x y) fun c=>K (.pv (.bool c))
       | .neq=>fB (!VP x y) fun c=>K (.pv (.bool c))
       | .lss=>fB (SG x y) fun c=>K (.pv (.bool c))
       | .gtr=>fB (SG y x) fun c=>K (.pv (.bool c))
       | .geq=>fB (!SG x y) fun c=>K (.pv (.bool c))
       | .leq=>fB (!SG y x) fun c=>K (.pv (.bool c))
       | .add=>Rw k x y fun n=>K (.pv (.int k n))
       |op=>(cC op a b).bind fun v=>fV v K)
     else (cC op a b).bind fun v=>fV v K
   |b=>(cC op a b).bind fun v=>fV v K
 |a=>(cC op a b).bind fun v=>fV v K
theorem OL{op:BinOp}{a b:AV}{K:AV→Option α}:Rx op a b K=(cC op a b).bind K:=by
 have dflt:((cC op a b).bind fun v=>fV v K)=(cC op a b).bind K:=by
   congr 1;funext v;exact LG
 unfold Rx;split
 · rename_i k x;split
   · rename_i k' y;cases hk:Nat.beq (Rv k) (Rv k') with
     |false=>exact dflt
     |true=>
       obtain rfl:=OJ hk;simp only[cond_true];split
       ·simp[ux,LK,cC]
       ·simp[ux,LK,cC,bne]
       ·simp[ux,yB,cC]
       ·simp[ux,yB,cC]
       ·simp[ux,yB,cC,←decide_not,Int.not_lt]
       ·simp[ux,yB,cC,←decide_not,Int.not_lt]
       ·simp[OK,cC]
       ·exact dflt
   ·exact dflt
 ·exact dflt
def WW(off:Nat)(x:AV)(K:AV→Option α):Option α:=match x with
 | .az d o=>fN (o+off) fun n=>K (.az d n)
 | .aW b o=>fN (o+off) fun n=>K (.aW b n)
 | .gf cs=>fS (cs.drop off) fun cs=>K (.gf cs)
 |_=>none
def nth{β:Type}:List β→Nat→Option β
 |[],_=>none
 |a::r,n=>match n with
   |0=>some a
   |n+1=>nth r n
theorem EK{β:Type}:∀{l:List β} {n:Nat},nth l n=l[n]?
 |[],n=>by simp[nth]
 |a::r,0=>rfl
 |a::r,n+1=>by simp only[nth,List.getElem?_cons_succ];exact EK
def ln{β:Type}:List β→Nat→(Nat→Option α)→Option α
 |[],n,K=>K n
 |_::r,n,K=>fN (n+1) fun n=>ln r n K
theorem FP{β:Type}:∀{l:List β} {n:Nat} {K:Nat→Option α},ln l n K=K (n+l.length)
 |[],n,K=>rfl
 |_::r,n,K=>by
   simp only[ln];rw[rR,FP];congr 1;simp;omega
def xV(o:NK)(vals:List AV)(K:AV→Option α):Option α:=match o with
 | .mv=>match vals with
   |[x]=>K x
   |vals=>(bB .mv vals).bind fun v=>fA v K
 | .bin op=>match vals with
   |[a,b]=>Rx op a b K
   |vals=>(bB (.bin op) vals).bind fun v=>fA v K
 | .g_ off=>match vals with
   |[x]=>WW off x K
   |vals=>(bB (.g_ off) vals).bind fun v=>fA v K
 | .qa=>match vals with
   |[.az a b]=>K (.az a b)
   |[.aW a b]=>K (.aW a b)
   |vals=>(bB .qa vals).bind fun v=>fA v K
 | .index=>match vals with
   |[.pv (.str s),.pv (.int _ (.ofNat i))]=>match nth s i with
     |some b=>fN b.toNat fun n=>K (.pv (.int .u8 (.ofNat n)))
     |none=>none
   |vals=>(bB .index vals).bind fun v=>fA v K
 | .Cs=>match vals with
   |[.pv (.str s)]=>ln s 0 fun n=>K (.pv (.int .i64 (.ofNat n)))
   |vals=>(bB .Cs vals).bind fun v=>fA v K
 | .len=>match vals with
   |[.pv (.au l)]=>ln l 0 fun n=>K (.pv (.int .i64 (.ofNat n)))
   |[.own l _]=>ln l 0 fun n=>K (.pv (.int .i64 (.ofNat n)))
   |vals=>(bB .len vals).bind fun v=>fA v K
 | .eh sz=>match bB (.eh sz) vals with
   |some (.dH l)=>TE l fun l=>K (.dH l)
   |some v=>K v
   |none=>none
 | .slice a b c d e=>(bB (.slice a b c d e) vals).bind fun v=>fV v K
 |o=>(bB o vals).bind fun v=>fA v K
theorem TI{o:NK}{vals:List AV}{K:AV→Option α}:xV o vals K=(bB o vals).bind K:=by
 have dA:∀o vals,((bB o vals).bind fun v=>fA v K)=(bB o vals).bind K:=by
   intro o vals;congr 1;funext v;exact rS
 unfold xV;split
 · split
   ·rfl
   ·exact dA _ _
 · split
   ·exact OL
   ·exact dA _ _
 · split
   ·rename_i x;cases x<;>simp[WW,bB,rR,Bs]
   ·exact dA _ _
 · split
   ·rfl
   ·rfl
   ·exact dA _ _
 · split
   · rename_i s k i;rw[EK];have hi:¬(Int.ofNat i<0):=by simp
     simp only[bB];rw[if_neg hi];simp only[Int.toNat_natCast,Int.ofNat_eq_natCast];cases s[i]? with
     |none=>rfl
     |some b=>simp[rR]
   ·exact dA _ _
 · split
   ·simp[FP,bB]
   ·exact dA _ _
 · split
   ·simp[FP,bB,cJ]
   ·simp[FP,bB,cJ]
   ·exact dA _ _
 · split
   ·rename_i l h;rw[h,LH];rfl
   ·rename_i h;rw[h];rfl
   ·rename_i h;rw[h];rfl
 ·congr 1;funext v;exact LG
 ·exact dA _ _
def lay(env:List (Nat×AV))(mem:List (Nat×List AV))(sh:Sh)(aa:aG)(d:Option Nat)(v:AV)(K:St→Option α):Option α:=match d with
 |some d=>pt env d v fun env=>K ⟨env,mem,sh,aa⟩
 |none=>K ⟨env,mem,sh,aa⟩
theorem mj{env:List (Nat×AV)}{mem:List (Nat×List AV)}{sh:Sh}{aa:aG}{d:Option Nat}{v:AV}{K:St→Option α}:lay env mem sh aa d v K=K ⟨fU env d v,mem,sh,aa⟩:=by
 cases d<;>simp[lay,fU,LI]
def Ry(mem:List (Nat×List AV))(k:Nat)(cs:Option (List AV))(K:List (Nat×List AV)→Option α):Option α:=match cs with
 |some cs=>OG cs fun cs=>pt mem k cs K
 |none=>K mem
theorem OM{mem:List (Nat×List AV)}{k:Nat}{cs:Option (List AV)}{K:List (Nat×List AV)→Option α}:Ry mem k cs K=K (e8 mem (some k) cs):=by
 cases cs<;>simp[Ry,e8,uy,LI]
def LL(orc:d9)(op:AK)(d:Option Nat)(vals:List AV)(env:List (Nat×AV))(mem:List (Nat×List AV))(sh:Sh)(aa:aG)(K:St→Option α):Option α:=
 match exec orc op vals (op.key.bind (look mem)) sh aa with
 |none=>none
 |some ⟨val,cells,sh',toks'⟩=>fV val fun val=>(match op.key with|some k=>Ry mem k cells|none=>fun K=>K mem) fun mem=>SE sh' fun sh'=>fT toks' fun toks'=>lay env mem sh' toks' d val K
theorem yC{orc:d9}{op:AK}{d:Option Nat}{vals:List AV}{env:List (Nat×AV)}{mem:List (Nat×List AV)}{sh:Sh}{aa:aG}{K:St→Option α} :
   LL orc op d vals env mem sh aa K=(match exec orc op vals (op.key.bind (look mem)) sh aa with
     |none=>none
     |some out=>some (⟨fU env d out.val,e8 mem op.key out.cells,out.sh,out.aa⟩:St)).bind K:=by
 unfold LL;cases exec orc op vals (op.key.bind (look mem)) sh aa with
 |none=>rfl
 |some out=>
   obtain⟨val,cells,sh',toks'⟩:=out;simp only[LG,Option.bind_some];cases op.key with
   |none=>simp only[qy,wF,mj];cases cells<;>rfl
   |some k=>simp only[OM,qy,wF,mj]
def xP(orc:d9)(g:Nat)(vals:List AV)(K:AV→Option α):Option α:=match c_ [] vals with
 |some cW=>match orc.p g cW with
   |some rs=>fA (tc rs) K
   |none=>none
 |none=>none
def x1(orc:d9)(op:AK)(d:Option Nat)(vals:List AV)(env:List (Nat×AV))(mem:List (Nat×List AV))(sh:Sh)(aa:aG)(K:St→Option α):Option α:=match op with
 | .v o=>xV o vals fun v=>lay env mem sh aa d v K
 | .aJ g=>xP orc g vals fun v=>lay env mem sh aa d v K
 | .bY key off sz ag=>match vals with
   |[.az d' o]=>match lk mem key with
     |some cs=>bif Nat.beq d' key && Nat.beq o off then (match bR ag sz cs off with
         |some v=>fA v fun v=>lay env mem sh aa d v K
         |none=>none) else none
     |none=>none
   |vals=>LL orc (.bY key off sz ag) d vals env mem sh aa K
 | .d7 sz ag=>match vals with
   |[.aW b off]=>match nth sh b with
     |some (some cs)=>bif bV cs then none else (match bR ag sz cs off with
         |some v=>fA v fun v=>lay env mem sh aa d v K
         |none=>none)
     |_=>none
   |vals=>LL orc (.d7 sz ag) d vals env mem sh aa K
 |op=>LL orc op d vals env mem sh aa K
theorem TJ{orc:d9}{op:AK}{d:Option Nat}{vals:List AV}{env:List (Nat×AV)}{mem:List (Nat×List AV)}{sh:Sh}{aa:aG}{K:St→Option α} :
   x1 orc op d vals env mem sh aa K=(match exec orc op vals (op.key.bind (look mem)) sh aa with
     |none=>none
     |some out=>some (⟨fU env d out.val,e8 mem op.key out.cells,out.sh,out.aa⟩:St)).bind K:=by
 unfold x1;split
 · rename_i o;simp only[TI,mj,exec];cases bB o vals with
   |none=>rfl
   |some v=>rfl
 · rename_i g;simp only[xP,exec];cases c_ [] vals with
   |none=>rfl
   |some cW=>
     dsimp only;cases orc.p g cW with
     |none=>rfl
     |some rs=>simp only[rS,mj];rfl
 · rename_i key off sz ag;split
   · rename_i d' o;rw[wG];have hk:((AK.bY key off sz ag).key.bind (look mem))=look mem key:=rfl;rw[hk];cases look mem key with
     |none=>simp[exec]
     |some cs=>
       simp only[exec];by_cases h:d'=key∧o=off
       · obtain⟨rfl,rfl⟩:=h;simp only[Nat.beq_refl,Bool.and_self,cond_true,and_self,if_true];cases bR ag sz cs o with
         |none=>rfl
         |some v=>simp only[rS,mj];rfl
       · rw[if_neg h]
         have:(Nat.beq d' key && Nat.beq o off)=false:=by
           rw[Bool.eq_false_iff];intro e;simp only[Bool.and_eq_true]at e;exact h ⟨Nat.eq_of_beq_eq_true e.1,Nat.eq_of_beq_eq_true e.2⟩
         rw[this];rfl
   ·exact yC
 · rename_i sz ag;split
   · rename_i b off;rw[EK];simp only[exec];split
     · rename_i cs h;rw[h];dsimp only;cases bV cs with
       |true=>rfl
       |false=>
         simp only[cond_false,Bool.false_eq_true,if_false];cases bR ag sz cs off with
         |none=>rfl
         |some v=>simp only[rS,mj];rfl
     · rename_i h;split
       ·rfl
       · rename_i e1 e2 e3;split at e3
         ·rename_i cs e4;exact absurd e4 (h cs)
         ·cases e3
   ·exact yC
 ·exact yC
def VQ(orc:d9)(o:dN)(st:St)(K:St→Option α):Option α:=match st with
 |⟨env,mem,sh,aa⟩=>match o with
   |⟨d,g,args,op⟩=>match g with
     |none=>SF env args fun vals=>x1 orc op d vals env mem sh aa K
     |some (t,b)=>match lk env t with
       |some (.pv (.bool c))=>bif c == b then SF env args fun vals=>x1 orc op d vals env mem sh aa K else lay env mem sh aa d .un K
       |some .un=>lay env mem sh aa d .un K
       |_=>none
theorem Rz{orc:d9}{o:dN}{st:St}{K:St→Option α}:VQ orc o st K=(dV orc o st).bind K:=by
 obtain⟨env,mem,sh,aa⟩:=st;obtain⟨d,g,args,op⟩:=o
 have run:(SF env args fun vals=>x1 orc op d vals env mem sh aa K)=(match dY env args with
     |none=>none
     |some vals=>match exec orc op vals (op.key.bind (look mem)) sh aa with
       |none=>none
       |some out=>some (⟨fU env d out.val,e8 mem op.key out.cells,out.sh,out.aa⟩:St)).bind K:=by
   rw[LJ];cases dY env args with
   |none=>rfl
   |some vals=>exact TJ
 cases g with
 |none=>simp only[VQ,dV,fD];exact run
 |some p=>
   obtain⟨t,b⟩:=p;simp only[VQ,dV,fD,wG];split
   · rename_i c h;rw[h];dsimp only;cases hc:(c == b) with
     |true=>simp only[cond_true];exact run
     |false=>simp only[cond_false,mj];rfl
   ·rename_i h;rw[h];simp only[mj];rfl
   · rename_i h1 h2;split
     ·rfl
     ·rename_i e;split at e<;>simp_all
     ·rename_i e;split at e<;>simp_all
def ON(orc:d9):List dN→St→(St→Option α)→Option α
 |[],st,K=>K st
 |o::r,st,K=>VQ orc o st fun st=>ON orc r st K
theorem FQ{orc:d9}:∀{l:List dN} {st:St} {K:St→Option α},ON orc l st K=(bp orc l st).bind K
 |[],_,_=>rfl
 |o::r,st,K=>by
   simp only[ON,bp];rw[Rz];cases dV orc o st with
   |none=>rfl
   |some s=>exact FQ
def FR(f:St→(bg→St→Option α)→Option α)(pre:St→St):Nat→St→(bg→St→Option α)→Option α
 |0,_,_=>none
 |n+1,st,K=>Ru (pre st) fun st=>f st fun e st=>match e with
   | .normal=>FR f pre n st K
   |e=>K e st
def P5(live:List Nat)(v:AV):Bool:=match v with
 | .az d _=>live.contains d
 | .jH d _=>live.contains d
 | .pv _=>true
 | .own ..=>true
 | .agg cs=>fM cs
 |v=>bE v
theorem LM{live:List Nat}{v:AV}:P5 live v=d8 live v:=by cases v<;>rfl
def TM(live:List Nat)(env:List (Nat×AV)):List Nat→(List (Nat×AV)→Option α)→Option α
 |[],K=>K []
 |t::r,K=>match lk env t with
   |some v=>TM live env r fun e=>bif P5 live v then K ((t,v)::e) else K e
   |none=>TM live env r K
theorem EL{live:List Nat}{env:List (Nat×AV)}:∀{l:List Nat} {K:List (Nat×AV)→Option α},TM live env l K=K (bD live env l)
 |[],_=>rfl
 |t::r,K=>by
   simp only[TM,bD,wG];cases look env t with
   |none=>exact EL
   |some v=>
     dsimp only;rw[EL,LM];cases d8 live v<;>simp
def TN(mem:List (Nat×List AV)):List Nat→(List (Nat×List AV)→Option α)→Option α
 |[],K=>K []
 |t::r,K=>match lk mem t with
   |some v=>TN mem r fun e=>K ((t,v)::e)
   |none=>TN mem r K
theorem EM{mem:List (Nat×List AV)}:∀{l:List Nat} {K:List (Nat×List AV)→Option α},TN mem l K=K (bG mem l)
 |[],_=>rfl
 |t::r,K=>by
   simp only[TN,bG,wG];cases look mem t with
   |none=>exact EM
   |some v=>exact EM
def rs(live:List Nat)(st:St)(K:St→Option α):Option α:=match st with
 |⟨env,mem,sh,aa⟩=>TM live env live fun env=>TN mem live fun mem=>K ⟨env,mem,sh,aa⟩
theorem TO{live:List Nat}{st:St}{K:St→Option α}:rs live st K=K (restrict live st):=by
 obtain⟨env,mem,sh,aa⟩:=st;simp only[rs];rw[EL,EM];rfl
def P6(K:bg→St→Option α):Option (bg×St)→Option α
 |some (e,st)=>K e st
 |none=>none
def cF(orc:d9)(k:Nat):aq→St→(bg→St→Option α)→Option α
 | .skip,st,K=>K .normal st
 | .iN ops live,st,K=>ON orc ops st fun st=>rs live st fun st=>K .normal st
 | .seq a b,st,K=>cF orc k a st fun e st=>match e with
   | .normal=>cF orc k b st K
   |e=>K e st
 | .cond c a b,st,K=>match hU st.env c with
   |some (.pv (.bool t))=>match t with
     |true=>cF orc k a st K
     |false=>cF orc k b st K
   |_=>none
 | .block id b,st,K=>cF orc k b st fun e st=>match e with
   | .exit id'=>if id'=id then K .normal st else K (.exit id') st
   |e=>K e st
 | .loop live b,st,K=>FR (cF orc k b) (fun s=>norm (restrict live s)) k st K
 | .back c gb pi px sz ag live x y,st,K=>P6 K (cM orc k (.back c gb pi px sz ag live x y) st)
 | .exit id,st,K=>K (.exit id) st
 | .ret,st,K=>K .ret st
 | .dd ts,st,K=>K .normal (nB ts st)
 | .PU ds,st,K=>bif iO st.env ds then K .normal st else none
 | .lN ps,st,K=>Ru (xu ps st) fun st=>K .normal st
 | .lV ts,st,K=>Ru (Cu ts st) fun st=>K .normal st
 | .PW ts,st,K=>Ru (jn ts st) fun st=>K .normal st
theorem Bt{f:St→(bg→St→Option α)→Option α}{g:St→Option (bg×St)}{pre:St→St}(h:∀st K,f st K=P6 K (g st)):∀{n:Nat} {st:St} {K:bg→St→Option α},FR f pre n st K=P6 K (fo g pre n st)
 |0,_,_=>rfl
 |n+1,st,K=>by
   simp only[FR,fo];rw[uA,h];cases g (pre st) with
   |none=>rfl
   |some q=>
     obtain⟨e,s⟩:=q;cases e with
     |normal=>exact Bt h
     |ret=>rfl
     |exit id=>rfl
theorem uB{orc:d9}{k:Nat}:∀{c:aq} {st:St} {K:bg→St→Option α},cF orc k c st K=P6 K (cM orc k c st)
 | .skip,_,_=>rfl
 | .iN ops live,st,K=>by
   simp only[cF,cM];rw[FQ];cases bp orc ops st with
   |none=>rfl
   |some s=>simp only[Option.bind_some,TO,P6]
 | .seq a b,st,K=>by
   simp only[cF,cM];rw[uB];cases cM orc k a st with
   |none=>rfl
   |some q=>
     obtain⟨e,s⟩:=q;cases e with
     |normal=>simp only[P6];exact uB
     |ret=>rfl
     |exit id=>rfl
 | .cond c a b,st,K=>by
   simp only[cF,cM];split
   · rename_i t h;rw[h];cases t with
     |true=>exact uB
     |false=>exact uB
   · rename_i h;split
     ·rename_i t h';exact absurd h' (h t)
     ·rfl
 | .block id b,st,K=>by
   simp only[cF,cM];rw[uB];cases cM orc k b st with
   |none=>rfl
   |some q=>
     obtain⟨e,s⟩:=q;cases e with
     |normal=>rfl
     |ret=>rfl
     |exit id'=>
       simp only[P6];split<;>rfl
 | .loop live b,st,K=>by
   simp only[cF,cM];exact Bt (g:=cM orc k b) fun _ _=>uB
 | .back c gb pi px sz ag live x y,_,_=>by simp only[cF]
 | .exit id,_,_=>rfl
 | .ret,_,_=>rfl
 | .dd _,_,_=>rfl
 | .PU ds,st,K=>by
   simp only[cF,cM];cases iO st.env ds<;>rfl
 | .lN ps,st,K=>by
   simp only[cF,cM];rw[uA];rfl
 | .lV ps,st,K=>by
   simp only[cF,cM];rw[uA];rfl
 | .PW ps,st,K=>by
   simp only[cF,cM];rw[uA];rfl
def OO(aU:Bool)(af:aA)(sh0:Sh)(e:bg)(st:St)(K:List AV→Sh→aG→Option α):Option α:=
 match e with
 | .exit _=>none
 |_=>match ek st af.results with
   |some vs=>
     Tz (cq aU af.ks st.sh vs) fun rs=>
     let sh':=if rs.all (aK sh0.length)=true then (eV aU af.ks st.sh vs).take sh0.length else eV aU af.ks st.sh vs
     if rs.all bJ=true then
       match cS st.aa rs sh' with
       |(rs,sh,_,ts)=>Tz rs fun rs=>SE sh fun sh=>fT ts fun ts=>K rs sh ts
     else none
   |none=>none
def Ja(K:List AV→Sh→aG→Option α):Option (List AV×Sh×aG)→Option α
 |some (a,b,c)=>K a b c
 |none=>none
theorem OP{aU:Bool}{af:aA}{sh0:Sh}{e:bg}{st:St}{K:List AV→Sh→aG→Option α}:OO aU af sh0 e st K=Ja K (finish aU af sh0 (some (e,st))):=by
 cases e with
 |exit id=>rfl
 |normal=>
   simp only[OO,finish];cases ek st af.results with
   |none=>rfl
   |some vs=>
     simp only[uz,or_true,if_true];split
     ·simp only[uz,qy,wF,Ja]
     ·rfl
 |ret=>
   simp only[OO,finish];cases ek st af.results with
   |none=>rfl
   |some vs=>
     simp only[uz,true_or,if_true];split
     ·simp only[uz,qy,wF,Ja]
     ·rfl
def wH(orc:d9)(k:Nat)(aU:Bool)(af:aA)(args:List AV)(sh:Sh)(ts:aG)(K:List AV→Sh→aG→Option α):Option α:=
 Ru { env:=bZ 0 args,mem:=[],sh,aa:=ts } fun st=>cF orc k af.body st fun e st=>OO aU af sh e st K
theorem pB{orc:d9}{k:Nat}{aU:Bool}{af:aA}{args:List AV}{sh:Sh}{ts:aG}{K:List AV→Sh→aG→Option α}:wH orc k aU af args sh ts K=Ja K (b_ orc k aU af args sh ts):=by
 unfold wH;rw[uA,uB,gr];cases cM orc k af.body { env:=bZ 0 args,mem:=[],sh,aa:=ts } with
 |none=>rfl
 |some q=>obtain⟨e,s⟩:=q;simp only[P6];exact OP
def EN(AP:Nat→Option aA)(k:Nat):Nat→d9
 |0=>{ p:=fun _ _=>none,i:=fun _ _ _ _=>none }
 |n+1=>
   { p:=fun g cW=>match AP g with
       |some af=>match af.qc with
         |some f=>f.f (EN AP k n).p cW
         |none=>if cW.length=af.nparams∧cW.length≤af.ntmps then wH (EN AP k n) k false af (cW.map .pv) [] [] fun rs _ _=>fW rs else none
       |none=>none
     i:=fun g args sh ts=>match AP g with
       |some af=>if args.length≤af.ntmps then wH (EN AP k n) k true af args sh ts fun a b c=>some (a,b,c) else none
       |none=>none }
theorem FT{AP:Nat→Option aA}{k:Nat}:∀n,EN AP k n=run AP k n
 |0=>rfl
 |n+1=>by
   have ih:=FT (AP:=AP) (k:=k) n;simp only[EN,run];congr 1
   · funext g cW
     cases AP g with
     |none=>rfl
     |some af=>
       dsimp only;cases af.qc with
       |some f=>dsimp only;rw[ih]
       |none=>
         dsimp only;split
         · rw[pB,ih];cases b_ (run AP k n) k false af (cW.map .pv) [] [] with
           |none=>rfl
           |some q=>rfl
         ·rfl
   · funext g args sh ts
     cases AP g with
     |none=>rfl
     |some af=>
       dsimp only;split
       · rw[pB,ih];cases b_ (run AP k n) k true af args sh ts with
         |none=>rfl
         |some q=>rfl
       ·rfl
theorem OQ{AP:Nat→Option aA}{k n g:Nat}{x rs:List PV}(h:(EN AP k n).p g x=some rs):(aC AP).p g x=some rs:=by
 rw[FT]at h;exact tY (sE g x) (show (run AP (max k n) (max k n)).p g x=some rs from (cH (Nat.le_max_right k n) (Nat.le_max_left k n)).p _ _ _ h)
def vQ(AP:Nat→Option aA)(ov:Nat→List PV→Option (List PV))(k:Nat):Nat→d9
 |0=>{ p:=ov,i:=fun _ _ _ _=>none }
 |n+1=>
   { p:=fun g cW=>match ov g cW with
       |some r=>some r
       |none=>match AP g with
         |some af=>match af.qc with
           |some f=>f.f (vQ AP ov k n).p cW
           |none=>if cW.length=af.nparams∧cW.length≤af.ntmps then wH (vQ AP ov k n) k false af (cW.map .pv) [] [] fun rs _ _=>fW rs else none
         |none=>none
     i:=fun g args sh ts=>match AP g with
       |some af=>if args.length≤af.ntmps then wH (vQ AP ov k n) k true af args sh ts fun a b c=>some (a,b,c) else none
       |none=>none }
theorem Bu{AP:Nat→Option aA}{orc:d9}{k:Nat}{aU:Bool}{af:aA}{args:List AV}{sh:Sh}{ts:aG}{r:List AV×Sh×aG}(hle:orc.le (aC AP))(h:b_ orc k aU af args sh ts=some r):nH AP aU af args sh ts=some r:=by
 rw[gr]at h;unfold nH;cases hc:cM orc k af.body { env:=bZ 0 args,mem:=[],sh,aa:=ts } with
 |none=>rw[hc]at h;simp[finish]at h
 |some q=>
   rw[jC (cp hle (Nat.le_refl k) hc)];rw[hc]at h;exact h
theorem FU{AP:Nat→Option aA}{ov:Nat→List PV→Option (List PV)}{k:Nat}(hov:∀g x r,ov g x=some r→(aC AP).p g x=some r):∀n,(vQ AP ov k n).le (aC AP)
 |0=>⟨hov,fun g x s t r h=>by simp[vQ]at h⟩
 |n+1=>by
   have ih:=FU (k:=k) hov n;refine⟨fun g x r h=>?_,fun g x s t r h=>?_⟩
   · simp only[vQ]at h;split at h
     ·rename_i r' e;rw[←h];exact hov g x r' e
     · split at h
       · rename_i af hg;cases hp:af.qc with
         |some f=>rw[hp]at h;rw[xX hg hp];exact f.mono ih.p h
         |none=>
           rw[hp]at h;simp only[Option.ite_none_right_eq_some]at h;obtain⟨⟨h1,h2⟩,h⟩:=h;rw[pB]at h;rw[P0 hg hp h1 h2];cases hb:b_ (vQ AP ov k n) k false af (x.map .pv) [] [] with
           |none=>rw[hb]at h;simp[Ja]at h
           |some q=>rw[Bu ih hb];rw[hb]at h;exact h
       ·cases h
   · simp only[vQ]at h;split at h
     · rename_i af hg;simp only[Option.ite_none_right_eq_some]at h;obtain⟨h2,h⟩:=h;rw[pB]at h;rw[P1 hg h2];cases hb:b_ (vQ AP ov k n) k true af x s t with
       |none=>rw[hb]at h;simp[Ja]at h
       |some q=>rw[Bu ih hb];rw[hb]at h;exact h
     ·cases h
theorem P7{AP:Nat→Option aA}{ov:Nat→List PV→Option (List PV)}{k n g:Nat}{x rs:List PV}(hov:∀g x r,ov g x=some r→(aC AP).p g x=some r)(h:(vQ AP ov k n).p g x=some rs):(aC AP).p g x=some rs:=(FU hov n).p _ _ _ h
end Go.Ab.Fc
namespace Go.Ab
section
variable {P:Program} {ns:Names} {w w':World}
theorem Cl.below{K:bl}(h:Cl K w)(hb:RowKit.Below w.heap.size w w'):Cl K w':=by
 intro b o v hk;have h1:=h b o v hk
 have hlt:b<w.heap.size:=by
   simp only[World.cell?]at h1;cases hc:w.heap[b]? with
   |none=>rw[hc]at h1;simp at h1
   |some c=>exact (Array.getElem?_eq_some_iff.1 hc).1
 have h2:=hb.block b hlt;simp only[World.cell?,h2]at h1⊢;exact h1
def jE:List PV→Option (List (List UInt8))
 |[]=>some []
 | .str s::r=>(jE r).map (s::·)
 |_=>none
theorem EO(l:List (List UInt8)):jE (l.map .str)=some l:=by
 induction l with
 |nil=>rfl
 |cons a r ih=>simp[jE,ih]
theorem uD:∀{els:List PV} {xs:List (List UInt8)},jE els=some xs→els=xs.map .str
 |[],xs,h=>by simp[jE]at h;subst h;rfl
 | .str s::r,xs,h=>by
   simp only[jE,Option.map_eq_some_iff]at h;obtain⟨ys,h1,rfl⟩:=h;rw[uD h1];rfl
 | .bool _::r,_,h=>by simp[jE]at h
 | .int _ _::r,_,h=>by simp[jE]at h
 | .au _::r,_,h=>by simp[jE]at h
 | .agg _::r,_,h=>by simp[jE]at h
def yD:List PV→Option (List PV)
 |[.au els,.str sep]=>match jE els with
   |some xs=>if xs.length≤1000000000∧(Lib.join xs sep).length≤140737488355328 then some [.str (Lib.join xs sep)] else none
   |none=>none
 |_=>none
def Wr:List PV→Option (List PV)
 |[.int .i64 n]=>if 0≤n∧n<100 then some [.str (Lib.decDigits n.toNat)] else none
 |_=>none
def sK:List PV→Option (List PV)
 |[.int .i64 n]=>if -9223372036854775808≤n∧n≤9223372036854775807 then some [.str (Lib.itoa n)] else none
 |_=>none
def yE:Array Value:=(Lib.pow10Tab.map fun z=>Value.int .u64 z).toArray
theorem EP {f:FuncId} {g:Nat} (hpin:ns.kz g=some yE) (hg:P.globalNamed "internal/strconv.uint64pow10"=some g)
   (h:∀n:Int,-9223372036854775808≤n→n≤9223372036854775807→∀w:World,Lib.TabIs P w "internal/strconv.uint64pow10" .u64 Lib.pow10Tab →
     Calls P f #[.int .i64 n] w fun e w'=>e=.returned (.string ⟨(Lib.itoa n).toArray⟩)∧∃k os,w'=Go.Sort.grow (w.drewN k) os) :
   ∀cW rs,sK cW=some rs→v5 P ns f cW rs:=by
 intro cW rs hp K w vs hw hk hr;unfold sK at hp;split at hp
 · rename_i n;simp only[Option.ite_none_right_eq_some,Option.some.injEq]at hp;obtain⟨⟨h0,h1⟩,rfl⟩:=hp;simp only[jo]at hr;obtain⟨v,r,rfl,hv,rfl⟩:=hr;have hv:v=.int .i64 n:=by simpa[Rel,R] using hv
   subst hv
   have htab:Lib.TabIs P w "internal/strconv.uint64pow10" .u64 Lib.pow10Tab:=by
     obtain⟨t,z,hh⟩:=hw g _ hpin;unfold Lib.TabIs World.var?
     rw[hg,Option.bind_some,hh];rfl
   refine (h n h0 h1 w htab).mono ?_
   rintro e w' ⟨rfl,k,os,rfl⟩
   have hb:RowKit.Below w.heap.size w (Go.Sort.grow (w.drewN k) os):=⟨rfl,rfl,rfl,by simp[Go.Sort.grow],fun b hb=>by
     simp only[Go.Sort.grow,World.heap_drewN];rw[Array.getElem?_append_left hb]⟩
   exact⟨_,K,rfl,by simp[ik,Rel,R],K.le_refl,fun _ _ _ _ h=>h,hk.below hb,hb⟩
 ·simp at hp
theorem FV{K:bl}:∀{xs:List (List UInt8)} {b o sz:Nat},Row K b o sz (xs.map .str)→xs≠[]→∀(j:Nat) (x:List UInt8),xs[j]?=some x→K b (o+j)=some (.string ⟨x.toArray⟩)
 |[],_,_,_,_,h,_,_,_=>absurd rfl h
 |y::r,b,o,sz,hr,_,j,x,hj=>by
   simp only[List.map_cons,Row,R]at hr;obtain⟨⟨vs,h1,h2,rfl⟩,h4⟩:=hr;simp only[List.length_cons,List.length_nil]at h1;subst h1;cases j with
   |zero=>
     simp at hj;subst hj;exact h2 0 _ rfl
   |succ j=>
     have hj':r[j]?=some x:=(by simpa using hj);have:=FV h4 (by intro e;subst e;simp at hj') j x hj'
     rwa [show o+(0+1)+j=o+(j+1) by omega]at this
theorem Jb{f:FuncId}
   (h0:∀(a:Option Addr) (c:Nat) (sep:ByteArray) (w:World),Calls P f #[.slice a 0 c,.string sep] w fun e w'=>e=.returned (.string ⟨#[]⟩)∧w'=w)
   (h:∀(bk o c:Nat) (xs:List ByteArray) (sep:ByteArray) (w:World),(∀(j:Nat) x,xs[j]?=some x→w.cell? ⟨bk,o+j,none⟩=some (.string x))→bk<w.heap.size→xs.length≤140737488355328→xs.length≤c →
     (Lib.join (xs.map (·.data.toList)) sep.data.toList).length≤140737488355328 →
     Calls P f #[.slice (some ⟨bk,o,none⟩) xs.length c,.string sep] w fun e w'=>e=.returned (.string ⟨(Lib.join (xs.map (·.data.toList)) sep.data.toList).toArray⟩)∧RowKit.Below w.heap.size w w') :
   ∀cW rs,yD cW=some rs→v5 P ns f cW rs:=by
 intro cW rs hp K w vs _ hk hr;unfold yD at hp;split at hp
 · rename_i els sep;split at hp
   · rename_i xs hxs;simp only[Option.ite_none_right_eq_some,Option.some.injEq]at hp;obtain⟨⟨hn,hl⟩,rfl⟩:=hp;have:=uD hxs;subst this;simp only[jo]at hr;obtain⟨v,r,rfl,hv,u,r',rfl,hu,rfl⟩:=hr;have hu:u=.string ⟨sep.toArray⟩:=by simpa[Rel,R] using hu
     subst hu;obtain⟨base,len,cap,rfl,hlc,hlen,hrow⟩:=cd.1 hv;by_cases hnil:xs=[]
     · subst hnil;simp at hlen;subst hlen;refine (h0 base cap _ w).mono ?_
       rintro e w' ⟨rfl,rfl⟩
       exact⟨_,K,rfl,by simp[ik,Rel,R,Lib.join_nil],K.le_refl,fun _ _ _ _ h=>h,hk,RowKit.Below.refl _ _⟩
     · obtain⟨b,o,sz,rfl,hrow'⟩:=hrow.resolve_left (by simpa using hnil);have hx:=FV hrow' hnil;have hxl:(xs.map fun x=>(⟨x.toArray⟩:ByteArray)).length=len:=by simpa using hlen
       have hdat:(xs.map fun x=>(⟨x.toArray⟩:ByteArray)).map (fun x=>x.data.toList)=xs:=by
         rw[List.map_map];have:((fun x:ByteArray=>x.data.toList) ∘ fun x:List UInt8=>(⟨x.toArray⟩:ByteArray))=id:=by funext x;rfl
         rw[this,List.map_id]
       have hb:b<w.heap.size:=by
         cases xs with
         |nil=>exact absurd rfl hnil
         |cons x r=>
           have h1:=hk _ _ _ (hx 0 x rfl);simp only[World.cell?]at h1;cases hc:w.heap[b]? with
           |none=>rw[hc]at h1;simp at h1
           |some c=>exact (Array.getElem?_eq_some_iff.1 hc).1
       have hc:=h b o cap (xs.map fun x=>(⟨x.toArray⟩:ByteArray)) ⟨sep.toArray⟩ w (by
         intro j x hj;simp only[List.getElem?_map,Option.map_eq_some_iff]at hj;obtain⟨y,hy,rfl⟩:=hj;exact hk _ _ _ (hx j y hy)) hb (by simp;omega) (by rw[hxl];exact hlc) (by rw[hdat];exact hl)
       rw[hxl,hdat]at hc;refine hc.mono ?_
       rintro e w' ⟨rfl,hbw⟩
       exact⟨_,K,rfl,by simp[ik,Rel,R],K.le_refl,fun _ _ _ _ h=>h,hk.below hbw,hbw⟩
   ·simp at hp
 ·simp at hp
end
end Go.Ab
namespace Go.Ab
section
variable {P:Program} {w:World}
def LN(g:Nat):Nat→Option (Array Value):=fun b=>if b=g then some yE else none
theorem Jc(g:Nat):LN g g=some yE:=if_pos rfl
theorem ER {g:Nat} (hg:P.globalNamed "internal/strconv.uint64pow10"=some g) (h:Lib.TabIs P w "internal/strconv.uint64pow10" .u64 Lib.pow10Tab):nW (LN g) w:=by
 intro b c e;unfold LN at e;simp only[Option.ite_none_right_eq_some,Option.some.injEq]at e;obtain⟨rfl,rfl⟩:=e;unfold Lib.TabIs World.var? at h;rw[hg,Option.bind_some]at h;split at h
 ·rename_i cs t z hh;cases h;exact⟨t,z,hh⟩
 ·cases h
theorem wI{x:String×DataW Unit}{r:List (String×DataW Unit)}(h:laidMet P (x::r) w):laidMet P r w:=by
 obtain⟨ps,hv,hnd,hrows⟩:=h;obtain⟨n,d⟩:=x;obtain⟨g,t,cs,fuel,p,q,_,_,_,_,hq,rfl⟩:=hv;exact⟨q,hq,List.Nodup.sublist (List.sublist_append_right _ _) hnd,fun b off hm=>hrows b off (List.mem_append_right _ hm)⟩
theorem LO {g t e:Nat} {x y:String×DataW Unit} {d:DataW Unit} (hg:P.globalNamed "internal/strconv.uint64pow10"=some g) (hty:(P.globals[g]?).map (·.type)=some t) (ht:P.underlying t=some (.array 20 e))
   (he:P.underlying e=some (.int .u64)) (hce:P.cellsOf e=1) (hct:P.cellsOf t=20) (hd:d=Lib.tabData .u64 Lib.pow10Tab) (h:laidMet P [x,y,("internal/strconv.uint64pow10",d)] w):nW (LN g) w:=by
 subst hd;exact ER hg (Lib.tabIs_of_head hg hty ht he hce hct (wI (wI h)))
end
end Go.Ab
namespace Go.Ab
open Ev
def kD(o:Nat→List PV→Option (List PV))(g:Nat):List PV→Option (List UInt8)
 |[]=>some []
 |d::r=>match o g [d] with
   |some [.str s]=>(kD o g r).map (s++·)
   |_=>none
def eY(n:Nat):PV→Bool
 | .agg cs=>cs.length == n && cs.all de
 |_=>false
def wJ(gd gb:Nat)(o:Nat→List PV→Option (List PV)):List PV→Option (List PV)
 |[.agg [.au ds,.au bs]]=>
   if ds.all (eY 4)=true∧bs.all (eY 20)=true∧ds.length<4611686018427387904∧bs.length<4611686018427387904 then
     match kD o gd ds,kD o gb bs with
     |some a,some b=>if (a++b).length≤140737488355328 then some [.str (a++b)] else none
     |_,_=>none
   else none
 |_=>none
theorem uE{o:Nat→List PV→Option (List PV)}{g:Nat}:∀{l:List PV} {s:List UInt8},kD o g l=some s →
   ∃c:List (Nat×List PV×List PV),(∀x∈c,o x.1 x.2.1=some x.2.2)∧∀o',(∀x∈c,o' x.1 x.2.1=some x.2.2)→kD o' g l=some s
 |[],s,h=>⟨[],by simp,fun _ _=>h⟩
 |d::r,s,h=>by
   simp only[kD]at h;split at h
   · rename_i t ht;simp only[Option.map_eq_some_iff]at h;obtain⟨u,hu,rfl⟩:=h;obtain⟨c,h1,h2⟩:=uE hu;refine⟨(g,[d],[.str t])::c,?_,fun o' ho=>?_⟩
     · intro x hx;simp only[List.mem_cons]at hx;rcases hx with rfl|hx
       ·exact ht
       ·exact h1 x hx
     ·have e1:=ho _ (List.mem_cons_self);simp only[kD,e1,h2 o' (fun x hx=>ho x (List.mem_cons_of_mem _ hx)),Option.map_some]
   ·cases h
def LP(gd gb:Nat):Prim:=⟨wJ gd gb,by
 intro o x r h;unfold wJ at h;split at h
 · rename_i ds bs;rw[Option.ite_none_right_eq_some]at h;obtain⟨hc,h⟩:=h;split at h
   · rename_i a b ha hb;obtain⟨c1,f1,f2⟩:=uE ha;obtain⟨c2,k1,k2⟩:=uE hb;refine⟨c1++c2,?_,fun o' ho=>?_⟩
     · intro x hx;rcases List.mem_append.1 hx with hx|hx
       ·exact f1 x hx
       ·exact k1 x hx
     ·unfold wJ;simp only;rw[if_pos hc,f2 o' (fun x hx=>ho x (List.mem_append_left _ hx)),k2 o' (fun x hx=>ho x (List.mem_append_right _ hx))];exact h
   ·cases h
 ·cases h⟩
theorem qz{sh:Sh}:∀{cs:List PV},cs.all de=true→ca sh (cs.map .pv)=some cs
 |[],_=>rfl
 |c::cs,h=>by
   simp only[List.all_cons,Bool.and_eq_true]at h;simp only[List.map_cons,ca];have hl:aT (.pv c)=true:=by cases c<;>first|rfl|simp[de]at h
   rw[if_pos hl,qz h.2];rfl
theorem wK{cs:List PV}(h:cs.all de=true):(cs.map AV.pv).all aT=true:=by
 rw[List.all_eq_true]at *;intro x hx;rw[List.mem_map]at hx;obtain⟨c,hc,rfl⟩:=hx;have:=h c hc;cases c<;>first|rfl|simp[de]at this
theorem nJ{zs vs:List AV}(h:vs.length=zs.length):aQ zs 0 vs=vs:=by
 simp[aQ,h]
section
variable {T E:TypeId} {B b:Nat} {w w':World}
theorem pC{p:Value}{bs:List Value}(h:Lib.BuilderAt T E B b p bs w)(hw:∀k,k<w.heap.size→w'.heap[k]?=w.heap[k]?):Lib.BuilderAt T E B b p bs w':=by
 have hlt:=h.lt;obtain⟨h1,v,h2,h3,h4⟩:=h;refine⟨h1,v,by rw[hw b hlt];exact h2,⟨h3.1,?_⟩,h4⟩;rcases h3.2 with h5|⟨g,cap,cur,e1,e2,e3,e4⟩
 ·exact .inl h5
 ·have hg:g<w.heap.size:=(Array.getElem?_eq_some_iff.1 e3).1;exact .inr ⟨g,cap,cur,e1,e2,by rw[hw g hg];exact e3,e4⟩
theorem yF{bs:List Value}(h:Lib.IsBuilder T E B b bs w)(hw:∀k,k<w.heap.size→w'.heap[k]?=w.heap[k]?):Lib.IsBuilder T E B b bs w':=
 h.imp (fun h=>pC h hw) (fun h=>pC h hw)
end
structure Wd(T E:TypeId)(B b:Nat)(acc:List UInt8)(w1 w:World):Prop where
 below:RowKit.Below B w1 w
 le:B≤w.heap.size
 VS:Lib.IsBuilder T E B b (Lib.byteCells acc) w
def JT(K:bl):Gh:={ K,role:=fun _=>.ez,pm:=fun _=>none,sm:=fun _=>none,tk:=fun _=>none }
section
variable {P:Program} {ns:Names}
theorem TQ{K:bl}{w:World}(hpin:nW ns.kz w)(hK:Cl K w):Inv (num ns) (JT K) w [] [] [] where
 known:=hK
 aZ:=fun _ _ _ _=>.inl rfl
 fresh:=fun _ _=>rfl
 cT:=fun d c h=>by simp[look]at h
 gM:=fun d b h=>by simp[JT]at h
 dq:=fun s c h=>by simp at h
 eF:=fun s b h=>by simp[JT]at h
 dh:=fun τ n h=>by simp at h
 e_:=fun τ t h=>by simp[JT]at h
 kz:=fun b c hb=>⟨rfl,hpin b c hb⟩
theorem OR{K:bl}{w w':World}{G':Gh}(h:bK (JT K) w G' w'):∀k,k<w.heap.size→w'.heap[k]?=w.heap[k]?:=fun k hk=>(h.ez k hk rfl).2
theorem Jd{K:bl}{w w':World}{G':Gh}(h:bK (JT K) w G' w'){B:Nat}(hB:B≤w.heap.size):RowKit.Below B w w':=
 ⟨h.os,h.tape,h.output,h.size,fun k hk=>(h.ez k (Nat.lt_of_lt_of_le hk hB) rfl).2⟩
theorem Wd.q_{T E:TypeId}{B b:Nat}{acc:List UInt8}{w1 w w':World}{K:bl}{G':Gh}(h:Wd T E B b acc w1 w)(he:bK (JT K) w G' w'):Wd T E B b acc w1 w':=
 ⟨h.below.trans (Jd he h.le),Nat.le_trans h.le he.size,yF h.VS (OR he)⟩
theorem iq{n:Nat}{ops:Array Oper}{Q:Exit→Act→World→Prop}{rest:List Oper}{o:Oper}{a:Act}{w w':World}{v:Value}(hd:∀c,o.op≠.defer c)(hg:o.guard=none)
   (hr:(execOp a.eval o).run P w=.ok (.value v) w') (h:wpListIn Fence.wide n P ops Q rest (a.put o.dst v) w'):wpListIn Fence.wide n P ops Q (o::rest) a w:=by
 unfold wpListIn;have hw:Region.wanted o (yielded ops a.tmps)=true:=by simp[Region.wanted,hg]
 rw[if_pos hw];refine sD (ro:=none) hd ?_;unfold Oper.wp;rw[hr];exact h
theorem LQ{o:Oper}{E:Operand→Value}{T:TypeId}(h:o.op=.alloc T):execOp E o=(do let v ←Instr.alloc T true (.tuple #[]);pure (Next.value v):Sem Next):=by
 obtain⟨dst,op,type,pos,after,guard⟩:=o;simp only at h;subst h;rfl
theorem RA{o:Oper}{E:Operand→Value}{T:TypeId}{x:Operand}(h:o.op=.box T x):execOp E o=(do let v ←Instr.box T (E x);pure (Next.value v):Sem Next):=by
 obtain⟨dst,op,type,pos,after,guard⟩:=o;simp only at h;subst h;rfl
theorem Bv{o:Oper}{E:Operand→Value}{T:TypeId}{x:Operand}{i:Nat}(h:o.op=.fieldAddr T x i):execOp E o=(do let v ←Instr.fieldAt T (E x) i;pure (Next.value v):Sem Next):=by
 obtain⟨dst,op,type,pos,after,guard⟩:=o;simp only at h;subst h;rfl
theorem FW{o:Oper}{E:Operand→Value}{T:TypeId}{x:Operand}(h:o.op=.load T x):execOp E o=(do let v ←Instr.loadAt T (E x);pure (Next.value v):Sem Next):=by
 obtain⟨dst,op,type,pos,after,guard⟩:=o;simp only at h;subst h;rfl
theorem eQ{n0:Nat}{ro:Option Nat}{n:Nat}(hB:eU P ns){orc:d9}(horc:gD P ns orc){A:ko}{N:Nat}{ops:Array Oper}{Q:Exit→Act→World→Prop}{l:List Oper}{as:List dN}{st st':St}{G:Gh}{a:Act}{w:World}
   (hc:cf (cK P ns A N ops) l=some as) (hs:gV (num ns) n0 N G st a w) (hev:bp orc as st=some st')
   (hq:∀G' a' w',gV (num ns) n0 N G' st' a' w'→bK G w G' w'→a'.defers=a.defers→(∀t,(∀ao∈as,ao.dst≠some t)→a'.tmps[t]?=a.tmps[t]?)→Q .normal a' w'):wpListIn (vz ro) n P ops Q l a w:=by
 have:=il (ro:=ro) (n:=n) (rest:=[]) (Q:=Q) hB horc hc hs hev (fun G' a' w' h1 h2 h3 h4=>by unfold wpListIn;exact hq G' a' w' h1 h2 h3 h4)
 rwa [List.append_nil]at this
theorem qA{n:Nat}{ops:Array Oper}{Q:Exit→Act→World→Prop}{rest:List Oper}{o:Oper}{f:FuncId}{args:Array Operand}{types:Array TypeId}{a:Act}{w:World}(hop:o.op=.call { callee:=.value (.func f),args,argTypes:=types })(hg:o.guard=none)
   (hb:∃fn b,P.funcs[f]?=some fn∧fn.body=some b∧fn.name ≠ "runtime.NumGoroutine")
   (h:Calls P f (args.map a.eval) w fun e w'=>∃v,e=.returned v∧wpListIn Fence.wide n P ops Q rest (a.put o.dst v) w'):wpListIn Fence.wide n P ops Q (o::rest) a w:=by
 unfold wpListIn;have hw:Region.wanted o (yielded ops a.tmps)=true:=by simp[Region.wanted,hg]
 rw[if_pos hw];refine sD (ro:=none) (by intro c e;rw[hop]at e;cases e) ?_;obtain⟨fn,b,h1,h2,h3⟩:=hb
 have hr:(execOp a.eval o).run P w=.ok (.enter f (args.map a.eval)) w:=by
   obtain⟨dst,op,type,pos,after,guard⟩:=o;simp only at hop;subst hop;simp[execOp,resolve,Act.eval,Deferred.ofValue,invoke,callFunc,h1,h2,h3]
 unfold Oper.wp;rw[hr];refine Calls.mono h ?_
 rintro e w' ⟨v,rfl,h⟩
 exact h
structure pD(P:Program)(ns:Names)(f gd gb:Nat) where
 fn:Func
 A:ko
 T:TypeId
 E:TypeId
 Tp:TypeId
 fw:Nat
 fs:Nat
 t1:Array TypeId
 t2:Array TypeId
 t3:Array TypeId
 tf:TypeId
 f0:Nat
 f1:Nat
 VT:Field
 VU:Field
 s0:Nat
 s1:Nat
 td:TypeId
 tb:TypeId
 bx:Oper
 rs:Oper
 al:Oper
 fa:Oper
 ld:Oper
 r2:List Oper
 o3:Array Oper
 o4:Array Oper
 l5:List Oper
 w5:Oper
 o6:Array Oper
 OS:Oper
 OT:Oper
 r7:List Oper
 o8:Array Oper
 o9:Array Oper
 l10:List Oper
 LR:Oper
 RB:Array Oper
 st:Oper
 fi:Oper
 i0:Nat
 i1:Nat
 i2:Nat
 i3:Nat
 i4:Nat
 i5:Nat
 i6:Nat
 i7:Nat
 i8:Nat
 i9:Nat
 Cm:Nat
 TS:Nat
 VV:Nat
 b0:Nat
 b1:Nat
 b2:Nat
 b3:Nat
 hf:P.funcs[f]?=some fn
 ui:fn.body=some (.seq (.region i0 #[bx,rs] false) (.seq (.region i1 #[al] false) (.seq (.seq (.region i2 (fa::ld::r2).toArray false) (.block b0 (.loop (.seq (.region i3 o3 false) (.seq (.cond (.tmp 12) .skip (.exit b0)) (.seq (.block b1 (.seq (.region i4 o4 false) (.region i5 (l5++[w5]).toArray false))) (.region i6 o6 false)))))))
   (.seq (.seq (.region i7 (OS::OT::r7).toArray false) (.block b2 (.loop (.seq (.region i8 o8 false) (.seq (.cond (.tmp 23) .skip (.exit b2)) (.seq (.block b3 (.seq (.region i9 o9 false) (.region Cm (l10++[LR]).toArray false))) (.region TS RB false))))))) (.seq (.region VV #[st,fi] false) .ret)))))
 ie:fn.results=#[.tmp 2]
 hN:fn.ntmps=31
 TT:bx.op=.box Tp (.tmp 0)∧bx.dst=some 1∧bx.guard=none
 Rs:rs.op=.assign (.const (.string ⟨#[]⟩))∧rs.dst=some 2∧rs.guard=none
 OU:al.op=.alloc T∧al.dst=some 3∧al.guard=none
 hz:(P.info? T).bind (·.zero)=some (.agg #[.pointer none,.slice none 0 0])
 SI:fa.op=.fieldAddr tf (.tmp 1) f0∧fa.dst=some 8∧fa.guard=none
 WX:gh P tf f0=some VT∧VT.offset=0∧cE P VT.type=some s0∧s0≠0
 SJ:ld.op=.load td (.tmp 8)∧ld.dst=some 9∧ld.guard=none
 Ws:cE P td=some 1∧hZ P td=some false
 c2:cf (cK P ns A 31 (fa::ld::r2).toArray) r2=some [⟨some 10,none,[.t 9],.v .len⟩,⟨some 11,none,[.c (.pv (.int .i64 0))],.v .mv⟩]
 Je:OS.op=.fieldAddr tf (.tmp 1) f1∧OS.dst=some 19∧OS.guard=none
 TV:gh P tf f1=some VU∧VU.offset=1∧cE P VU.type=some s1∧s1≠0
 Jf:OT.op=.load tb (.tmp 19)∧OT.dst=some 20∧OT.guard=none
 SD:cE P tb=some 1∧hZ P tb=some false
 c7:cf (cK P ns A 31 (OS::OT::r7).toArray) r7=some [⟨some 21,none,[.t 20],.v .len⟩,⟨some 22,none,[.c (.pv (.int .i64 0))],.v .mv⟩]
 c3:cf (cK P ns A 31 o3) o3.toList=some [⟨some 12,none,[.t 11,.t 10],.v (.bin .lss)⟩]
 c4:cf (cK P ns A 31 o4) o4.toList=some [⟨some 13,none,[.t 9,.t 11],.v (.eg 4)⟩,⟨some 14,none,[.t 13],.v (.fH 4 true)⟩,⟨some 5,none,[],.alloc 5 [.int .i64 0,.str [],.au [],.au []]⟩,⟨none,none,[.t 5,.t 14],.bC 5 0 4⟩]
 c5:cf (cK P ns A 31 (l5++[w5]).toArray) l5=some [⟨some 15,none,[.t 5],.bY 5 0 4 true⟩,⟨some 16,none,[.t 15],.aJ gd⟩]
 c6:cf (cK P ns A 31 o6) o6.toList=some [⟨some 18,none,[.t 11,.c (.pv (.int .i64 1))],.v (.bin .add)⟩,⟨some 11,none,[.t 18],.v .mv⟩]
 VW:w5.op=.call { callee:=.value (.func fw),args:=#[.tmp 3,.tmp 16],argTypes:=t1 }∧w5.dst=some 17∧w5.guard=none
 c8:cf (cK P ns A 31 o8) o8.toList=some [⟨some 23,none,[.t 22,.t 21],.v (.bin .lss)⟩]
 c9:cf (cK P ns A 31 o9) o9.toList=some [⟨some 24,none,[.t 20,.t 22],.v (.eg 20)⟩,⟨some 25,none,[.t 24],.v (.fH 20 true)⟩,⟨some 7,none,[],.alloc 7 [.int .i64 0,.bool false,.str [],.bool false,.int .i64 0,.str [],.int .i64 0,.int .i64 0,.au [],.int .i64 0,.int .i64 0,.str [],.int .i64 0,.au [],.au [],.int .i64 0,.str [],.int .i64 0,.int .i64 0,.au []]⟩,⟨none,none,[.t 7,.t 25],.bC 7 0 20⟩]
 c10:cf (cK P ns A 31 (l10++[LR]).toArray) l10=some [⟨some 26,none,[.t 7],.bY 7 0 20 true⟩,⟨some 27,none,[.t 26],.aJ gb⟩]
 c11:cf (cK P ns A 31 RB) RB.toList=some [⟨some 29,none,[.t 22,.c (.pv (.int .i64 1))],.v (.bin .add)⟩,⟨some 22,none,[.t 29],.v .mv⟩]
 OV:LR.op=.call { callee:=.value (.func fw),args:=#[.tmp 3,.tmp 27],argTypes:=t2 }∧LR.dst=some 28∧LR.guard=none
 vY:st.op=.call { callee:=.value (.func fs),args:=#[.tmp 3],argTypes:=t3 }∧st.dst=some 30∧st.guard=none
 SB:fi.op=.assign (.tmp 30)∧fi.dst=some 2∧fi.guard=none
 Wt:∃fn b,P.funcs[fw]?=some fn∧fn.body=some b∧fn.name ≠ "runtime.NumGoroutine"
 TW:∃fn b,P.funcs[fs]?=some fn∧fn.body=some b∧fn.name ≠ "runtime.NumGoroutine"
 Xq:∃f,ns.of f=some gd
 Xr:∃f,ns.of f=some gb
 write:∀(B b:Nat) (bs:List Value) (s:ByteArray) (w:World),Lib.IsBuilder T E B b bs w→bs.length+s.size≤140737488355328→B≤w.heap.size →
   Calls P fw #[.pointer (some ⟨b,0,none⟩),.string s] w fun e w'=>e=.returned (.tuple #[.int .i64 s.size,.nilIface])∧(Lib.BuilderAt T E B b (.pointer (some ⟨b,0,none⟩)) (bs++Lib.strCells s) w'∧RowKit.Below B w w')
 read:∀(B b:Nat) (l:List UInt8) (w:World),Lib.IsBuilder T E B b (Lib.byteCells l) w→B≤w.heap.size →
   Calls P fs #[.pointer (some ⟨b,0,none⟩)] w fun e w'=>e=.returned (.string ⟨l.toArray⟩)∧RowKit.Below B w w'
theorem wL{o:Nat→List PV→Option (List PV)}{g:Nat}{l:List PV}{i:Nat}{el:PV}{s:List UInt8}(hi:l[i]?=some el)(h:kD o g (l.drop i)=some s) :
   ∃t u,o g [el]=some [.str t]∧kD o g (l.drop (i+1))=some u∧s=t++u:=by
 have hlt:=(List.getElem?_eq_some_iff.1 hi).1
 have e:l.drop i=el::l.drop (i+1):=by
   rw[List.drop_eq_getElem_cons hlt];congr 1;exact (List.getElem?_eq_some_iff.1 hi).2
 rw[e]at h;simp only[kD]at h;split at h
 ·rename_i t ht;simp only[Option.map_eq_some_iff]at h;obtain⟨u,hu,rfl⟩:=h;exact⟨t,u,ht,hu,rfl⟩
 ·cases h
theorem nK{K:bl}{a:Act}{w:World}{env:List (Nat×AV)}(hpin:nW ns.kz w)(hK:Cl K w)(hs:a.tmps.size=31)(hd:a.defers=[])(he:∀t x,look env t=some x→∃v,a.tmps[t]?=some v∧aB (num ns) (JT K) x v) :
   gV (num ns) 0 31 (JT K) { env,mem:=[],sh:=[],aa:=[] } a w:=
 ⟨⟨hs,he⟩,TQ hpin hK,Nat.zero_le _,[],by simpa using hd,by simp,by simp⟩
theorem m_{P:Program}{o:Oper}{op:Op}(h:o.op=op)(hn:∀c,op≠.defer c):∀c,o.op≠.defer c:=fun c=>by rw[h];exact hn c
structure RC(K:bl)(ds:List PV)(b b1 i:Nat)(a:Act):Prop where
 size:a.tmps.size=31
 defers:a.defers=[]
 p1:a.tmps[1]?=some (.pointer (some ⟨b1,0,none⟩))
 p3:a.tmps[3]?=some (.pointer (some ⟨b,0,none⟩))
 l:∃v,a.tmps[9]?=some v∧Rel K (.au ds) v
 n:a.tmps[10]?=some (.int .i64 ds.length)
 i:a.tmps[11]?=some (.int .i64 i)
theorem P8{orc:d9}{i n:Int}:bp orc [⟨some 12,none,[.t 11,.t 10],.v (.bin .lss)⟩] { env:=[(11,.pv (.int .i64 i)),(10,.pv (.int .i64 n))],mem:=[],sh:=[],aa:=[] } =
   some { env:=[(11,.pv (.int .i64 i)),(10,.pv (.int .i64 n)),(12,.pv (.bool (decide (i<n))))],mem:=[],sh:=[],aa:=[] }:=by
 simp
theorem TY{orc:d9}{ds:List PV}{i:Nat}{cs:List PV}(hi:ds[i]?=some (.agg cs))(hl:cs.length=4)(hc:cs.all de=true) :
   bp orc [⟨some 13,none,[.t 9,.t 11],.v (.eg 4)⟩,⟨some 14,none,[.t 13],.v (.fH 4 true)⟩,⟨some 5,none,[],.alloc 5 [.int .i64 0,.str [],.au [],.au []]⟩,⟨none,none,[.t 5,.t 14],.bC 5 0 4⟩] { env:=[(9,.pv (.au ds)),(11,.pv (.int .i64 i))],mem:=[],sh:=[],aa:=[] } =
   some { env:=[(9,.pv (.au ds)),(11,.pv (.int .i64 i)),(13,.gf cs),(14,.pv (.agg cs)),(5,.az 5 0)],mem:=[(5,cs.map .pv)],sh:=[],aa:=[] }:=by
 have hi0:¬((i:Int)<0):=by omega
 have h1:(List.map AV.pv cs).all aT=true:=wK hc;have h2:cs.take 4=cs:=by rw[←hl];exact List.take_length
 have h4:4≤cs.length:=by omega
 have h3:∀zs:List AV,zs.length=4→aQ zs 0 (cs.map .pv)=cs.map .pv:=fun zs hz=>nJ (by simp[hl,hz]);simp[-getElem?_pos,-List.all_map,-List.all_eq_true,-aF,hi,hi0,hl,h2,h3,h1,h4]
theorem TZ{orc:d9}{cs:List PV}{g:Nat}{s:List UInt8}{env:List (Nat×AV)}(he:look env 5=some (.az 5 0))(hl:cs.length=4)(hc:cs.all de=true)(hg:orc.p g [.agg cs]=some [.str s]) :
   ∃env',bp orc [⟨some 15,none,[.t 5],.bY 5 0 4 true⟩,⟨some 16,none,[.t 15],.aJ g⟩] { env,mem:=[(5,cs.map .pv)],sh:=[],aa:=[] }=some { env:=env',mem:=[(5,cs.map .pv)],sh:=[],aa:=[] }∧look env' 16=some (.pv (.str s)):=by
 have h1:ca [] (cs.map .pv)=some cs:=qz hc;have h2:(cs.map AV.pv).take 4=cs.map .pv:=by rw[←hl];simpa using List.take_length (l:=cs.map AV.pv)
 have h4:4≤cs.length:=by omega
 refine⟨cX (cX env 15 (.agg (cs.map .pv))) 16 (.pv (.str s)),?_,by rw[bu]⟩;have h5:look (cX env 15 (.agg (cs.map .pv))) 15=some (.agg (cs.map .pv)):=bu _ _ _;simp[-getElem?_pos,he,h1,h2,h4,h5,hg]
theorem T3{orc:d9}{i:Nat}(h:i<4611686018427387904):bp orc [⟨some 18,none,[.t 11,.c (.pv (.int .i64 1))],.v (.bin .add)⟩,⟨some 11,none,[.t 18],.v .mv⟩] { env:=[(11,.pv (.int .i64 i))],mem:=[],sh:=[],aa:=[] } =
   some { env:=[(11,.pv (.int .i64 ((i:Int)+1))),(18,.pv (.int .i64 ((i:Int)+1)))],mem:=[],sh:=[],aa:=[] }:=by
 simp (disch:=omega) [ah]
theorem LS{orc:d9}(hB:eU P ns)(horc:gD P ns orc){f gd gb:Nat}(D:pD P ns f gd gb){K:bl}{w0 w1:World}{ds:List PV}{b1 b B:Nat}(hpin:nW ns.kz w0)(hK:Cl K w0)(h01:RowKit.Below w0.heap.size w0 w1)(hB1:w0.heap.size≤B)
   (hds:ds.all (eY 4)=true) (hlen:ds.length<4611686018427387904) {Q:Exit→Act→World→Prop} {all:List UInt8} (hall:all.length≤140737488355328) :
   ∀(j i:Nat) (a:Act) (w:World) (acc rest:List UInt8),ds.length-i=j→i≤ds.length→RC K ds b b1 i a→Wd D.T D.E B b acc w1 w→kD orc.p gd (ds.drop i)=some rest→(∃q,all=acc++rest++q) →
     (∀a' w',RC K ds b b1 ds.length a'→Wd D.T D.E B b (acc++rest) w1 w'→Q .normal a' w') →
     Code.roundsIn Fence.wide 0 P (.seq (.region D.i3 D.o3 false) (.seq (.cond (.tmp 12) .skip (.exit D.b0)) (.seq (.block D.b1 (.seq (.region D.i4 D.o4 false) (.region D.i5 (D.l5++[D.w5]).toArray false))) (.region D.i6 D.o6 false)))) (Exit.inBlock D.b0 Q) (j+1) a w:=by
 have ja:∀{acc:List UInt8} {w:World},Wd D.T D.E B b acc w1 w→Cl K w:=fun hW=>hK.below (h01.trans (hW.below.mono hB1));have pinw:∀{acc:List UInt8} {w:World},Wd D.T D.E B b acc w1 w→nW ns.kz w:=fun hW=>hpin.below (h01.trans (hW.below.mono hB1))
 have bW:∀{G:Gh} {i:Int},aB (num ns) G (.pv (.int .i64 i)) (.int .i64 i):=by intros;simp[aB,Rel,R]
 intro j;induction j with
 |zero=>
   intro i a w acc rest hj hi hh hW hr hq hQ;rw[roundsIn_succ];refine wpIn_seq (wpIn_region_list ?_)
   have hs:=nK (ns:=ns) (env:=[(11,.pv (.int .i64 i)),(10,.pv (.int .i64 ds.length))]) (pinw hW) (ja hW) hh.size hh.defers (by
     intro t x hx;simp only[look]at hx;split at hx
     ·rename_i e;subst e;cases hx;exact⟨_,hh.i,bW⟩
     · split at hx
       ·rename_i e;subst e;cases hx;exact⟨_,hh.n,bW⟩
       ·cases hx)
   refine eQ (ro:=none) hB horc D.c3 hs P8 fun G1 a1 W1 hs1 he1 hd1 hk1=>?_
   change (Code.seq (.cond (.tmp 12) .skip (.exit D.b0)) _).wpIn Fence.wide 0 P _ a1 W1
   obtain⟨v8,h8,r8⟩:=hs1.env.env 12 _ rfl;simp[aB,Rel,R]at r8;have hkl:i=ds.length:=by omega
   subst hkl;have hc:a1.eval (.tmp 12)=.bool false:=by simp[Act.eval,h8,r8]
   refine wpIn_seq (wpIn_cond_false hc (wpIn_exit ?_));simp only[Exit.then,Exit.inBlock,if_true];have hrest:rest=[]:=by rw[List.drop_length]at hr;simp[kD]at hr;exact hr
   subst hrest;refine hQ a1 W1 ⟨hs1.env.size,hd1.trans hh.defers,?_,?_,?_,?_,?_⟩ (by rw[List.append_nil];exact hW.q_ he1)
   ·rw[hk1 1 (by simp)];exact hh.p1
   ·rw[hk1 3 (by simp)];exact hh.p3
   ·rw[hk1 9 (by simp)];exact hh.l
   ·rw[hk1 10 (by simp)];exact hh.n
   ·rw[hk1 11 (by simp)];exact hh.i
 |succ j ih=>
   intro i a w acc rest hj hi hh hW hr hq hQ;have hlt:i<ds.length:=by omega
   obtain⟨el,hel⟩:∃el,ds[i]?=some el:=⟨ds[i],List.getElem?_eq_getElem hlt⟩;have hok:=List.all_eq_true.1 hds el (List.mem_of_getElem? hel);cases el with
   |agg cs=>
     simp only[eY,Bool.and_eq_true,beq_iff_eq]at hok;obtain⟨hcl,hcp⟩:=hok;obtain⟨s,u,hs1',hu,rfl⟩:=wL hel hr;rw[roundsIn_succ];refine wpIn_seq (wpIn_region_list ?_)
     have hs:=nK (ns:=ns) (env:=[(11,.pv (.int .i64 i)),(10,.pv (.int .i64 ds.length))]) (pinw hW) (ja hW) hh.size hh.defers (by
       intro t x hx;simp only[look]at hx;split at hx
       ·rename_i e;subst e;cases hx;exact⟨_,hh.i,bW⟩
       · split at hx
         ·rename_i e;subst e;cases hx;exact⟨_,hh.n,bW⟩
         ·cases hx)
     refine eQ (ro:=none) hB horc D.c3 hs P8 fun G1 a1 W1 hs1 he1 hd1 hk1=>?_
     change (Code.seq (.cond (.tmp 12) .skip (.exit D.b0)) _).wpIn Fence.wide 0 P _ a1 W1
     obtain⟨v8,h8,r8⟩:=hs1.env.env 12 _ rfl;simp[aB,Rel,R]at r8;have hc:a1.eval (.tmp 12)=.bool true:=by simp[Act.eval,h8,r8];omega
     have hh1:RC K ds b b1 i a1:=by
       refine⟨hs1.env.size,hd1.trans hh.defers,?_,?_,?_,?_,?_⟩
       ·rw[hk1 1 (by simp)];exact hh.p1
       ·rw[hk1 3 (by simp)];exact hh.p3
       ·rw[hk1 9 (by simp)];exact hh.l
       ·rw[hk1 10 (by simp)];exact hh.n
       ·rw[hk1 11 (by simp)];exact hh.i
     have hW1:=hW.q_ he1;refine wpIn_seq (wpIn_cond_true hc (wpIn_skip ?_))
     change (Code.seq (.block D.b1 _) _).wpIn Fence.wide 0 P _ a1 W1
     refine wpIn_seq (wpIn_block (wpIn_seq (wpIn_region_list ?_)));obtain⟨vl,hvl,rvl⟩:=hh1.l
     have hs2:=nK (ns:=ns) (env:=[(9,.pv (.au ds)),(11,.pv (.int .i64 i))]) (pinw hW1) (ja hW1) hh1.size hh1.defers (by
       intro t x hx;simp only[look]at hx;split at hx
       ·rename_i e;subst e;cases hx;exact⟨_,hvl,by simp only[aB];exact rvl⟩
       · split at hx
         ·rename_i e;subst e;cases hx;exact⟨_,hh1.i,bW⟩
         ·cases hx)
     refine eQ (ro:=none) hB horc D.c4 hs2 (TY hel hcl hcp) fun G2 a2 W2 hs2' he2 hd2 hk2=>?_
     change (Code.region D.i5 (D.l5++[D.w5]).toArray false).wpIn Fence.wide 0 P _ a2 W2
     refine wpIn_region_list ?_;obtain⟨env3,hev3,hl3⟩:=TZ (orc:=orc) (env:=[(9,.pv (.au ds)),(11,.pv (.int .i64 i)),(13,.gf cs),(14,.pv (.agg cs)),(5,.az 5 0)]) rfl hcl hcp hs1';refine il (ro:=none) (rest:=[D.w5]) hB horc D.c5 hs2' hev3 fun G3 a3 W3 hs3 he3 hd3 hk3=>?_;have he23:=he2.trans he3
     have hW3:=hW1.q_ he23;obtain⟨vs,hvs,rvs⟩:=hs3.env.env 16 _ hl3;simp[aB,Rel,R]at rvs;subst rvs
     have hh3:RC K ds b b1 i a3:=by
       refine⟨hs3.env.size,(hd3.trans hd2).trans hh1.defers,?_,?_,?_,?_,?_⟩
       ·rw[hk3 1 (by simp),hk2 1 (by simp)];exact hh1.p1
       ·rw[hk3 3 (by simp),hk2 3 (by simp)];exact hh1.p3
       ·rw[hk3 9 (by simp),hk2 9 (by simp)];exact hh1.l
       ·rw[hk3 10 (by simp),hk2 10 (by simp)];exact hh1.n
       ·rw[hk3 11 (by simp),hk2 11 (by simp)];exact hh1.i
     refine qA D.VW.1 D.VW.2.2 D.Wt ?_;have hargs:(#[.tmp 3,.tmp 16]:Array Operand).map a3.eval=#[.pointer (some ⟨b,0,none⟩),.string ⟨s.toArray⟩]:=by simp[Act.eval,hh3.p3,hvs]
     rw[hargs];obtain⟨q,hq⟩:=hq
     have hsum:(Lib.byteCells acc).length+(⟨s.toArray⟩:ByteArray).size≤140737488355328:=by
       have:=congrArg List.length hq;simp at this;simp only[Lib.byteCells_length];show acc.length+s.toArray.size≤_;simp;omega
     refine (D.write B b (Lib.byteCells acc) ⟨s.toArray⟩ W3 hW3.VS hsum hW3.le).mono ?_
     rintro e w4 ⟨rfl,hb4,hbel⟩
     refine⟨_,rfl,?_⟩;have hW4:Wd D.T D.E B b (acc++s) w1 w4:=⟨hW3.below.trans hbel,Nat.le_trans hW3.le hbel.size,.inr (by rw[Lib.byteCells_append];exact hb4)⟩
     have hh4:RC K ds b b1 i (a3.put D.w5.dst (.tuple #[.int .i64 (⟨s.toArray⟩:ByteArray).size,.nilIface])):=by
       rw[D.VW.2.1];refine⟨by simp[Act.put,hh3.size],hh3.defers,?_,?_,?_,?_,?_⟩;all_goals simp only[Act.put];rw[Array.getElem?_setIfInBounds_ne (by decide)]
       ·exact hh3.p1
       ·exact hh3.p3
       ·exact hh3.l
       ·exact hh3.n
       ·exact hh3.i
     change (Code.region D.i6 D.o6 false).wpIn Fence.wide 0 P _ _ w4
     refine wpIn_region_list ?_
     have hs5:=nK (ns:=ns) (env:=[(11,.pv (.int .i64 i))]) (pinw hW4) (ja hW4) hh4.size hh4.defers (by
       intro t x hx;simp only[look]at hx;split at hx
       ·rename_i e;subst e;cases hx;exact⟨_,hh4.i,bW⟩
       ·cases hx)
     refine eQ (ro:=none) hB horc D.c6 hs5 (T3 (by omega)) fun G6 a6 W6 hs6 he6 hd6 hk6=>?_;obtain⟨v6,h6,r6⟩:=hs6.env.env 11 _ rfl;simp[aB,Rel,R]at r6
     have hh6:RC K ds b b1 (i+1) a6:=by
       refine⟨hs6.env.size,hd6.trans hh4.defers,?_,?_,?_,?_,?_⟩
       ·rw[hk6 1 (by simp)];exact hh4.p1
       ·rw[hk6 3 (by simp)];exact hh4.p3
       ·rw[hk6 9 (by simp)];exact hh4.l
       ·rw[hk6 10 (by simp)];exact hh4.n
       ·rw[h6,r6];simp
     refine ih (i+1) a6 W6 (acc++s) u (by omega) (by omega) hh6 (hW4.q_ he6) hu ⟨q,by rw[hq];simp⟩ ?_;intro a' w' h1 h2;exact hQ a' w' h1 (by rw[←List.append_assoc];exact h2)
   |_=>simp[eY]at hok
structure RD(K:bl)(ds:List PV)(b b1 i:Nat)(a:Act):Prop where
 size:a.tmps.size=31
 defers:a.defers=[]
 p1:a.tmps[1]?=some (.pointer (some ⟨b1,0,none⟩))
 p3:a.tmps[3]?=some (.pointer (some ⟨b,0,none⟩))
 l:∃v,a.tmps[20]?=some v∧Rel K (.au ds) v
 n:a.tmps[21]?=some (.int .i64 ds.length)
 i:a.tmps[22]?=some (.int .i64 i)
theorem P9{orc:d9}{i n:Int}:bp orc [⟨some 23,none,[.t 22,.t 21],.v (.bin .lss)⟩] { env:=[(22,.pv (.int .i64 i)),(21,.pv (.int .i64 n))],mem:=[],sh:=[],aa:=[] } =
   some { env:=[(22,.pv (.int .i64 i)),(21,.pv (.int .i64 n)),(23,.pv (.bool (decide (i<n))))],mem:=[],sh:=[],aa:=[] }:=by
 simp
theorem T4{orc:d9}{ds:List PV}{i:Nat}{cs:List PV}(hi:ds[i]?=some (.agg cs))(hl:cs.length=20)(hc:cs.all de=true) :
   bp orc [⟨some 24,none,[.t 20,.t 22],.v (.eg 20)⟩,⟨some 25,none,[.t 24],.v (.fH 20 true)⟩,⟨some 7,none,[],.alloc 7 [.int .i64 0,.bool false,.str [],.bool false,.int .i64 0,.str [],.int .i64 0,.int .i64 0,.au [],.int .i64 0,.int .i64 0,.str [],.int .i64 0,.au [],.au [],.int .i64 0,.str [],.int .i64 0,.int .i64 0,.au []]⟩,⟨none,none,[.t 7,.t 25],.bC 7 0 20⟩] { env:=[(20,.pv (.au ds)),(22,.pv (.int .i64 i))],mem:=[],sh:=[],aa:=[] } =
   some { env:=[(20,.pv (.au ds)),(22,.pv (.int .i64 i)),(24,.gf cs),(25,.pv (.agg cs)),(7,.az 7 0)],mem:=[(7,cs.map .pv)],sh:=[],aa:=[] }:=by
 have hi0:¬((i:Int)<0):=by omega
 have h1:(List.map AV.pv cs).all aT=true:=wK hc;have h2:cs.take 20=cs:=by rw[←hl];exact List.take_length
 have h4:20≤cs.length:=by omega
 have h3:∀zs:List AV,zs.length=20→aQ zs 0 (cs.map .pv)=cs.map .pv:=fun zs hz=>nJ (by simp[hl,hz]);simp[-getElem?_pos,-List.all_map,-List.all_eq_true,-aF,hi,hi0,hl,h2,h3,h1,h4]
theorem T5{orc:d9}{cs:List PV}{g:Nat}{s:List UInt8}{env:List (Nat×AV)}(he:look env 7=some (.az 7 0))(hl:cs.length=20)(hc:cs.all de=true)(hg:orc.p g [.agg cs]=some [.str s]) :
   ∃env',bp orc [⟨some 26,none,[.t 7],.bY 7 0 20 true⟩,⟨some 27,none,[.t 26],.aJ g⟩] { env,mem:=[(7,cs.map .pv)],sh:=[],aa:=[] }=some { env:=env',mem:=[(7,cs.map .pv)],sh:=[],aa:=[] }∧look env' 27=some (.pv (.str s)):=by
 have h1:ca [] (cs.map .pv)=some cs:=qz hc;have h2:(cs.map AV.pv).take 20=cs.map .pv:=by rw[←hl];simpa using List.take_length (l:=cs.map AV.pv)
 have h4:20≤cs.length:=by omega
 refine⟨cX (cX env 26 (.agg (cs.map .pv))) 27 (.pv (.str s)),?_,by rw[bu]⟩;have h5:look (cX env 26 (.agg (cs.map .pv))) 26=some (.agg (cs.map .pv)):=bu _ _ _;simp[-getElem?_pos,he,h1,h2,h4,h5,hg]
theorem T6{orc:d9}{i:Nat}(h:i<4611686018427387904):bp orc [⟨some 29,none,[.t 22,.c (.pv (.int .i64 1))],.v (.bin .add)⟩,⟨some 22,none,[.t 29],.v .mv⟩] { env:=[(22,.pv (.int .i64 i))],mem:=[],sh:=[],aa:=[] } =
   some { env:=[(22,.pv (.int .i64 ((i:Int)+1))),(29,.pv (.int .i64 ((i:Int)+1)))],mem:=[],sh:=[],aa:=[] }:=by
 simp (disch:=omega) [ah]
theorem LU{orc:d9}(hB:eU P ns)(horc:gD P ns orc){f gd gb:Nat}(D:pD P ns f gd gb){K:bl}{w0 w1:World}{ds:List PV}{b1 b B:Nat}(hpin:nW ns.kz w0)(hK:Cl K w0)(h01:RowKit.Below w0.heap.size w0 w1)(hB1:w0.heap.size≤B)
   (hds:ds.all (eY 20)=true) (hlen:ds.length<4611686018427387904) {Q:Exit→Act→World→Prop} {all:List UInt8} (hall:all.length≤140737488355328) :
   ∀(j i:Nat) (a:Act) (w:World) (acc rest:List UInt8),ds.length-i=j→i≤ds.length→RD K ds b b1 i a→Wd D.T D.E B b acc w1 w→kD orc.p gb (ds.drop i)=some rest→(∃q,all=acc++rest++q) →
     (∀a' w',RD K ds b b1 ds.length a'→Wd D.T D.E B b (acc++rest) w1 w'→Q .normal a' w') →
     Code.roundsIn Fence.wide 0 P (.seq (.region D.i8 D.o8 false) (.seq (.cond (.tmp 23) .skip (.exit D.b2)) (.seq (.block D.b3 (.seq (.region D.i9 D.o9 false) (.region D.Cm (D.l10++[D.LR]).toArray false))) (.region D.TS D.RB false)))) (Exit.inBlock D.b2 Q) (j+1) a w:=by
 have ja:∀{acc:List UInt8} {w:World},Wd D.T D.E B b acc w1 w→Cl K w:=fun hW=>hK.below (h01.trans (hW.below.mono hB1));have pinw:∀{acc:List UInt8} {w:World},Wd D.T D.E B b acc w1 w→nW ns.kz w:=fun hW=>hpin.below (h01.trans (hW.below.mono hB1))
 have bW:∀{G:Gh} {i:Int},aB (num ns) G (.pv (.int .i64 i)) (.int .i64 i):=by intros;simp[aB,Rel,R]
 intro j;induction j with
 |zero=>
   intro i a w acc rest hj hi hh hW hr hq hQ;rw[roundsIn_succ];refine wpIn_seq (wpIn_region_list ?_)
   have hs:=nK (ns:=ns) (env:=[(22,.pv (.int .i64 i)),(21,.pv (.int .i64 ds.length))]) (pinw hW) (ja hW) hh.size hh.defers (by
     intro t x hx;simp only[look]at hx;split at hx
     ·rename_i e;subst e;cases hx;exact⟨_,hh.i,bW⟩
     · split at hx
       ·rename_i e;subst e;cases hx;exact⟨_,hh.n,bW⟩
       ·cases hx)
   refine eQ (ro:=none) hB horc D.c8 hs P9 fun G1 a1 W1 hs1 he1 hd1 hk1=>?_
   change (Code.seq (.cond (.tmp 23) .skip (.exit D.b2)) _).wpIn Fence.wide 0 P _ a1 W1
   obtain⟨v8,h8,r8⟩:=hs1.env.env 23 _ rfl;simp[aB,Rel,R]at r8;have hkl:i=ds.length:=by omega
   subst hkl;have hc:a1.eval (.tmp 23)=.bool false:=by simp[Act.eval,h8,r8]
   refine wpIn_seq (wpIn_cond_false hc (wpIn_exit ?_));simp only[Exit.then,Exit.inBlock,if_true];have hrest:rest=[]:=by rw[List.drop_length]at hr;simp[kD]at hr;exact hr
   subst hrest;refine hQ a1 W1 ⟨hs1.env.size,hd1.trans hh.defers,?_,?_,?_,?_,?_⟩ (by rw[List.append_nil];exact hW.q_ he1)
   ·rw[hk1 1 (by simp)];exact hh.p1
   ·rw[hk1 3 (by simp)];exact hh.p3
   ·rw[hk1 20 (by simp)];exact hh.l
   ·rw[hk1 21 (by simp)];exact hh.n
   ·rw[hk1 22 (by simp)];exact hh.i
 |succ j ih=>
   intro i a w acc rest hj hi hh hW hr hq hQ;have hlt:i<ds.length:=by omega
   obtain⟨el,hel⟩:∃el,ds[i]?=some el:=⟨ds[i],List.getElem?_eq_getElem hlt⟩;have hok:=List.all_eq_true.1 hds el (List.mem_of_getElem? hel);cases el with
   |agg cs=>
     simp only[eY,Bool.and_eq_true,beq_iff_eq]at hok;obtain⟨hcl,hcp⟩:=hok;obtain⟨s,u,hs1',hu,rfl⟩:=wL hel hr;rw[roundsIn_succ];refine wpIn_seq (wpIn_region_list ?_)
     have hs:=nK (ns:=ns) (env:=[(22,.pv (.int .i64 i)),(21,.pv (.int .i64 ds.length))]) (pinw hW) (ja hW) hh.size hh.defers (by
       intro t x hx;simp only[look]at hx;split at hx
       ·rename_i e;subst e;cases hx;exact⟨_,hh.i,bW⟩
       · split at hx
         ·rename_i e;subst e;cases hx;exact⟨_,hh.n,bW⟩
         ·cases hx)
     refine eQ (ro:=none) hB horc D.c8 hs P9 fun G1 a1 W1 hs1 he1 hd1 hk1=>?_
     change (Code.seq (.cond (.tmp 23) .skip (.exit D.b2)) _).wpIn Fence.wide 0 P _ a1 W1
     obtain⟨v8,h8,r8⟩:=hs1.env.env 23 _ rfl;simp[aB,Rel,R]at r8;have hc:a1.eval (.tmp 23)=.bool true:=by simp[Act.eval,h8,r8];omega
     have hh1:RD K ds b b1 i a1:=by
       refine⟨hs1.env.size,hd1.trans hh.defers,?_,?_,?_,?_,?_⟩
       ·rw[hk1 1 (by simp)];exact hh.p1
       ·rw[hk1 3 (by simp)];exact hh.p3
       ·rw[hk1 20 (by simp)];exact hh.l
       ·rw[hk1 21 (by simp)];exact hh.n
       ·rw[hk1 22 (by simp)];exact hh.i
     have hW1:=hW.q_ he1;refine wpIn_seq (wpIn_cond_true hc (wpIn_skip ?_))
     change (Code.seq (.block D.b3 _) _).wpIn Fence.wide 0 P _ a1 W1
     refine wpIn_seq (wpIn_block (wpIn_seq (wpIn_region_list ?_)));obtain⟨vl,hvl,rvl⟩:=hh1.l
     have hs2:=nK (ns:=ns) (env:=[(20,.pv (.au ds)),(22,.pv (.int .i64 i))]) (pinw hW1) (ja hW1) hh1.size hh1.defers (by
       intro t x hx;simp only[look]at hx;split at hx
       ·rename_i e;subst e;cases hx;exact⟨_,hvl,by simp only[aB];exact rvl⟩
       · split at hx
         ·rename_i e;subst e;cases hx;exact⟨_,hh1.i,bW⟩
         ·cases hx)
     refine eQ (ro:=none) hB horc D.c9 hs2 (T4 hel hcl hcp) fun G2 a2 W2 hs2' he2 hd2 hk2=>?_
     change (Code.region D.Cm (D.l10++[D.LR]).toArray false).wpIn Fence.wide 0 P _ a2 W2
     refine wpIn_region_list ?_;obtain⟨env3,hev3,hl3⟩:=T5 (orc:=orc) (env:=[(20,.pv (.au ds)),(22,.pv (.int .i64 i)),(24,.gf cs),(25,.pv (.agg cs)),(7,.az 7 0)]) rfl hcl hcp hs1';refine il (ro:=none) (rest:=[D.LR]) hB horc D.c10 hs2' hev3 fun G3 a3 W3 hs3 he3 hd3 hk3=>?_;have he23:=he2.trans he3
     have hW3:=hW1.q_ he23;obtain⟨vs,hvs,rvs⟩:=hs3.env.env 27 _ hl3;simp[aB,Rel,R]at rvs;subst rvs
     have hh3:RD K ds b b1 i a3:=by
       refine⟨hs3.env.size,(hd3.trans hd2).trans hh1.defers,?_,?_,?_,?_,?_⟩
       ·rw[hk3 1 (by simp),hk2 1 (by simp)];exact hh1.p1
       ·rw[hk3 3 (by simp),hk2 3 (by simp)];exact hh1.p3
       ·rw[hk3 20 (by simp),hk2 20 (by simp)];exact hh1.l
       ·rw[hk3 21 (by simp),hk2 21 (by simp)];exact hh1.n
       ·rw[hk3 22 (by simp),hk2 22 (by simp)];exact hh1.i
     refine qA D.OV.1 D.OV.2.2 D.Wt ?_;have hargs:(#[.tmp 3,.tmp 27]:Array Operand).map a3.eval=#[.pointer (some ⟨b,0,none⟩),.string ⟨s.toArray⟩]:=by simp[Act.eval,hh3.p3,hvs]
     rw[hargs];obtain⟨q,hq⟩:=hq
     have hsum:(Lib.byteCells acc).length+(⟨s.toArray⟩:ByteArray).size≤140737488355328:=by
       have:=congrArg List.length hq;simp at this;simp only[Lib.byteCells_length];show acc.length+s.toArray.size≤_;simp;omega
     refine (D.write B b (Lib.byteCells acc) ⟨s.toArray⟩ W3 hW3.VS hsum hW3.le).mono ?_
     rintro e w4 ⟨rfl,hb4,hbel⟩
     refine⟨_,rfl,?_⟩;have hW4:Wd D.T D.E B b (acc++s) w1 w4:=⟨hW3.below.trans hbel,Nat.le_trans hW3.le hbel.size,.inr (by rw[Lib.byteCells_append];exact hb4)⟩
     have hh4:RD K ds b b1 i (a3.put D.LR.dst (.tuple #[.int .i64 (⟨s.toArray⟩:ByteArray).size,.nilIface])):=by
       rw[D.OV.2.1];refine⟨by simp[Act.put,hh3.size],hh3.defers,?_,?_,?_,?_,?_⟩;all_goals simp only[Act.put];rw[Array.getElem?_setIfInBounds_ne (by decide)]
       ·exact hh3.p1
       ·exact hh3.p3
       ·exact hh3.l
       ·exact hh3.n
       ·exact hh3.i
     change (Code.region D.TS D.RB false).wpIn Fence.wide 0 P _ _ w4
     refine wpIn_region_list ?_
     have hs5:=nK (ns:=ns) (env:=[(22,.pv (.int .i64 i))]) (pinw hW4) (ja hW4) hh4.size hh4.defers (by
       intro t x hx;simp only[look]at hx;split at hx
       ·rename_i e;subst e;cases hx;exact⟨_,hh4.i,bW⟩
       ·cases hx)
     refine eQ (ro:=none) hB horc D.c11 hs5 (T6 (by omega)) fun G6 a6 W6 hs6 he6 hd6 hk6=>?_;obtain⟨v6,h6,r6⟩:=hs6.env.env 22 _ rfl;simp[aB,Rel,R]at r6
     have hh6:RD K ds b b1 (i+1) a6:=by
       refine⟨hs6.env.size,hd6.trans hh4.defers,?_,?_,?_,?_,?_⟩
       ·rw[hk6 1 (by simp)];exact hh4.p1
       ·rw[hk6 3 (by simp)];exact hh4.p3
       ·rw[hk6 20 (by simp)];exact hh4.l
       ·rw[hk6 21 (by simp)];exact hh4.n
       ·rw[h6,r6];simp
     refine ih (i+1) a6 W6 (acc++s) u (by omega) (by omega) hh6 (hW4.q_ he6) hu ⟨q,by rw[hq];simp⟩ ?_;intro a' w' h1 h2;exact hQ a' w' h1 (by rw[←List.append_assoc];exact h2)
   |_=>simp[eY]at hok
theorem LV{orc:d9}{tl tn ti:Nat}{ds:List PV}(h:tn≠tl)(h1:ti≠tn)(h2:ti≠tl):bp orc [⟨some tn,none,[.t tl],.v .len⟩,⟨some ti,none,[.c (.pv (.int .i64 0))],.v .mv⟩] { env:=[(tl,.pv (.au ds))],mem:=[],sh:=[],aa:=[] } =
   some { env:=[(tl,.pv (.au ds)),(tn,.pv (.int .i64 ds.length)),(ti,.pv (.int .i64 0))],mem:=[],sh:=[],aa:=[] }:=by
 have h':tl≠tn:=Ne.symm h;have h1':tn≠ti:=Ne.symm h1;have h2':tl≠ti:=Ne.symm h2;simp[h,h1,h2,h',h1',h2']
theorem step1{orc:d9}(hB:eU P ns)(horc:gD P ns orc){f gd gb:Nat}(D:pD P ns f gd gb){K:bl}{w0 w1:World}{ds bs:List PV}{vd vb:Value}{ta tb:List UInt8}(hpin:nW ns.kz w0)(hK:Cl K w0)
   (hw1s:w1.heap.size=w0.heap.size+1) (hbx1:w1.heap[w0.heap.size]?=some (.cells #[vd,vb] D.Tp (0,0))) (h01:RowKit.Below w0.heap.size w0 w1)
   (hd1:ds.all (eY 4)=true) (hd2:bs.all (eY 20)=true) (hd3:ds.length<4611686018427387904) (hd4:bs.length<4611686018427387904) (hlen:(ta++tb).length≤140737488355328)
   (hvd:R K false (.au ds) [vd]) (hvb:R K false (.au bs) [vb]) (ha:kD orc.p gd ds=some ta) (hb:kD orc.p gb bs=some tb) {a1:Act}
   (s1:a1.tmps.size=31∧a1.defers=[]∧a1.tmps[1]?=some (.pointer (some ⟨w0.heap.size,0,none⟩))) :
   (Code.seq (.region D.i1 #[D.al] false) (.seq (.seq (.region D.i2 (D.fa::D.ld::D.r2).toArray false) (.block D.b0 (.loop (.seq (.region D.i3 D.o3 false) (.seq (.cond (.tmp 12) .skip (.exit D.b0)) (.seq (.block D.b1 (.seq (.region D.i4 D.o4 false) (.region D.i5 (D.l5++[D.w5]).toArray false))) (.region D.i6 D.o6 false)))))))
     (.seq (.seq (.region D.i7 (D.OS::D.OT::D.r7).toArray false) (.block D.b2 (.loop (.seq (.region D.i8 D.o8 false) (.seq (.cond (.tmp 23) .skip (.exit D.b2)) (.seq (.block D.b3 (.seq (.region D.i9 D.o9 false) (.region D.Cm (D.l10++[D.LR]).toArray false))) (.region D.TS D.RB false))))))) (.seq (.region D.VV #[D.st,D.fi] false) .ret)))).wpIn Fence.wide 0 P
     (bodyPost P D.fn fun e w'=>∃v K',e=.returned v∧ik K' [.str (ta++tb)] v∧K.le K'∧(∀b o u,b<w0.heap.size→K' b o=some u→K b o=some u)∧Cl K' w'∧RowKit.Below w0.heap.size w0 w') a1 w1:=by
 have hF:∀f,Fence.wide.fn f:=fun _=>trivial;have bW:∀{G:Gh} {i:Int},aB (num ns) G (.pv (.int .i64 i)) (.int .i64 i):=by intros;simp[aB,Rel,R]
 obtain⟨s1a,s1b,s1c⟩:=s1;refine wpIn_seq (wpIn_region_list ?_);refine iq (w':=w1.alloc (.cells #[.pointer none,.slice none 0 0] D.T)) (v:=.pointer (some ⟨w1.heap.size,0,none⟩)) (m_ (P:=P) D.OU.1 (by simp)) D.OU.2.2 ?_ ?_
 · have h1:=D.OU.1;have h2:=D.hz;cases hi:P.info? D.T with
   |none=>simp[hi]at h2
   |some inf=>
     simp[hi]at h2;have hz:(zeroValue D.T).run P w1=.ok (.agg #[.pointer none,.slice none 0 0]) w1:=by simp[zeroValue,typeInfo,hi,h2]
     have h3:=LQ (E:=a1.eval) D.OU.1;rw[h3];simp only[Instr.alloc,Sem.run_bind,hz,Result.andThen_ok,ig,Sem.run_pure];rfl
 rw[D.OU.2.1]
 change (Code.seq (.seq (.region D.i2 _ false) _) _).wpIn Fence.wide 0 P _ _ _
 have hW2:Wd D.T D.E w1.heap.size w1.heap.size [] w1 (w1.alloc (.cells #[.pointer none,.slice none 0 0] D.T)):=
   ⟨(RowKit.Below.refl _ _).alloc (Nat.le_refl _) _,((RowKit.Below.refl w1.heap.size w1).alloc (Nat.le_refl _) _).size,Lib.fresh_isBuilder D.T D.E w1⟩
 generalize w1.alloc (.cells #[.pointer none,.slice none 0 0] D.T)=w2 at hW2⊢
 have s2:∀a2:Act,a2=a1.put (some 3) (.pointer (some ⟨w1.heap.size,0,none⟩))→a2.tmps.size=31∧a2.defers=[]∧a2.tmps[1]?=some (.pointer (some ⟨w0.heap.size,0,none⟩))∧a2.tmps[3]?=some (.pointer (some ⟨w1.heap.size,0,none⟩)):=by
   rintro a2 rfl
   refine⟨by simp[Act.put,s1a],s1b,?_,by simp[Act.put,s1a]⟩;simp only[Act.put];rw[Array.getElem?_setIfInBounds_ne (by decide)];exact s1c
 obtain⟨s2a,s2b,s2c,s2d⟩:=s2 _ rfl;generalize a1.put (some 3) (.pointer (some ⟨w1.heap.size,0,none⟩))=a2 at s2a s2b s2c s2d⊢;have hB1:w0.heap.size≤w1.heap.size:=by omega
 have ja:∀{acc:List UInt8} {w:World},Wd D.T D.E w1.heap.size w1.heap.size acc w1 w→Cl K w:=fun hW=>hK.below (h01.trans (hW.below.mono hB1));have pinw:∀{acc:List UInt8} {w:World},Wd D.T D.E w1.heap.size w1.heap.size acc w1 w→nW ns.kz w:=fun hW=>hpin.below (h01.trans (hW.below.mono hB1))
 have boxAt:∀{acc:List UInt8} {w:World},Wd D.T D.E w1.heap.size w1.heap.size acc w1 w→w.heap[w0.heap.size]?=some (.cells #[vd,vb] D.Tp (0,0)):=fun hW=>(hW.below.block _ (by omega)).trans hbx1
 have hrel:aw (num ns) (JT K) [.pv (.au ds),.pv (.au bs)] [vd,vb]:=by
   simp only[aw,aB];exact⟨vd,[vb],rfl,hvd,vb,[],rfl,hvb,rfl⟩
 refine wpIn_seq (wpIn_seq (wpIn_region_list ?_));have hl2:(D.fa::D.ld::D.r2).toArray.toList=D.fa::D.ld::D.r2:=by simp
 rw[hl2];refine iq (w':=w2) (v:=.pointer (some ⟨w0.heap.size,0,none⟩)) (m_ (P:=P) D.SI.1 (by simp)) D.SI.2.2 ?_ ?_
 ·have h1:=D.SI.1;obtain⟨k1,k2,k3,k4⟩:=D.WX;have h2:=iE (P:=P) (w:=w2) k1 k3 k4 w0.heap.size 0;rw[k2]at h2;have h3:=Bv (E:=a2.eval) D.SI.1;have h4:a2.eval (.tmp 1)=.pointer (some ⟨w0.heap.size,0,none⟩):=(by simp[Act.eval,s2c]);rw[h3,h4];simp only[Sem.run_bind,h2,Result.andThen_ok,Sem.run_pure]
 rw[D.SI.2.1];obtain⟨u9,g9,r9⟩:=fE (ns:=ns) (w:=w2) (off:=0) (x:=.pv (.au ds)) D.Ws.1 D.Ws.2 rfl hrel (gk (boxAt hW2));refine iq (w':=w2) (v:=u9) (m_ (P:=P) D.SJ.1 (by simp)) D.SJ.2.2 ?_ ?_
 ·have h1:=D.SJ.1;have h3:=FW (E:=(a2.put (some 8) (.pointer (some ⟨w0.heap.size,0,none⟩))).eval) D.SJ.1;have h4:(a2.put (some 8) (.pointer (some ⟨w0.heap.size,0,none⟩))).eval (.tmp 8)=.pointer (some ⟨w0.heap.size,0,none⟩):=(by simp[Act.eval,Act.put,s2a]);rw[h3,h4];simp[Instr.loadAt,Instr.sureAddr,g9]
 rw[D.SJ.2.1]
 have s3:∀a3:Act,a3=(a2.put (some 8) (.pointer (some ⟨w0.heap.size,0,none⟩))).put (some 9) u9→a3.tmps.size=31∧a3.defers=[]∧a3.tmps[1]?=some (.pointer (some ⟨w0.heap.size,0,none⟩))∧a3.tmps[3]?=some (.pointer (some ⟨w1.heap.size,0,none⟩))∧a3.tmps[9]?=some u9:=by
   rintro a3 rfl
   refine⟨by simp[Act.put,s2a],s2b,?_,?_,by simp[Act.put,s2a]⟩;all_goals simp only[Act.put];rw[Array.getElem?_setIfInBounds_ne (by decide),Array.getElem?_setIfInBounds_ne (by decide)]
   ·exact s2c
   ·exact s2d
 obtain⟨s3a,s3b,s3c,s3d,s3e⟩:=s3 _ rfl;generalize (a2.put (some 8) (.pointer (some ⟨w0.heap.size,0,none⟩))).put (some 9) u9=a3 at s3a s3b s3c s3d s3e⊢
 have hs3:=nK (ns:=ns) (env:=[(9,.pv (.au ds))]) (pinw hW2) (ja hW2) s3a s3b (by
   intro t x hx;simp only[look]at hx;split at hx
   ·rename_i e;subst e;cases hx;exact⟨_,s3e,r9⟩
   ·cases hx)
 refine eQ (ro:=none) hB horc D.c2 hs3 (LV (by decide) (by decide) (by decide)) fun G4 a4 W4 hs4 he4 hd4' hk4=>?_;obtain⟨v10,h10,r10⟩:=hs4.env.env 10 _ rfl;obtain⟨v11,h11,r11⟩:=hs4.env.env 11 _ rfl;simp[aB,Rel,R]at r10 r11
 have hh4:RC K ds w1.heap.size w0.heap.size 0 a4:=by
   refine⟨hs4.env.size,hd4'.trans s3b,?_,?_,?_,?_,?_⟩
   ·rw[hk4 1 (by simp)];exact s3c
   ·rw[hk4 3 (by simp)];exact s3d
   ·rw[hk4 9 (by simp)];exact⟨u9,s3e,by simpa only[aB,JT] using r9⟩
   ·rw[h10,r10]
   ·rw[h11,r11];simp
 change (Code.block D.b0 _).wpIn Fence.wide 0 P _ a4 W4
 refine wpIn_block (wpIn_loop_rounds (ds.length+1) ?_);refine LS hB horc D hpin hK h01 hB1 hd1 hd3 hlen ds.length 0 a4 W4 [] ta (by omega) (by omega) hh4 (hW2.q_ he4) ha ⟨tb,by simp⟩ fun a5 W5 hh5 hW5=>?_;rw[List.nil_append]at hW5
 change (Code.seq (.seq (.region D.i7 _ false) _) _).wpIn Fence.wide 0 P _ a5 W5
 refine wpIn_seq (wpIn_seq (wpIn_region_list ?_));have hl7:(D.OS::D.OT::D.r7).toArray.toList=D.OS::D.OT::D.r7:=by simp
 rw[hl7];refine iq (w':=W5) (v:=.pointer (some ⟨w0.heap.size,1,none⟩)) (m_ (P:=P) D.Je.1 (by simp)) D.Je.2.2 ?_ ?_
 ·have h1:=D.Je.1;obtain⟨k1,k2,k3,k4⟩:=D.TV;have h2:=iE (P:=P) (w:=W5) k1 k3 k4 w0.heap.size 0;rw[k2]at h2;have h3:=Bv (E:=a5.eval) D.Je.1;have h4:a5.eval (.tmp 1)=.pointer (some ⟨w0.heap.size,0,none⟩):=(by simp[Act.eval,hh5.p1]);rw[h3,h4];simp only[Sem.run_bind,h2,Result.andThen_ok,Sem.run_pure]
 rw[D.Je.2.1];obtain⟨u20,g20,r20⟩:=fE (ns:=ns) (w:=W5) (off:=1) (x:=.pv (.au bs)) D.SD.1 D.SD.2 rfl hrel (gk (boxAt hW5));refine iq (w':=W5) (v:=u20) (m_ (P:=P) D.Jf.1 (by simp)) D.Jf.2.2 ?_ ?_
 ·have h1:=D.Jf.1;have h3:=FW (E:=(a5.put (some 19) (.pointer (some ⟨w0.heap.size,1,none⟩))).eval) D.Jf.1;have h4:(a5.put (some 19) (.pointer (some ⟨w0.heap.size,1,none⟩))).eval (.tmp 19)=.pointer (some ⟨w0.heap.size,1,none⟩):=(by simp[Act.eval,Act.put,hh5.size]);rw[h3,h4];simp[Instr.loadAt,Instr.sureAddr,g20]
 rw[D.Jf.2.1]
 have s6:∀a6:Act,a6=(a5.put (some 19) (.pointer (some ⟨w0.heap.size,1,none⟩))).put (some 20) u20→a6.tmps.size=31∧a6.defers=[]∧a6.tmps[1]?=some (.pointer (some ⟨w0.heap.size,0,none⟩))∧a6.tmps[3]?=some (.pointer (some ⟨w1.heap.size,0,none⟩))∧a6.tmps[20]?=some u20:=by
   rintro a6 rfl
   refine⟨by simp[Act.put,hh5.size],hh5.defers,?_,?_,by simp[Act.put,hh5.size]⟩;all_goals simp only[Act.put];rw[Array.getElem?_setIfInBounds_ne (by decide),Array.getElem?_setIfInBounds_ne (by decide)]
   ·exact hh5.p1
   ·exact hh5.p3
 obtain⟨s6a,s6b,s6c,s6d,s6e⟩:=s6 _ rfl;generalize (a5.put (some 19) (.pointer (some ⟨w0.heap.size,1,none⟩))).put (some 20) u20=a6 at s6a s6b s6c s6d s6e⊢
 have hs6:=nK (ns:=ns) (env:=[(20,.pv (.au bs))]) (pinw hW5) (ja hW5) s6a s6b (by
   intro t x hx;simp only[look]at hx;split at hx
   ·rename_i e;subst e;cases hx;exact⟨_,s6e,r20⟩
   ·cases hx)
 refine eQ (ro:=none) hB horc D.c7 hs6 (LV (by decide) (by decide) (by decide)) fun G7 a7 W7 hs7 he7 hd7' hk7=>?_;obtain⟨v21,h21,r21⟩:=hs7.env.env 21 _ rfl;obtain⟨v22,h22,r22⟩:=hs7.env.env 22 _ rfl;simp[aB,Rel,R]at r21 r22
 have hh7:RD K bs w1.heap.size w0.heap.size 0 a7:=by
   refine⟨hs7.env.size,hd7'.trans s6b,?_,?_,?_,?_,?_⟩
   ·rw[hk7 1 (by simp)];exact s6c
   ·rw[hk7 3 (by simp)];exact s6d
   ·rw[hk7 20 (by simp)];exact⟨u20,s6e,by simpa only[aB,JT] using r20⟩
   ·rw[h21,r21]
   ·rw[h22,r22];simp
 change (Code.block D.b2 _).wpIn Fence.wide 0 P _ a7 W7
 refine wpIn_block (wpIn_loop_rounds (bs.length+1) ?_);refine LU hB horc D hpin hK h01 hB1 hd2 hd4 hlen bs.length 0 a7 W7 ta tb (by omega) (by omega) hh7 (hW5.q_ he7) hb ⟨[],by simp⟩ fun a8 W8 hh8 hW8=>?_
 change (Code.seq (.region D.VV _ false) .ret).wpIn Fence.wide 0 P _ a8 W8
 refine wpIn_seq (wpIn_region_list ?_);refine qA D.vY.1 D.vY.2.2 D.TW ?_;have hargs:(#[.tmp 3]:Array Operand).map a8.eval=#[.pointer (some ⟨w1.heap.size,0,none⟩)]:=by simp[Act.eval,hh8.p3]
 rw[hargs];refine (D.read w1.heap.size w1.heap.size (ta++tb) W8 hW8.VS hW8.le).mono ?_
 rintro e w9 ⟨rfl,hbel⟩
 refine⟨_,rfl,?_⟩;refine gE hF D.SB.1 D.SB.2.2 ?_;rw[D.vY.2.1,D.SB.2.1]
 change (Code.ret).wpIn Fence.wide 0 P _ _ _
 refine wpIn_ret ?_;refine⟨hh8.defers,.string ⟨(ta++tb).toArray⟩,?_,?_⟩
 ·simp[results,D.ie,Act.put,Act.eval,hh8.size]
 ·have hbel0:RowKit.Below w0.heap.size w0 w9:=h01.trans ((hW8.below.trans hbel).mono hB1);exact⟨_,K,rfl,by simp[ik,Rel,R],K.le_refl,fun _ _ _ _ h=>h,hK.below hbel0,hbel0⟩
theorem Jg{orc:d9}(hB:eU P ns)(horc:gD P ns orc){f gd gb:Nat}(D:pD P ns f gd gb){cW rs:List PV}(h:wJ gd gb orc.p cW=some rs):v5 P ns f cW rs:=by
 unfold wJ at h;split at h
 · rename_i ds bs;rw[Option.ite_none_right_eq_some]at h;obtain⟨⟨hd1,hd2,hd3,hd4⟩,h⟩:=h;split at h
   · rename_i ta tb ha hb;simp only[Option.ite_none_right_eq_some,Option.some.injEq]at h;obtain⟨hlen,rfl⟩:=h;intro K w0 vs hpin hK hr;simp only[jo]at hr;obtain⟨v0,r0,rfl,hv0,rfl⟩:=hr;obtain⟨us,rfl,hus⟩:=hv0;simp only[dL]at hus;obtain⟨vd,r1,rfl,hvd,vb,r2,rfl,hvb,rfl⟩:=hus;refine callsIn_wide (n:=0).1 ?_;refine callsIn_of_wp D.hf D.ui trivial ?_ rfl;rw[D.hN];have hF:∀f,Fence.wide.fn f:=fun _=>trivial
     have bW:∀{G:Gh} {i:Int},aB (num ns) G (.pv (.int .i64 i)) (.int .i64 i):=by intros;simp[aB,Rel,R]
     refine wpIn_seq (wpIn_region_list ?_);refine iq (w':=w0.alloc (.cells #[vd,vb] D.Tp)) (v:=.pointer (some ⟨w0.heap.size,0,none⟩)) (m_ (P:=P) D.TT.1 (by simp)) D.TT.2.2 ?_ ?_
     ·have he:Act.eval { tmps:=(#[Value.agg [vd,vb].toArray]:Array Value)++Array.replicate (31-(#[Value.agg [vd,vb].toArray]:Array Value).size) undef,defers:=[] } (.tmp 0)=.agg #[vd,vb]:=(by simp[Act.eval]);rw[RA D.TT.1,he];simp only[Instr.box,Sem.run_bind,ig,Result.andThen_ok,Sem.run_pure];rfl
     refine gE hF D.Rs.1 D.Rs.2.2 ?_;rw[D.TT.2.1,D.Rs.2.1];have hw1s:(w0.alloc (.cells #[vd,vb] D.Tp)).heap.size=w0.heap.size+1:=Array.size_push _;have hbx1:(w0.alloc (.cells #[vd,vb] D.Tp)).heap[w0.heap.size]?=some (.cells #[vd,vb] D.Tp (0,0)):=heap_alloc_new;have h01:RowKit.Below w0.heap.size w0 (w0.alloc (.cells #[vd,vb] D.Tp)):=(RowKit.Below.refl _ _).alloc (Nat.le_refl _) _;generalize w0.alloc (.cells #[vd,vb] D.Tp)=w1 at hw1s hbx1 h01⊢
     change (Code.seq (.region D.i1 #[D.al] false) _).wpIn Fence.wide 0 P _ _ _
     have s1:∀(a1:Act),a1=((Act.put { tmps:=(#[Value.agg [vd,vb].toArray]:Array Value)++Array.replicate (31-(#[Value.agg [vd,vb].toArray]:Array Value).size) undef,defers:=[] } (some 1) (.pointer (some ⟨w0.heap.size,0,none⟩))).put (some 2) (.string ⟨#[]⟩)) →
         a1.tmps.size=31∧a1.defers=[]∧a1.tmps[1]?=some (.pointer (some ⟨w0.heap.size,0,none⟩)):=by
       rintro a1 rfl
       refine⟨by simp[Act.put],rfl,?_⟩;simp[Act.put]
     refine step1 hB horc D hpin hK hw1s hbx1 h01 hd1 hd2 hd3 hd4 hlen hvd hvb ha hb (s1 _ ?_);simp[Act.eval]
   ·cases h
 ·cases h
end
end Go.Ab
