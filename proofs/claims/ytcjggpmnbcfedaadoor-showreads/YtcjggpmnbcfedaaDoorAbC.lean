import Derived.Test.YtcjggpmnbcfedaaDoorAbB
import Derived.RangeFuncLeaves
import Derived.RangeFuncRecord
import Derived.WalkKit
import Derived.ProofKit
import Derived.OpenShut
import Derived.Carry
import Derived.Lib.Join
import Derived.Lib.ItoaNum
import Derived.Lib.LaidTab
import Derived.Sort.Grow
import Derived.Deep.Draws
import Derived.Lib.Builder
import Derived.Lib.UnsafeStr
import Derived.Lib.AppendStr
/-
  Functions: n levels of calls of the evaluator are what the model does.
  The pieces of a function's code by their places: for functions that are known by their code's shape.
  From the rows' readings to pure data, and from what the evaluator gives to a law's contract.
  The evaluator for the kernel: what an operation lays is brought to its last form at once. It answers as the evaluator does.
  Functions of Go's library that the kit knows: strings.Join, and strconv.Itoa of small numbers.
  The table that strconv reads, as the rows list it.
  A program's text written through a strings.Builder: what the declarations' and the bindings' texts are, one after another.
-/
set_option linter.unusedVariables false
set_option linter.unusedSimpArgs false
set_option linter.unnecessarySimpa false
set_option maxRecDepth 100000
set_option maxHeartbeats 8000000
namespace Go.Ab
section
variable {P:Program} {ns:Names} {G:Gh} {w:World}
theorem m7:∀{l:List AV} {i t:Nat} {v:AV},look (bp i l) t=some v→i≤t∧l[t-i]?=some v
 | [],i,t,v,h=>by simp [bp,look] at h
 | x::l,i,t,v,h=>by
   simp only [bp,look] at h
   split at h
   · rename_i e;subst e;cases h;simp
   · rename_i hne
     obtain ⟨h1,h2⟩:=m7 h
     refine ⟨by omega,?_⟩
     rw [show t-i=(t-(i+1))+1 from by omega]
     simpa using h2
theorem By {N:Nat} {args:List AV} {vs:List Value} (hr:ae (num ns) G args vs) (hN:args.length≤N) :
   iv (num ns) G N (bp 0 args) { tmps:=vs.toArray++Array.replicate (N-vs.toArray.size) undef,defers:=[] }:=by
 have hl:=hr.length
 refine ⟨by simp;omega,fun t x hx=>?_⟩
 obtain ⟨_,h2⟩:=m7 hx
 simp only [Nat.sub_zero] at h2
 obtain ⟨v,h3,h4⟩:=hr.get h2
 refine ⟨v,?_,h4⟩
 rw [Array.getElem?_append_left (by have:=(List.getElem?_eq_some_iff.1 h3).1;simpa using this)]
 simpa using h3
theorem lG {n0 N:Nat} {st:St} {a:Act} (hs:eG (num ns) n0 N G st a w) {F:ResultVar→Sem Value} (hF1:∀t,F (.tmp t)=pure (a.tmps.getD t undef)) (hF2:∀ad t,F (.cell ad t)=(do loadVar t (←asAddr (a.tmps.getD ad undef)))):∀{rvs:List ResultVar} {rs:List kl} {xs:List AV},bI (wi P) rvs=some rs→cN st rs=some xs →
   ∃vs,(rvs.mapM F).run P w=.ok vs w∧ae (num ns) G xs vs
 | [],rs,xs,hc,hx=>by
   simp [bI] at hc;subst hc
   simp [cN] at hx;subst hx
   exact ⟨[],by simp,by simp [ae]⟩
 | r::rvs,rs,xs,hc,hx=>by
   simp only [bI] at hc
   split at hc
   · rename_i ar ars h1 h2
     simp at hc;subst hc
     simp only [cN] at hx
     split at hx
     · rename_i v vs' g1 g2
       simp at hx;subst hx
       obtain ⟨us,k1,k2⟩:=lG hs hF1 hF2 h2 g2
       have one:∃u,(F r).run P w=.ok u w∧ah (num ns) G v u:=by
         cases r with
         | tmp t=>
           simp [wi] at h1;subst h1
           simp only [kR] at g1
           obtain ⟨u,e1,e2⟩:=hs.env.env t v g1
           exact ⟨u,by rw [hF1];simp [e1],e2⟩
         | cell ad t=>
           simp only [wi] at h1
           split at h1
           · rename_i sz ag hsz hag
             simp at h1;subst h1
             simp only [kR] at g1
             split at g1
             · rename_i d e1
               split at g1
               · rename_i cs e2
                 simp only [Option.ite_none_right_eq_some] at g1
                 obtain ⟨rfl,g1⟩:=g1
                 obtain ⟨u,f1,f2⟩:=hs.env.env _ _ e1
                 simp only [ah] at f2
                 obtain ⟨b,hp,rfl⟩:=f2
                 obtain ⟨b',hp',hblk,_⟩:=hs.inv.bT _ _ e2
                 rw [hp] at hp';cases hp'
                 obtain ⟨_,c,ty,hh,hrel⟩:=hblk
                 obtain ⟨u,q1,q2⟩:=eY (w:=w) hsz hag g1 hrel (gp hh)
                 exact ⟨u,by rw [hF2];simp [f1,asAddr,q1],q2⟩
               · cases g1
             · rename_i s e1
               split at g1
               · rename_i cs e2
                 split at g1
                 · cases g1
                 · rename_i hm
                   obtain ⟨u,f1,f2⟩:=hs.env.env _ _ e1
                   simp only [ah] at f2
                   obtain ⟨b,hp,rfl⟩:=f2
                   obtain ⟨b',hp',hblk,_⟩:=hs.inv.cr _ _ e2
                   rw [hp] at hp';cases hp'
                   obtain ⟨_,c,ty,vs,suf,hh,_,hsp,hrel⟩:=hblk.cells (by simpa using hm)
                   obtain ⟨u,q1,q2⟩:=eY (w:=w) hsz hag g1 hrel (jE hh hsp)
                   exact ⟨u,by rw [hF2];simp [f1,asAddr,q1],q2⟩
               · cases g1
             · cases g1
           · simp at h1
       obtain ⟨u,o1,o2⟩:=one
       refine ⟨u::us,?_,?_⟩
       · rw [List.mapM_cons]
         simp only [Sem.run_bind]
         rw [o1]
         simp only [Result.andThen_ok]
         rw [k1]
         rfl
       · simp only [ae];exact ⟨u,us,rfl,o2,k2⟩
     · simp at hx
   · simp at hc
theorem jt {G':Gh} {sh:Sh} {ks:List Nat} (hle:G.le G') (hf:gq ns G G' sh ks) (hl:∀(s:Nat) (cells:List AV),sh[s]?=some (some cells)→cells.all aH=true)
   {x:AV} {v:Value} (ha:∀s∈dj x,s∈ks) (h:ah (num ns) G x v):ah (num ns) G' (mf sh x) v:=by
 unfold mf
 split
 · rename_i p hp
   simp only [ah]
   exact mA hle hf hl ha hp h
 · exact h.mono hle
theorem Bz {G':Gh} {sh:Sh} {ks:List Nat} (hle:G.le G') (hf:gq ns G G' sh ks) (hl:∀(s:Nat) (cells:List AV),sh[s]?=some (some cells)→cells.all aH=true)
   {x:AV} {v:Value} (ha:aH x=true→∀s∈dj x,s∈ks) (h:ah (num ns) G x v):ah (num ns) G' (mg sh x) v:=by
 unfold mg
 split
 · exact h.mono hle
 · split
   · rename_i hl'
     exact jt hle hf hl (ha hl') h
   · exact h.mono hle
theorem oN {G':Gh} {sh:Sh} {ks:List Nat} (hle:G.le G') (hf:gq ns G G' sh ks) (hl:∀(s:Nat) (cells:List AV),sh[s]?=some (some cells)→cells.all aH=true) :
   ∀{cs:List AV} {vs:List Value},(∀s∈dj (.agg cs),s∈ks)→ae (num ns) G cs vs→ae (num ns) G' (cs.map (mg sh)) vs
 | [],vs,_,h=>by simpa [ae] using h
 | c::cs,vs,ha,h=>by
   simp only [ae] at h
   obtain ⟨v,r,e,e1,e2⟩:=h
   simp only [List.map_cons,ae]
   refine ⟨v,r,e,Bz hle hf hl (fun hb s hs=>ha s ?_) e1,oN hle hf hl (fun s hs=>ha s ?_) e2⟩
   · simp only [dj,List.flatMap_cons,List.mem_append]
     left
     cases c<;>simp_all [dj,aH]
   · simp only [dj,List.flatMap_cons,List.mem_append] at hs ⊢
     exact .inr hs
theorem BA {G':Gh} {sh:Sh} {ks:List Nat} (hle:G.le G') (hf:gq ns G G' sh ks) (hl:∀(s:Nat) (cells:List AV),sh[s]?=some (some cells)→cells.all aH=true)
   {x:AV} {v:Value} (ha:∀s∈dj x,s∈ks) (h:ah (num ns) G x v):ah (num ns) G' (qt sh x) v:=by
 unfold qt
 split
 · exact h.mono hle
 · exact h.mono hle
 · simp only [ah] at h ⊢
   obtain ⟨vs,e,r⟩:=h
   exact ⟨vs,e,oN hle hf hl ha r⟩
 · exact jt hle hf hl ha h
theorem ju {G':Gh} {sh:Sh} {ks:List Nat} {F:Sh→AV→AV} (hF:∀{x:AV} {v:Value},(∀s∈dj x,s∈ks)→ah (num ns) G x v→ah (num ns) G' (F sh x) v) :
   ∀{xs:List AV} {vs:List Value},(∀s∈xs.flatMap dj,s∈ks)→ae (num ns) G xs vs→ae (num ns) G' (xs.map (F sh)) vs
 | [],vs,_,h=>by simpa [ae] using h
 | x::xs,vs,ha,h=>by
   simp only [ae] at h
   obtain ⟨v,r,e,e1,e2⟩:=h
   simp only [List.flatMap_cons,List.mem_append] at ha
   simp only [List.map_cons,ae]
   exact ⟨v,r,e,hF (fun s hs=>ha s (.inl hs)) e1,ju hF (fun s hs=>ha s (.inr hs)) e2⟩
theorem vH {G':Gh} {sh:Sh} {ks:List Nat} {aF kst:Bool} (hle:G.le G') (hf:gq ns G G' sh ks) (hl:∀(s:Nat) (cells:List AV),sh[s]?=some (some cells)→cells.all aH=true)
   {xs:List AV} {vs:List Value} (ha:∀s∈xs.flatMap dj,s∈ks) (h:ae (num ns) G xs vs):ae (num ns) G' (bB aF kst sh xs) vs:=by
 unfold bB
 split
 · split
   · exact ae.mono hle h
   · exact ju (BA hle hf hl) ha h
 · exact ju (jt hle hf hl) ha h
theorem vJ {xs:List AV} {vs:List Value} (h:ae (num ns) G xs vs):bR (num ns) G xs (if h:vs.toArray.size=1 then vs.toArray[0] else .tuple vs.toArray):=by
 unfold bR
 split
 · rename_i r
   simp only [ae] at h
   obtain ⟨v,r',e,e1,e2⟩:=h
   subst e2;subst e
   simpa using e1
 · rename_i hn
   have hl:=h.length
   rw [dif_neg]
   · exact ⟨vs,rfl,h⟩
   · intro e
     simp at e
     rw [e] at hl
     cases xs with
     | nil=>simp at hl
     | cons x xs=>
       cases xs with
       | nil=>exact hn x rfl
       | cons _ _=>simp at hl
end
mutual
theorem m8 {ρ:bh} {G G':Gh} {n:Nat} (hK:G.K.le G'.K) (hs:∀s b,s<n→G.sm s=some b→G'.sm s=some b):∀{x:AV} {v:Value},bm x=true→aw n x=true→ah ρ G x v→ah ρ G' x v
 | .pv p,_,_,_,h=>by simp only [ah] at h ⊢;exact h.mono hK
 | .aJ s o,_,_,hr,h=>by simp [aw] at hr;simp only [ah] at h ⊢;obtain ⟨b,e,r⟩:=h;exact ⟨b,hs _ _ hr e,r⟩
 | .aX s _ n _,_,_,hr,h=>by simp [aw] at hr;simp only [ah] at h ⊢;obtain ⟨b,c,e,r⟩:=h;exact ⟨b,c,hs _ _ hr e,r⟩
 | .gz,_,_,_,h=>by simpa only [ah] using h
 | .gA s,_,_,hr,h=>by simp [aw] at hr;simp only [ah] at h ⊢;obtain ⟨b,e,r⟩:=h;exact ⟨b,hs _ _ hr e,r⟩
 | .lN ..,_,hp,_,_=>by simp [bm] at hp
 | .dT _,_,_,_,h=>by simp only [ah] at h
 | .fn g cap,_,hp,hr,h=>by
   simp only [bm] at hp
   simp only [aw] at hr
   simp only [ah] at h ⊢
   obtain ⟨f,vs,e1,e2,r⟩:=h
   exact ⟨f,vs,e1,e2,kJ hK hs hp hr r⟩
 | .un,_,hp,_,_=>by simp [bm] at hp
 | .cI _,_,_,_,h=>by simp only [ah] at h ⊢;obtain ⟨b,l,e,r⟩:=h;exact ⟨b,l,e,r.mono hK⟩
 | .own _ _,_,hp,_,_=>by simp [bm] at hp
 | .agg _,_,hp,hr,h=>by
   simp only [bm] at hp
   simp only [aw] at hr
   simp only [ah] at h ⊢
   obtain ⟨vs,e,r⟩:=h
   exact ⟨vs,e,kJ hK hs hp hr r⟩
 | .kP _,_,hp,_,_=>by simp [bm] at hp
 | .aN _ _,_,hp,_,_=>by simp [bm] at hp
 | .ek _,_,hp,_,_=>by simp [bm] at hp
theorem kJ {ρ:bh} {G G':Gh} {n:Nat} (hK:G.K.le G'.K) (hs:∀s b,s<n→G.sm s=some b→G'.sm s=some b):∀{xs:List AV} {vs:List Value},bm.gC xs=true→aw.bG n xs=true→ae ρ G xs vs→ae ρ G' xs vs
 | [],_,_,_,h=>by simpa only [ae] using h
 | x::xs,_,hp,hr,h=>by
   simp only [bm.gC,Bool.and_eq_true] at hp
   simp only [aw.bG,Bool.and_eq_true] at hr
   simp only [ae] at h ⊢
   obtain ⟨v,r,e,e1,e2⟩:=h
   exact ⟨v,r,e,m8 hK hs hp.1 hr.1 e1,kJ hK hs hp.2 hr.2 e2⟩
end
section
variable {P:Program} {ns:Names} {G:Gh} {w:World}
theorem m9 {ρ:bh} {G':Gh} {n:Nat} (hK:G.K.le G'.K) (hs:∀s b,s<n→G.sm s=some b→G'.sm s=some b) (ht:∀τ t,G.tk τ=some t→G'.tk τ=some t):∀{xs:List AV} {vs:List Value},dt xs=true→aw.bG n xs=true→ae ρ G xs vs→ae ρ G' xs vs
 | [],_,_,_,h=>by simpa only [ae] using h
 | x::xs,_,hp,hr,h=>by
   simp only [dt,Bool.and_eq_true] at hp
   simp only [aw.bG,Bool.and_eq_true] at hr
   simp only [ae] at h ⊢
   obtain ⟨v,r,e,e1,e2⟩:=h
   refine ⟨v,r,e,?_,m9 hK hs ht hp.2 hr.2 e2⟩
   cases x with
   | own l τ=>
     simp only [ah] at e1 ⊢
     obtain ⟨t,a1,a2,a3,a4⟩:=e1
     exact ⟨t,ht _ _ a1,a2,a3.mono hK,fun hl=>⟨(a4 hl).1,Ct (a4 hl).2 fun ⟨b,o,e,r⟩=>⟨b,o,e,Row.mono hK _ _ _ _ r⟩⟩⟩
   | _=>exact m8 hK hs (show bm _=true from hp.1) hr.1 e1
theorem zt {ρ:bh} {G':Gh} {n:Nat} (hK:G.K.le G'.K) (hs:∀s b,s<n→G.sm s=some b→G'.sm s=some b) (ht:∀τ t,G.tk τ=some t→G'.tk τ=some t) {x:AV} {v:Value} (hp:bg x=true) (hr:aw n x=true) (h:ah ρ G x v):ah ρ G' x v:=by
 cases x with
 | own l τ=>
   simp only [ah] at h ⊢
   obtain ⟨t,e1,e2,e3,e4⟩:=h
   exact ⟨t,ht _ _ e1,e2,e3.mono hK,fun hl=>⟨(e4 hl).1,Ct (e4 hl).2 fun ⟨b,o,e,r⟩=>⟨b,o,e,Row.mono hK _ _ _ _ r⟩⟩⟩
 | agg cs=>
   simp only [aw] at hr
   simp only [ah] at h ⊢
   obtain ⟨vs,e,r⟩:=h
   exact ⟨vs,e,m9 hK hs ht (by simpa [bg] using hp) hr r⟩
 | _=>exact m8 hK hs (show bm _=true from hp) hr h
theorem jv {ρ:bh} {G':Gh} {n:Nat} (hK:G.K.le G'.K) (hs:∀s b,s<n→G.sm s=some b→G'.sm s=some b) (ht:∀τ t,G.tk τ=some t→G'.tk τ=some t):∀{xs:List AV} {vs:List Value},xs.all bg=true→xs.all (aw n)=true→ae ρ G xs vs→ae ρ G' xs vs
 | [],_,_,_,h=>by simpa only [ae] using h
 | x::xs,_,hp,hr,h=>by
   simp only [List.all_cons,Bool.and_eq_true] at hp hr
   simp only [ae] at h ⊢
   obtain ⟨v,r,e,e1,e2⟩:=h
   exact ⟨v,r,e,zt hK hs ht hp.1 hr.1 e1,jv hK hs ht hp.2 hr.2 e2⟩
def Gh.bare (G:Gh):Gh:={ G with pm:=fun _=>none,role:=fun b=>match G.role b with | .ic _=>.cS | r=>r }
theorem Inv.bare {mem:List (Nat×List AV)} {sh:Sh} {ts:aq} (hi:Inv (num ns) G w mem sh ts):Inv (num ns) G.bare w [] sh ts where
 known:=hi.known
 aI:=fun b o v hk=>by
   rcases hi.aI b o v hk with h | ⟨τ,h⟩
   · exact .inl (by simp [Gh.bare,h])
   · exact .inr ⟨τ,by simp [Gh.bare,h]⟩
 fresh:=fun b hb=>by simp [Gh.bare,hi.fresh b hb]
 bT:=fun d cells h=>by simp [look] at h
 ep:=fun d b h=>by simp [Gh.bare] at h
 cr:=fun s cells hs=>by
   obtain ⟨b,e1,e2,e3,e4⟩:=hi.cr s cells hs
   obtain ⟨hr,o,hh,hrel⟩:=e2
   exact ⟨b,e1,⟨by simp [Gh.bare,hr],o,hh,hrel.to (fun _ _ _ h=>h) (fun _ e=>e) (fun _ r=>fG (G:=G) (G':=G.bare) (aU.le_refl _) (fun _ _ h=>h) (fun _ _ h=>h) (e9 e3) r)⟩,e3,e4⟩
 cV:=hi.cV
 cq:=fun τ n h=>by
   obtain ⟨t,e1,e2,e3⟩:=hi.cq τ n h
   refine ⟨t,e1,e2,e3.cap,e3.zero,fun hlt=>?_⟩
   obtain ⟨b,o,c,ty,f1,f2,f3,f4,f5⟩:=e3.spare hlt
   exact ⟨b,o,c,ty,f1,by simp [Gh.bare,f2],f3,f4,f5⟩
 dy:=hi.dy
 i3:=fun b c hb=>⟨by simp [Gh.bare,(hi.i3 b c hb).1],(hi.i3 b c hb).2⟩
def Gh.i7 (G:Gh) (n:Nat):Gh:={ G with sm:=fun s=>if s<n then G.sm s else none }
theorem Inv.i7 {sh:Sh} {ts:aq} (hi:Inv (num ns) G w [] sh ts) (n:Nat):Inv (num ns) (G.i7 n) w [] (sh.take n) ts where
 known:=hi.known
 aI:=hi.aI
 fresh:=hi.fresh
 bT:=fun d cells h=>by simp [look] at h
 ep:=hi.ep
 cr:=fun s cells hs=>by
   rw [List.getElem?_take] at hs
   split at hs
   · rename_i hlt
     obtain ⟨b,e1,e2,e3,e4⟩:=hi.cr s cells hs
     obtain ⟨hr,o,hh,hrel⟩:=e2
     exact ⟨b,by simp [Gh.i7,hlt,e1],⟨hr,o,hh,hrel.to (fun _ _ _ h=>h) (fun _ e=>e) (fun _ r=>jv (G:=G) (G':=G.i7 n) (n:=s+1) (aU.le_refl G.K) (fun s' b' hs' h=>by simp only [Gh.i7];rw [if_pos (by omega)];exact h) (fun _ _ h=>h) (e9 e3) e4 r)⟩,e3,e4⟩
   · simp at hs
 cV:=fun s b h=>by
   simp only [Gh.i7] at h
   split at h
   · have:=hi.cV s b h;simp;omega
   · simp at h
 cq:=fun τ n h=>by
   obtain ⟨t,e1,e2,e3⟩:=hi.cq τ n h
   exact ⟨t,e1,e2,e3.cap,e3.zero,e3.spare⟩
 dy:=hi.dy
 i3:=hi.i3
theorem Inv.shut {mem:List (Nat×List AV)} {sh:Sh} {aa:aq} {D:Nat} {x:Option (List Deferred)} (hi:Inv (num ns) G w mem sh aa) (hD:w.heap[D]?=some (.deferred x)) :
   Inv (num ns) G (w.putObj D (.deferred none)) mem sh aa:=by
 have hne:∀{b:Nat} {c:Array Value} {t:TypeId},w.heap[b]?=some (.cells c t (0,0))→(w.putObj D (.deferred none)).heap[b]?=some (.cells c t (0,0)):=by
   intro b c t h
   rw [World.putObj_heap_other]
   · exact h
   · rintro rfl;rw [hD] at h;cases h
 have hsize:(w.putObj D (.deferred none)).heap.size=w.heap.size:=by simp [World.putObj]
 refine { hi with known:=?_,fresh:=?_,bT:=?_,cr:=?_,cq:=?_,i3:=?_ }
 · intro b o v hk
   have h:=hi.known b o v hk
   rw [←h]
   have:b≠D:=by rintro rfl;simp [World.cell?,hD] at h
   simp only [World.cell?,World.putObj_heap_other this]
 · intro b hb;exact hi.fresh b (by omega)
 · intro k cs hk
   obtain ⟨b,e1,⟨e2,c,t,e3,e4⟩,e5⟩:=hi.bT k cs hk
   exact ⟨b,e1,⟨e2,c,t,hne e3,e4⟩,e5⟩
 · intro k cs hk
   obtain ⟨b,e1,⟨e2,o,e3,e4⟩,e5⟩:=hi.cr k cs hk
   refine ⟨b,e1,⟨e2,o,?_,e4⟩,e5⟩
   rw [World.putObj_heap_other]
   · exact e3
   · rintro rfl
     rw [hD] at e3;cases e3
     rcases e4 with ⟨_,_,_,_,h,_⟩ | ⟨_,_,_,h,_⟩<;>cases h
 · intro τ n hn
   obtain ⟨t,e1,e2,e3⟩:=hi.cq τ n hn
   refine ⟨t,e1,e2,e3.cap,e3.zero,fun hlt=>?_⟩
   obtain ⟨b,o,c,ty,f1,f2,f3,f4,f5⟩:=e3.spare hlt
   exact ⟨b,o,c,ty,f1,f2,hne f3,f4,f5⟩
 · intro b c hb
   obtain ⟨h1,t',z,h2⟩:=hi.i3 b c hb
   refine ⟨h1,t',z,?_⟩
   rw [World.putObj_heap_other]
   · exact h2
   · rintro rfl;rw [hD] at h2;cases h2
theorem bf.shut {G':Gh} {w':World} {D:Nat} (he:bf G w G' w') (hD:w.heap.size≤D):bf G w G' (w'.putObj D (.deferred none)):=
 { he with
   size:=by simpa [World.putObj] using he.size
   os:=by simpa [World.putObj] using he.os
   tape:=by simpa [World.putObj] using he.tape
   output:=by simpa [World.putObj] using he.output
   cS:=fun b hb hr=>by
     obtain ⟨h1,h2⟩:=he.cS b hb hr
     exact ⟨h1,by rw [World.putObj_heap_other (by omega)];exact h2⟩ }
theorem lH {fn:Func} {tmps:Array Value} {R:Ending→World→Prop} {mem:List (Nat×List AV)} {sh:Sh} {aa:aq} {G':Gh}:∀(Ds:List Nat) (w':World),Inv (num ns) G' w' mem sh aa→bf G w G' w'→Ds.Nodup →
   (∀D∈Ds,w.heap.size≤D∧w'.heap[D]?=some (.deferred (some []))) →
   (∀w'',Inv (num ns) G' w'' mem sh aa→bf G w G' w''→∃v,(results fn tmps).run P w''=.ok v w''∧R (.returned v) w'') →
   LeavesInM Fence.wide 0 P fn tmps R (Ds.map (fun D=>{ target:=.collected D,args:=#[] })) .returning w'
 | [],w',hi,he,_,_,h=>h w' hi he
 | D::Ds,w',hi,he,hn,hD,h=>by
   obtain ⟨h1,h2⟩:=hD D (by simp)
   refine ⟨by simp,.inl ⟨D,_,rfl,run_takeDeferred h2,?_⟩⟩
   simp only [List.nodup_cons] at hn
   refine lH Ds _ (hi.shut h2) (he.shut h1) hn.2 (fun E hE=>?_) h
   obtain ⟨g1,g2⟩:=hD E (by simp [hE])
   refine ⟨g1,?_⟩
   rw [World.putObj_heap_other]
   · exact g2
   · rintro rfl;exact hn.1 hE
theorem m_ (hm:P.follows .mixedOrders=true) (hB:eT P ns) (hBk:l4 P ns) {orc:dr} (horc:fE P ns orc) {A:gJ} {k f:Nat} {aF:Bool} {fn:Func} {af:aB} (hf:P.funcs[f]?=some fn) (hc:kS P ns A fn=some af)
   {args rs:List AV} {vs:List Value} {sh sh':Sh} {ts ts':aq} (hi:Inv (num ns) G w [] sh ts) (hr:ae (num ns) G args vs) (hN:args.length≤af.ntmps) (h:bq orc k aF af args sh ts=some (rs,sh',ts')) :
   (Calls P f vs.toArray w fun e w'=>∃v G',e=.returned v∧bR (num ns) G' rs v∧Inv (num ns) G' w' [] sh' ts'∧bf G w G' w')∧rs.all bg=true:=by
 unfold kS at hc
 split at hc
 · rename_i c ars wF e6
   simp only [Option.ite_none_right_eq_some,Option.map_eq_some_iff] at hc
   obtain ⟨_,ac,hcc,rfl⟩:=hc
   unfold bq at h
   split at h
   · rename_i e st hev
     simp only [Option.ite_none_right_eq_some] at h
     obtain ⟨he,h⟩:=h
     split at h
     · rename_i xs hxs
       simp only [Option.ite_none_right_eq_some] at h
       obtain ⟨hpass,h⟩:=h
       let kst:=A.ks
       let shk:Sh:=de aF kst st.sh xs
       let DP:Sh:=if (bB aF kst st.sh xs).all (aw sh.length)=true then shk.take sh.length else shk
       have h:some ((bQ st.aa (bB aF kst st.sh xs) DP).1,(bQ st.aa (bB aF kst st.sh xs) DP).2.1,(bQ st.aa (bB aF kst st.sh xs) DP).2.2.2)=some (rs,sh',ts'):=h
       simp only [Option.some.injEq,Prod.mk.injEq] at h
       obtain ⟨Hf,hsh,hts⟩:=h
       have hpass':rs.all bg=true:=by rw [←Hf];exact eN hpass
       refine ⟨?_,hpass'⟩
       refine callsIn_wide (n:=0).1 (callsIn_of_wp_marks hf wF trivial ?_ rfl)
       have hs0:eG (num ns) w.heap.size fn.ntmps G { env:=bp 0 args,mem:=[],sh,aa:=ts } { tmps:=vs.toArray++Array.replicate (fn.ntmps-vs.toArray.size) undef,defers:=[] } w:=⟨By hr hN,hi,Nat.le_refl _,[],rfl,by simp,by simp⟩
       refine fc (ro:=none) hm hB horc hBk hcc (.inl rfl) hev hs0 fun G' a' w1 hs1 hevo1=>?_
       have key:LeavesInM Fence.wide 0 P fn a'.tmps (fun e w'=>∃v G',e=.returned v∧bR (num ns) G' rs v∧Inv (num ns) G' w' [] sh' ts'∧bf G w G' w') a'.defers .returning w1:=by
         obtain ⟨m0,Ds,m1,m2,m3⟩:=hs1.marks
         rw [m1]
         refine lH Ds w1 hs1.inv hevo1 m2 (fun D hD=>⟨(m3 D hD).1,(m3 D hD).2.2.2⟩) ?_
         intro w' hi' hevo
         have hs':eG (num ns) w.heap.size fn.ntmps G' st { tmps:=a'.tmps,defers:=[] } w':=⟨⟨hs1.env.size,hs1.env.env⟩,hi',hevo.size,[],rfl,by simp,by simp⟩
         obtain ⟨us,u1,u2⟩:=lG (P:=P) hs' (F:=fun | .tmp t=>pure (a'.tmps.getD t undef) | .cell ad t=>do loadVar t (←asAddr (a'.tmps.getD ad undef))) (fun _=>rfl) (fun _ _=>rfl) e6 hxs
         refine ⟨(if h:us.toArray.size=1 then us.toArray[0] else .tuple us.toArray),?_,?_⟩
         · unfold results
           rw [Array.mapM_eq_mapM_toList]
           simp only [Sem.run_bind,Sem.run_map]
           erw [u1]
           rfl
         · obtain ⟨G1,k1,k2,k3,hout⟩:∃G1,Inv (num ns) G1 w' st.mem shk st.aa∧G'.le G1∧bf G' w' G1 w'∧ae (num ns) G1 (bB aF kst st.sh xs) us:=by
             by_cases hkk:(aF && kst)=true
             · refine ⟨G',?_,Gh.le_refl _,bf.refl _ _,?_⟩
               · have:shk=st.sh:=by simp only [shk,de,hkk,if_true]
                 rw [this];exact hs'.inv
               · have:bB aF kst st.sh xs=xs:=by
                   simp only [Bool.and_eq_true] at hkk
                   simp only [bB,hkk.1,hkk.2,if_true]
                 rw [this];exact u2
             · obtain ⟨G1,k1,k2,k3,k4,k5⟩:=Inv.kill (xs.flatMap dj) hs'.inv
               refine ⟨G1,?_,k2,k3,vH (aF:=aF) k2 k4 hs'.inv.mB (fun s hs=>hs) u2⟩
               have:shk=ck st.sh xs:=by
                 simp only [shk,de]
                 rw [if_neg hkk]
               rw [this];exact k1
           have hbare:=fG (G:=G1) (G':=G1.bare) (aU.le_refl _) (fun _ _ h=>h) (fun _ _ h=>h) hpass hout
           have k1b:=k1.bare
           have hevo0:=hevo.trans k3
           obtain ⟨G2,i2,r2,e2⟩:∃G2,Inv (num ns) G2 w' [] DP st.aa∧ae (num ns) G2 (bB aF kst st.sh xs) us∧bf G w G2 w':=by
             have bareEvo:bf G w G1.bare w':={
               size:=hevo0.size,os:=hevo0.os,tape:=hevo0.tape,output:=hevo0.output,K:=hevo0.K,sm:=hevo0.sm,
               cS:=fun b hb hr=>⟨by simp [Gh.bare,(hevo0.cS b hb hr).1],(hevo0.cS b hb hr).2⟩
               eS:=fun b τ hb hr=>by
                 rcases hevo0.eS b τ hb hr with h | ⟨τ',h⟩
                 · exact .inl (by simp [Gh.bare,h])
                 · exact .inr ⟨τ',by simp [Gh.bare,h]⟩
               d_:=hevo0.d_ }
             by_cases href:(bB aF kst st.sh xs).all (aw sh.length)=true
             · have hshd:DP=shk.take sh.length:=if_pos href
               rw [hshd]
               refine ⟨G1.bare.i7 sh.length,k1b.i7 sh.length,jv (G:=G1.bare) (G':=G1.bare.i7 sh.length) (n:=sh.length) (aU.le_refl _) (fun s b hs h=>by simp only [Gh.i7];rw [if_pos hs];exact h) (fun _ _ h=>h) hpass href hbare,?_⟩
               exact { size:=bareEvo.size,os:=bareEvo.os,tape:=bareEvo.tape,output:=bareEvo.output,K:=bareEvo.K,
                       sm:=fun s b hsb=>by
                         have:=hi.cV s b hsb
                         show (if s<sh.length then G1.sm s else none)=some b
                         rw [if_pos this];exact bareEvo.sm s b hsb
                       cS:=bareEvo.cS,eS:=bareEvo.eS,d_:=bareEvo.d_ }
             · have hshd:DP=shk:=if_neg href
               rw [hshd]
               exact ⟨G1.bare,k1b,hbare,bareEvo⟩
           obtain ⟨m,tks,hNS,hto,hrel⟩:=i2.z7 hpass r2
           rw [Hf] at hrel
           rw [hsh,hts] at hto
           exact ⟨_,G2.to m tks,rfl,vJ hrel,hto,e2.to m tks⟩
       cases e with
       | normal=>exact key
       | ret=>exact key
       | exit id=>simp at he
     · simp at h
   · simp at h
 · simp at hc
theorem nW {orc:dr} {k:Nat} {aF:Bool} {af:aB} {args rs:List AV} {sh sh':Sh} {ts ts':aq} (h:bq orc k aF af args sh ts=some (rs,sh',ts')):rs.all bg=true:=by
 unfold bq at h
 split at h
 · split at h
   · split at h
     · simp only [Option.ite_none_right_eq_some] at h
       obtain ⟨hp,h⟩:=h
       have e:=congrArg Prod.fst (Option.some.inj h)
       dsimp only at e
       rw [←e];exact eN hp
     · simp at h
   · simp at h
 · simp at h
structure Impl (P:Program) (ns:Names) (AP:Nat→Option aB):Prop where
 mixed:P.follows .mixedOrders=true
 funcs:∀f g,ns.of f=some g→(∃fn A af,P.funcs[f]?=some fn∧kS P ns A fn=some af∧AP g=some af) ∨
   ((∃fn b,P.funcs[f]?=some fn∧fn.body=some b∧fn.name ≠ "runtime.NumGoroutine") ∧
     (AP g=none∨∃af pf,AP g=some af∧af.km=some pf∧af.body=.exit 0∧∀orc,fE P ns orc→∀bZ rs,pf.f orc.p bZ=some rs→qU P ns f bZ rs))
 zZ:l4 P ns
 EN:∀g sz bytes f,look ns.cl g=some (sz,bytes)→ns.of f=some g→Nonempty (mZ P ns f sz bytes)
theorem Impl.BB {AP:Nat→Option aB} (h:Impl P ns AP):eT P ns:=by
 intro f g hg
 rcases h.funcs f g hg with ⟨fn,A,af,h1,h2,_⟩ | ⟨⟨fn,b,h1,h2,h3⟩,_⟩
 · unfold kS at h2
   split at h2
   · rename_i b rs hb _
     simp only [Option.ite_none_right_eq_some] at h2
     obtain ⟨⟨_,hn⟩,_⟩:=h2
     exact ⟨fn,b,h1,hb,by simpa using hn⟩
   · simp at h2
 · exact ⟨fn,b,h1,h2,h3⟩
theorem vK {A:gJ} {fn:Func} {af:aB} (h:kS P ns A fn=some af):af.km=none:=by
 unfold kS at h
 split at h
 · simp only [Option.ite_none_right_eq_some,Option.map_eq_some_iff] at h
   obtain ⟨_,_,_,rfl⟩:=h
   rfl
 · simp at h
theorem na:∀{rs:List AV} {ps:List PV},dQ rs=some ps→rs=ps.map .pv
 | [],ps,h=>by simp [dQ] at h;subst h;rfl
 | x::rs,ps,h=>by
   cases x with
   | pv p=>
     simp only [dQ,Option.map_eq_some_iff] at h
     obtain ⟨qs,h1,rfl⟩:=h
     simp [na h1]
   | _=>simp [dQ] at h
theorem lI:∀{ps:List PV} {vs:List Value},ae (num ns) G (ps.map .pv) vs→fW G.K ps vs
 | [],vs,h=>by simp only [List.map_nil,ae] at h;exact h
 | p::ps,vs,h=>by
   simp only [List.map_cons,ae] at h
   obtain ⟨v,r,e,e1,e2⟩:=h
   simp only [ah] at e1
   exact ⟨v,r,e,e1,lI e2⟩
theorem zu {ps:List PV} {v:Value} (h:bR (num ns) G (ps.map .pv) v):fD G.K ps v:=by
 unfold fD
 split
 · rename_i p
   simp only [List.map_cons,List.map_nil,bR,ah] at h
   exact h
 · rename_i hn
   unfold bR at h
   split at h
   · rename_i r e
     cases ps with
     | nil=>simp at e
     | cons q qs=>
       cases qs with
       | nil=>exact absurd rfl (hn q)
       | cons _ _=>simp at e
   · obtain ⟨vs,e,h⟩:=h
     exact ⟨vs,e,lI h⟩
theorem oO {AP:Nat→Option aB} (hI:Impl P ns AP) (k:Nat):∀n,fE P ns (run AP k n)
 | 0=>⟨fun g f bZ rs _ h=>by simp [run] at h,fun g f args ts rs sh sh' ts' _ _ h=>by simp [run] at h,fun g sz by_ f h1 h2=>(hI.EN g sz by_ f h1 h2).elim sA⟩
 | n+1=>by
   have ih:=oO hI k n
   refine ⟨fun g f bZ rs hg h=>?_,fun g f args ts rs sh sh' ts' hg hp h=>?_,ih.c⟩
   · rcases hI.funcs f g hg with ⟨fn,A,af,h1,h2,h3⟩ | ⟨_,h3 | ⟨af,pf,h3,h4,_,h5⟩⟩
     · simp only [run,h3,vK h2,Option.ite_none_right_eq_some] at h
       obtain ⟨⟨_,hN⟩,h⟩:=h
       split at h
       · rename_i xs x2 hb
         obtain ⟨sh',ts'⟩:=x2
         have hxs:=na h
         subst hxs
         intro K w vs hpin hK hr
         let G0:Gh:={ K,role:=fun _=>.cS,pm:=fun _=>none,sm:=fun _=>none,tk:=fun _=>none }
         have hi:Inv (num ns) G0 w [] [] []:={
           known:=hK,aI:=fun _ _ _ _=>.inl rfl,fresh:=fun _ _=>rfl,bT:=fun d c h=>by simp [look] at h,ep:=fun d b h=>by simp [G0] at h,
           cr:=fun s c h=>by simp at h,cV:=fun s b h=>by simp [G0] at h,cq:=fun τ n h=>by simp at h,dy:=fun τ t h=>by simp [G0] at h,i3:=fun b c hb=>⟨rfl,hpin b c hb⟩ }
         have hC:=(m_ hI.mixed hI.BB hI.zZ ih h1 h2 hi (dV (ρ:=num ns) (G:=G0) hr) (by simpa using hN) hb).1
         refine hC.mono ?_
         rintro e w' ⟨v,G',rfl,e6,hi',hevo⟩
         refine ⟨v,G'.K,rfl,zu e6,hevo.K,fun b o u hb hk=>hevo.d_ b o u hb rfl hk,hi'.known,⟨hevo.os,hevo.tape,hevo.output,hevo.size,fun b hb=>(hevo.cS b hb rfl).2⟩⟩
       · simp at h
     · simp only [run,h3] at h;cases h
     · simp only [run,h3,h4] at h
       exact h5 _ ih _ _ h
   · rcases hI.funcs f g hg with ⟨fn,A,af,h1,h2,h3⟩ | ⟨_,h3 | ⟨af,pf,h3,_,h4,_⟩⟩
     · simp only [run,h3,Option.ite_none_right_eq_some] at h
       obtain ⟨hN,h⟩:=h
       exact ⟨fun G w vs hi hr=>(m_ hI.mixed hI.BB hI.zZ ih h1 h2 hi hr hN h).1,nW h⟩
     · simp only [run,h3] at h;cases h
     · simp only [run,h3,Option.ite_none_right_eq_some] at h
       obtain ⟨_,h⟩:=h
       unfold bq at h
       rw [h4] at h
       simp [bM] at h
end
end Go.Ab
namespace Go.Ab
def BC (fn:Func):Code:=match fn.body with | some c=>c | none=>.skip
end Go.Ab
namespace Go.Ab
open Go.ChangeShapes Go.WideShapes Go.ChangeAt Go.RowKit
def KW (w:World):aU:=fun b o=>w.cell? ⟨b,o,none⟩
theorem FQ (w:World):Ej (KW w) w:=fun _ _ _ h=>h
def Dd (S:TypeId→PV→Prop):List Field→List PV→Prop
 | [],[]=>True
 | f::fs,p::ps=>S f.type p∧Dd S fs ps
 | _,_=>False
def oP (P:Program):Nat→TypeId→PV→Prop
 | 0,_,_=>False
 | n+1,t,p=>match P.underlying t with
   | some .bool=>∃b,p=.bool b
   | some (.int k)=>∃i,p=.int k i∧(Lit.int k i).wf=true
   | some .string=>∃s,p=.str s∧s.length≤maxLen
   | some (.slice e)=>∃els,p=.aE els∧els.length≤maxLen∧∀q∈els,oP P n e q
   | some (.struct fs)=>∃ps:List PV,p=.agg (ps.flatMap aL)∧Dd (oP P n) fs.toList ps
   | _=>False
def BD (P:Program):Nat→List Field→Nat→Bool
 | o,[],total=>o == total
 | o,f::fs,total=>f.offset == o && BD P (o+P.cellsOf f.type) fs total
def wG (P:Program) (T:List TypeId):Bool:=T.all fun t=>match P.underlying t with
 | some .bool | some (.int _) | some .string=>true
 | some (.slice e)=>T.contains e && decide (0<P.cellsOf e)
 | some (.struct fs)=>fs.toList.all (fun f=>T.contains f.type) && BD P 0 fs.toList (P.cellsOf t)
 | _=>false
section
variable {H:Type} {enc:TypeId×Value→H} {P:Program} {w:World} {base:Nat} {sp:Nat→Bool} {held:Bool}
theorem sE {α β:Type} {f:α→Option β}:∀{l:List α} {r:List β},l.mapM f=some r→∀{i:Nat} {x:α},l[i]?=some x→∃y,r[i]?=some y∧f x=some y
 | [],_,_,i,x,hx=>by simp at hx
 | a::l,r,h,i,x,hx=>by
   simp only [List.mapM_cons,Option.bind_eq_bind,Option.bind_eq_some_iff,Option.pure_def,Option.some.injEq] at h
   obtain ⟨y,h1,ys,h2,rfl⟩:=h
   cases i with
   | zero=>simp at hx;subst hx;exact ⟨y,by simp,h1⟩
   | succ i=>simpa using sE h2 (i:=i) (by simpa using hx)
theorem sF {α β:Type} {f:α→Option β}:∀{l:List α} {r:List β},l.mapM f=some r→r.length=l.length
 | [],r,h=>by simp at h;subst h;rfl
 | a::l,r,h=>by
   simp only [List.mapM_cons,Option.bind_eq_bind,Option.bind_eq_some_iff,Option.pure_def,Option.some.injEq] at h
   obtain ⟨y,h1,ys,h2,rfl⟩:=h
   simp [sF h2]
theorem zw {a:Addr} {n:Nat} {cs:List Value} (hn:0<n) (h:w.cells? base a n=some cs):cs.length=n∧a.spot=none∧At (KW w) a.block a.off cs:=by
 unfold World.cells? at h
 split at h
 · have hl:cs.length=n:=by simpa using sF h
   have key:∀i,i<n→∃y,cs[i]?=some y∧w.cell? (a.add i)=some y:=by
     intro i hi
     exact sE h (i:=i) (x:=i) (by simp [hi])
   obtain ⟨y0,_,h0⟩:=key 0 hn
   have hspot:a.spot=none:=by
     cases hsp:a.spot with
     | none=>rfl
     | some s=>
       simp only [Addr.add,if_true,World.cell?] at h0
       split at h0
       · simp [hsp] at h0
       · cases h0
   refine ⟨hl,hspot,?_⟩
   intro j v hj
   have hjn:j<n:=by have:=(List.getElem?_eq_some_iff.1 hj).1;omega
   have e:a.add j=⟨a.block,a.off+j,none⟩:=by
     unfold Addr.add
     split
     · rename_i h0
       subst h0
       cases a
       simp_all
     · rfl
   obtain ⟨y,h1,h2⟩:=key j hjn
   rw [e] at h2
   rw [hj] at h1
   cases h1
   exact h2
 · cases h
theorem wH {K:aU} {S:PV→Prop} {b sz:Nat}:∀{n:Nat} {o:Nat},(∀i,i<n→∃vs q,vs.length=sz∧At K b (o+i*sz) vs∧S q∧R K true q vs)→∃els:List PV,els.length=n∧(∀q∈els,S q)∧Row K b o sz els
 | 0,o,_=>⟨[],rfl,by simp,by simp only [Row]⟩
 | n+1,o,h=>by
   obtain ⟨vs,q,h1,h2,h3,h4⟩:=h 0 (by omega)
   obtain ⟨els,e1,e2,e3⟩:=wH (K:=K) (S:=S) (b:=b) (sz:=sz) (n:=n) (o:=o+sz) fun i hi=>by
     obtain ⟨vs,q,h1,h2,h3,h4⟩:=h (i+1) (by omega)
     refine ⟨vs,q,h1,?_,h3,h4⟩
     rwa [show o+sz+i*sz=o+(i+1)*sz from by rw [Nat.add_mul];omega]
   refine ⟨q::els,by simp [e1],?_,?_⟩
   · intro x hx
     simp only [List.mem_cons] at hx
     rcases hx with rfl | hx
     · exact h3
     · exact e2 x hx
   · simp only [Row]
     exact ⟨⟨vs,h1,by simpa using h2,h4⟩,e3⟩
theorem oQ {K:aU} {S:TypeId→PV→Prop} {cs:List Value}:∀{fs:List Field} {o total:Nat},BD P o fs total=true→cs.length=total →
   (∀f∈fs,∃q,S f.type q∧R K true q ((cs.drop f.offset).take (P.cellsOf f.type)))→∃ps:List PV,Dd S fs ps∧cx K (ps.flatMap aL) (cs.drop o)
 | [],o,total,hl,hc,_=>⟨[],by simp [Dd],by
     simp [BD] at hl
     simp [cx];omega⟩
 | f::fs,o,total,hl,hc,h=>by
   simp only [BD,Bool.and_eq_true,beq_iff_eq] at hl
   obtain ⟨hf,hl⟩:=hl
   obtain ⟨q,h1,h2⟩:=h f (by simp)
   obtain ⟨ps,e1,e2⟩:=oQ (K:=K) (S:=S) (cs:=cs) hl hc (fun f' hf'=>h f' (by simp [hf']))
   refine ⟨q::ps,⟨h1,e1⟩,?_⟩
   simp only [List.flatMap_cons]
   have:=(R.cells h2).append e2
   rw [hf] at this
   rwa [←List.drop_drop,List.take_append_drop] at this
theorem nc {T:List TypeId} (hT:wG P T=true):∀(n:Nat) (t:TypeId) (cs:List Value) (x:DataW H×List MemPlace),t∈T →
   DataW.trod enc P w base sp held n t cs=some x→∃p,oP P n t p∧R (KW w) true p cs
 | 0,t,cs,x,_,h=>by simp [DataW.trod] at h
 | n+1,t,cs,x,ht,h=>by
   have hp:=List.all_eq_true.1 hT t ht
   simp only [oP]
   split at hp
   · rename_i hu
     obtain ⟨b,rfl,_⟩:=DataW.trod_bool hu h
     exact ⟨.bool b,by exact ⟨b,rfl⟩,by simp [R]⟩
   · rename_i k hu
     obtain ⟨i,rfl,_,hw⟩:=DataW.trod_int hu h
     exact ⟨.int k i,by exact ⟨i,rfl,hw⟩,by simp [R]⟩
   · rename_i hu
     obtain ⟨s,rfl,_,hl⟩:=DataW.trod_string hu h
     exact ⟨.str s.data.toList,by exact ⟨_,rfl,by simpa using hl⟩,by simp [R]⟩
   · rename_i e hu
     simp only [Bool.and_eq_true,List.contains_iff_mem,decide_eq_true_eq] at hp
     rcases DataW.trod_slice hu h with ⟨rfl,_⟩ | ⟨a,len,cap,elems,rest,m,e0,rfl,_,_,hlen,hcap,hel,hget,_,_⟩
     · exact ⟨.aE [],by exact ⟨[],rfl,by simp,by simp⟩,by simp only [R];exact ⟨none,0,0,rfl,Nat.le_refl _,rfl,.inl trivial⟩⟩
     · have hm:m=n:=by omega
       subst hm
       by_cases h0:len=0
       · subst h0
         exact ⟨.aE [],by exact ⟨[],rfl,by simp,by simp⟩,by simp only [R];exact ⟨some a,0,cap,rfl,hlen,rfl,.inl trivial⟩⟩
       · have key:∀i,i<len→∃vs q,vs.length=P.cellsOf e∧(a.add (i*P.cellsOf e)).spot=none∧At (KW w) (a.add (i*P.cellsOf e)).block (a.add (i*P.cellsOf e)).off vs∧oP P m e q∧R (KW w) true q vs:=by
           intro i hi
           have hg:=hget i hi
           rw [List.getElem?_eq_getElem (by omega)] at hg
           simp only [Option.bind_eq_some_iff] at hg
           obtain ⟨vs,h1,h2⟩:=hg
           obtain ⟨c1,c2,c3⟩:=zw hp.2 h1
           obtain ⟨q,q1,q2⟩:=nc hT m e vs _ hp.1 h2
           exact ⟨vs,q,c1,c2,c3,q1,q2⟩
         have hspot:a.spot=none:=by
           obtain ⟨_,_,_,h2,_⟩:=key 0 (by omega)
           simpa [Addr.add] using h2
         obtain ⟨els,e1,e2,e3⟩:=wH (K:=KW w) (S:=oP P m e) (b:=a.block) (sz:=P.cellsOf e) (n:=len) (o:=a.off) fun i hi=>by
           obtain ⟨vs,q,c1,c2,c3,q1,q2⟩:=key i hi
           refine ⟨vs,q,c1,?_,q1,q2⟩
           have:(a.add (i*P.cellsOf e)).block=a.block∧(a.add (i*P.cellsOf e)).off=a.off+i*P.cellsOf e:=by
             unfold Addr.add
             split
             · rename_i h0;simp [h0]
             · exact ⟨rfl,rfl⟩
           rwa [this.1,this.2] at c3
         refine ⟨.aE els,by exact ⟨els,rfl,by omega,e2⟩,?_⟩
         simp only [R]
         refine ⟨some a,len,cap,rfl,hlen,e1,.inr ⟨a.block,a.off,P.cellsOf e,?_,e3⟩⟩
         cases a;simp_all
   · rename_i fs hu
     simp only [Bool.and_eq_true,List.all_eq_true,List.contains_iff_mem] at hp
     obtain ⟨xs,m,e0,_,hcs,hxs,hget⟩:=DataW.trod_struct hu h
     have hm:m=n:=by omega
     subst hm
     obtain ⟨ps,e1,e2⟩:=oQ (K:=KW w) (S:=oP P m) (cs:=cs) hp.2 hcs fun f hf=>by
       obtain ⟨i,hi,Hz⟩:=List.getElem_of_mem hf
       have hg:=hget i f (by rw [←Array.getElem?_toList];rw [List.getElem?_eq_getElem hi,Hz])
       rw [List.getElem?_eq_getElem (by simp at hi;omega)] at hg
       exact nc hT m f.type _ _ (hp.1 f hf) hg
     refine ⟨.agg (ps.flatMap aL),by exact ⟨ps,rfl,e1⟩,?_⟩
     simp only [R]
     exact ⟨trivial,by simpa using e2⟩
   · cases hp
theorem De {T:List TypeId} (hT:wG P T=true) {t:TypeId} {v:Value} {d:DataW H} {ps:List MemPlace} {r:Reach} {b0:Nat} (ht:t∈T) (hv:Value.okWide P w r b0 t v)
   (h:DataW.Trod enc P w base sp held t v d ps):∃n p,oP P n t p∧Rel (KW w) p v:=by
 obtain ⟨n,hn⟩:=h
 obtain ⟨p,h1,h2⟩:=nc hT n t _ _ ht hn
 refine ⟨n,p,h1,?_⟩
 have hp:=List.all_eq_true.1 hT t ht
 cases n with
 | zero=>simp [oP] at h1
 | succ n=>
   simp only [oP] at h1
   simp only [Value.okWide] at hv
   split at hp
   · rename_i hu
     rw [hu] at h1 hv
     obtain ⟨b,rfl⟩:=h1
     simp only [Cell.okWide,hu,Cell.ok] at hv
     cases v<;>simp_all [Value.cells,R,Rel]
   · rename_i k hu
     rw [hu] at h1 hv
     obtain ⟨b,rfl,_⟩:=h1
     simp only [Cell.okWide,hu,Cell.ok] at hv
     cases v<;>simp_all [Value.cells,R,Rel]
   · rename_i hu
     rw [hu] at h1 hv
     obtain ⟨b,rfl,_⟩:=h1
     simp only [Cell.okWide,hu,Cell.ok] at hv
     cases v<;>simp_all [Value.cells,R,Rel]
   · rename_i e hu
     rw [hu] at h1 hv
     obtain ⟨b,rfl,_⟩:=h1
     simp only [Cell.okWide,hu,Cell.ok] at hv
     cases v with
     | slice a l c=>
       simp only [R] at h2
       simp only [Rel,R]
       simpa [Value.cells] using h2
     | agg cs=>simp at hv
     | _=>simp_all [Value.cells,R]
   · rename_i fs hu
     rw [hu] at h1 hv
     obtain ⟨b,rfl,_⟩:=h1
     obtain ⟨cs,rfl,_⟩:=hv
     simp only [Value.cells,R] at h2
     exact ⟨cs.toList,by simp,h2.2⟩
   · cases hp
def zx (P:Program):List TypeId→List PV→Prop
 | [],[]=>True
 | t::ts,p::ps=>(∃n,oP P n t p)∧zx P ts ps
 | _,_=>False
theorem sG {T:List TypeId} (hT:wG P T=true) {r:Reach} {b0:Nat}:∀{ts:List TypeId} {vs:List Value} {ds:List (DataW H)} {ps:List MemPlace},(∀t∈ts,t∈T) →
   (∀(j:Nat) t v,ts[j]?=some t→vs[j]?=some v→Value.okWide P w r b0 t v)→DataW.TrodAll enc P w base sp held ts vs ds ps→∃bZ,zx P ts bZ∧fW (KW w) bZ vs∧ds.length=ts.length
 | [],vs,ds,ps,_,_,h=>by
   obtain ⟨rfl,rfl,rfl⟩:=trodAll_nil h
   exact ⟨[],by simp [zx],by simp [fW],rfl⟩
 | t::ts,vs,ds,ps,hts,hv,h=>by
   obtain ⟨v,vs',d,ds',p,q,rfl,rfl,rfl,h1,h2⟩:=trodAll_cons h
   obtain ⟨n,pv,a1,a2⟩:=De hT (hts t (by simp)) (hv 0 t v (by simp) (by simp)) h1
   obtain ⟨bZ,b1,b2,b3⟩:=sG hT (fun t ht=>hts t (by simp [ht])) (fun j t v hj hj'=>hv (j+1) t v (by simpa using hj) (by simpa using hj')) h2
   exact ⟨pv::bZ,⟨⟨n,a1⟩,b1⟩,⟨v,vs',rfl,a2,b2⟩,by simp [b3]⟩
theorem nf {W W':World} (hl:laidOutB P=true) (hb:Below W.heap.size W W'):∀{ts:List TypeId} {vs:List Value} {ds:List (DataW H)} {ps:List MemPlace},(∀t∈ts,P.readableRec t=true∧t<P.types.size) →
   DataW.TrodAll enc P W 0 (fun _=>true) true ts vs ds ps→(∀x∈ps,x.block<W.heap.size)→∀{sp:Nat→Bool},(∀x∈ps,sp x.block=true)→DataW.TrodAll enc P W' 0 sp true ts vs ds ps
 | [],vs,ds,ps,_,h,_,_,_=>by
   obtain ⟨rfl,rfl,rfl⟩:=trodAll_nil h
   exact trodAll_mk0
 | t::ts,vs,ds,ps,hts,h,hlt,sp,hs=>by
   obtain ⟨v,vs',d,ds',p,q,rfl,rfl,rfl,h1,h2⟩:=trodAll_cons h
   refine trodAll_cons_mk ?_ (nf hl hb (fun t ht=>hts t (by simp [ht])) h2 (fun x hx=>hlt x (by simp [hx])) (fun x hx=>hs x (by simp [hx])))
   exact WideElems.Trod_stays hl (hts t (by simp)).1 (hts t (by simp)).2 h1 (fun x hx=>hb.same (hlt x (by simp [hx]))) (fun x hx=>hs x (by simp [hx]))
end
theorem zy {H:Type} {enc:TypeId×Value→H} {P:Program} {f:Func} {s:ChangeSpec} {apart fresh handsOn again:Bool} {W W':World} {args:Array Value} {v:Value} {ds gs:List (DataW H)} {before:List MemPlace}
   (hW:DataW.Whole enc P f.params.toList s.vars apart W args.toList ds gs before)
   (e6:∀(b:Nat) (sp:Nat→Bool) (hd:Bool),DataW.TrodAll enc P W' b sp hd f.resultTypes.toList (v.resultList f.resultTypes.size) (s.fn H (ds++gs)).results [])
   (hargs:∀sp:Nat→Bool,(∀p∈before,sp p.block=true)→DataW.TrodAll enc P W' 0 sp true f.params.toList args.toList (s.fn H (ds++gs)).args before)
   (hvars:∀sp:Nat→Bool,DataW.TrodVars enc P W' sp s.vars (s.fn H (ds++gs)).vars []) (hB:Below W.heap.size W W')
   (hok:∀(j:Nat) (t:TypeId) (r:Value),f.resultTypes[j]?=some t→(v.resultList f.resultTypes.size)[j]?=some r→Value.okWide P W' .any 0 t r) :
   s.post enc P f apart fresh handsOn again W args v W':=by
 have hlt:∀p∈before,p.block<W.heap.size:=fun p hp=>by simpa using hW.lt p hp
 have hold:∀p∈before,(fun b=>decide (b<W.heap.size)) p.block=true:=fun p hp=>by simpa using hlt p hp
 refine ⟨ds,gs,before,[],before,[],hW,e6 _ _ _,hargs _ hold,hvars _,World.keptBut_mono (fun p hp=>⟨hp,.inr (.inl hp)⟩) (hB.frame _),fun _=>⟨hok,_,_,([]++before)++[],⟨[]++before,[],trodAll_append (hargs _ (fun _ _=>rfl)) (e6 _ _ _),hvars _,rfl,?_,?_⟩,?_⟩⟩
 · obtain ⟨_,_,_,_,_,hz,_⟩:=hW
   intro b off hp
   simp only [List.nil_append,List.append_nil] at hp
   rw [hB.frozen (hlt _ hp)]
   exact hz b off hp
 · obtain ⟨_,_,_,_,_,_,hn⟩:=hW
   intro ha
   simpa using hn ha
 · intro p hp _
   simpa using hp
theorem qa {H:Type} {enc:TypeId×Value→H} {P:Program} {ns:Names} {AP:Nat→Option aB} (hI:Impl P ns AP) {f g:Nat} {fn:Func} {s:ChangeSpec} {T:List TypeId} {tb:TypeId}
   (hg:ns.of f=some g) (hvars:s.vars=[]) (e6:fn.resultTypes=#[tb]) (Hg:P.underlying tb=some .bool) (hl:laidOutB P=true)
   (hrd:∀t∈fn.params.toList,P.readableRec t=true∧t<P.types.size) (hT:wG P T=true) (hin:∀t∈fn.params.toList,t∈T)
   (hs:∀ds:List (DataW H),ds.length=fn.params.size→s.fn H ds={ results:=[.lit (.bool true)],args:=ds })
   (law:∀bZ,zx P fn.params.toList bZ→(aD AP).p g bZ=some [.bool true])
   (W:World) (base:Nat) (args:Array Value) (ds gs:List (DataW H)) (before:List MemPlace)
   (hval:∀(j:Nat) t v,fn.params[j]?=some t→args[j]?=some v→Value.okWide P W .any base t v)
   (hW:DataW.Whole enc P fn.params.toList s.vars false W args.toList ds gs before)
   (hpin:CA ns.i3 W:=by intro _ _ h;exact Option.noConfusion (show (none:Option (Array Value))=some _ from h)) :
   Calls P f args W fun e W'=>∃v,e=.returned v∧s.post enc P fn false true false false W args v W':=by
 have hW':=hW
 obtain ⟨p,q,hA,hV,rfl,hfz,hnd⟩:=hW
 rw [hvars] at hV
 obtain ⟨rfl,rfl⟩:=trodVars_none hV
 simp only [List.append_nil] at hW'
 obtain ⟨bZ,h1,h2,h3⟩:=sG (r:=.any) (b0:=base) hT hin (fun j t v hj hj'=>hval j t v (by simpa using hj) (by simpa using hj')) hA
 obtain ⟨n,hn⟩:=l0 (law bZ h1)
 have hC:=(oO hI n n).p g f bZ _ hg hn (KW W) W args.toList hpin (FQ W) h2
 rw [Array.toArray_toList] at hC
 refine hC.mono ?_
 rintro e W' ⟨v,K',rfl,hr,_,_,_,hB⟩
 simp only [fD,Rel,R] at hr
 obtain rfl:v=.bool true:=by simpa using hr
 have hlt:∀x∈p,x.block<W.heap.size:=fun x hx=>by simpa using hW'.lt x hx
 have hspec:=hs ds (by simpa using h3)
 refine ⟨_,rfl,zy hW' (fun _ _ _=>?_) (fun sp hsp=>?_) (fun _=>?_) hB (ok_one e6 rfl (okWide_bool_mk Hg _))⟩
 · simp only [List.append_nil]
   rw [hspec,e6]
   exact trodAll_cons_mk (p:=[]) (p':=[]) (shut_bool Hg _) trodAll_mk0
 · simp only [List.append_nil]
   rw [hspec]
   exact nf hl hB hrd hA hlt hsp
 · rw [hvars]
   simp only [List.append_nil]
   rw [hspec]
   rfl
end Go.Ab
namespace Go.Ab.Fc
variable {α:Type}
def fN (n:Nat) (K:Nat→Option α):Option α:=match n with
 | 0=>K 0
 | m+1=>K (m+1)
theorem lJ {n:Nat} {K:Nat→Option α}:fN n K=K n:=by cases n<;>rfl
def fI (n:Int) (K:Int→Option α):Option α:=match n with
 | .ofNat m=>fN m fun m=>K (.ofNat m)
 | .negSucc m=>fN m fun m=>K (.negSucc m)
theorem BE {n:Int} {K:Int→Option α}:fI n K=K n:=by cases n<;>simp [fI,lJ]
def fB (b:Bool) (K:Bool→Option α):Option α:=match b with
 | true=>K true
 | false=>K false
theorem ng {b:Bool} {K:Bool→Option α}:fB b K=K b:=by cases b<;>rfl
def fS {β:Type}:List β→(List β→Option α)→Option α
 | [],K=>K []
 | a::r,K=>fS r fun r=>K (a::r)
theorem sH {β:Type}:∀{l:List β} {K:List β→Option α},fS l K=K l
 | [],_=>rfl
 | a::r,K=>by simp only [fS];rw [sH]
def fL (p:PV) (K:PV→Option α):Option α:=match p with
 | .bool b=>fB b fun b=>K (.bool b)
 | .int k n=>fI n fun n=>K (.int k n)
 | .str s=>K (.str s)
 | .agg cs=>K (.agg cs)
 | .aE l=>K (.aE l)
theorem DV {p:PV} {K:PV→Option α}:fL p K=K p:=by cases p<;>simp [fL,ng,BE]
def FR:List PV→(List PV→Option α)→Option α
 | [],K=>K []
 | a::r,K=>fL a fun a=>FR r fun r=>K (a::r)
theorem vL:∀{l:List PV} {K:List PV→Option α},FR l K=K l
 | [],_=>rfl
 | a::r,K=>by simp only [FR];rw [DV,vL]
def fP (p:PV) (K:PV→Option α):Option α:=match p with
 | .agg cs=>FR cs fun cs=>K (.agg cs)
 | p=>fL p K
theorem BF {p:PV} {K:PV→Option α}:fP p K=K p:=by cases p<;>simp [fP,vL,DV]
def Gs (v:AV) (K:AV→Option α):Option α:=match v with
 | .un=>K .un
 | .pv p=>fP p fun p=>K (.pv p)
 | .cI l=>K (.cI l)
 | .own l τ=>fN τ fun τ=>K (.own l τ)
 | .agg cs=>K (.agg cs)
 | .kP cs=>K (.kP cs)
 | .aN a b=>fN a fun a=>fN b fun b=>K (.aN a b)
 | .aJ a b=>fN a fun a=>fN b fun b=>K (.aJ a b)
 | .ek cs=>fS cs fun cs=>K (.ek cs)
 | .aX a b c d=>fN a fun a=>fN c fun c=>K (.aX a b c d)
 | .fn g c=>K (.fn g c)
 | .gz=>K .gz
 | .gA s=>fN s fun s=>K (.gA s)
 | .dT kvs=>fS kvs fun kvs=>K (.dT kvs)
 | .lN a b c=>fN a fun a=>fN b fun b=>fN c fun c=>K (.lN a b c)
 | .gB a b=>fN a fun a=>fN b fun b=>K (.gB a b)
theorem BG {v:AV} {K:AV→Option α}:Gs v K=K v:=by cases v<;>simp [Gs,BF,lJ,sH]
def Df:List AV→(List AV→Option α)→Option α
 | [],K=>K []
 | a::r,K=>Gs a fun a=>Df r fun r=>K (a::r)
theorem nh:∀{l:List AV} {K:List AV→Option α},Df l K=K l
 | [],_=>rfl
 | a::r,K=>by simp only [Df];rw [BG,nh]
def fA (v:AV) (K:AV→Option α):Option α:=match v with
 | .agg cs=>Df cs fun cs=>K (.agg cs)
 | .kP cs=>Df cs fun cs=>K (.kP cs)
 | .fn g cs=>Df cs fun cs=>K (.fn g cs)
 | v=>Gs v K
theorem lK {v:AV} {K:AV→Option α}:fA v K=K v:=by cases v<;>simp [fA,nh,BG]
def FT:List AV→(List AV→Option α)→Option α
 | [],K=>K []
 | a::r,K=>fA a fun a=>FT r fun r=>K (a::r)
theorem nj:∀{l:List AV} {K:List AV→Option α},FT l K=K l
 | [],_=>rfl
 | a::r,K=>by simp only [FT];rw [lK,nj]
def fV (v:AV) (K:AV→Option α):Option α:=match v with
 | .pv (.str s)=>fS s fun s=>K (.pv (.str s))
 | .pv (.aE l)=>fS l fun l=>K (.pv (.aE l))
 | .cI l=>fS l fun l=>FR l fun l=>K (.cI l)
 | .own l τ=>fS l fun l=>fN τ fun τ=>K (.own l τ)
 | v=>fA v K
theorem BH {v:AV} {K:AV→Option α}:fV v K=K v:=by
 cases v with
 | pv p=>cases p<;>simp [fV,sH,lK]
 | _=>simp [fV,sH,lK,vL,lJ]
def FU:List PV→(List PV→Option α)→Option α
 | [],K=>K []
 | a::r,K=>fP a fun a=>FU r fun r=>K (a::r)
theorem BI:∀{l:List PV} {K:List PV→Option α},FU l K=K l
 | [],_=>rfl
 | a::r,K=>by simp only [FU];rw [BF,BI]
def fresh:AK→Bool
 | .v (.dM _) | .v (.slice ..) | .append .. | .v (.bin .add)=>true
 | _=>false
def HA (op:AK) (v:AV) (K:AV→Option α):Option α:=match op,v with
 | .v (.dM _),.cI l=>FU l fun l=>K (.cI l)
 | op,v=>if fresh op then fV v K else fA v K
def fO {β:Type} (f:β→(β→Option α)→Option α) (o:Option β) (K:Option β→Option α):Option α:=match o with
 | none=>K none
 | some x=>f x fun x=>K (some x)
theorem FV {β:Type} {f:β→(β→Option α)→Option α} (hf:∀x K,f x K=K x) {o:Option β} {K:Option β→Option α}:fO f o K=K o:=by cases o<;>simp [fO,hf]
def Fv:Sh→(Sh→Option α)→Option α
 | [],K=>K []
 | a::r,K=>fO Df a fun a=>Fv r fun r=>K (a::r)
theorem kK:∀{l:Sh} {K:Sh→Option α},Fv l K=K l
 | [],_=>rfl
 | a::r,K=>by simp only [Fv];rw [FV (fun _ _=>nh),kK]
def fT:aq→(aq→Option α)→Option α
 | [],K=>K []
 | a::r,K=>fN a fun a=>fT r fun r=>K (a::r)
theorem oR:∀{l:aq} {K:aq→Option α},fT l K=K l
 | [],_=>rfl
 | a::r,K=>by simp only [fT];rw [lJ,oR]
def GL {β:Type}:List (Nat×β)→Nat→β→(List (Nat×β)→Option α)→Option α
 | [],t,u,K=>K [(t,u)]
 | (k,v)::r,t,u,K=>if k=t then K ((k,u)::r) else GL r t u fun r=>K ((k,v)::r)
def Dg:List (Nat×AV)→(List (Nat×AV)→Option α)→Option α
 | [],K=>K []
 | (t,v)::r,K=>fA v fun v=>Dg r fun r=>K ((t,v)::r)
theorem wI:∀{l:List (Nat×AV)} {K:List (Nat×AV)→Option α},Dg l K=K l
 | [],_=>rfl
 | (t,v)::r,K=>by simp only [Dg];rw [lK,wI]
def Dh:List (Nat×List AV)→(List (Nat×List AV)→Option α)→Option α
 | [],K=>K []
 | (t,v)::r,K=>Df v fun v=>Dh r fun r=>K ((t,v)::r)
theorem wJ:∀{l:List (Nat×List AV)} {K:List (Nat×List AV)→Option α},Dh l K=K l
 | [],_=>rfl
 | (t,v)::r,K=>by simp only [Dh];rw [nh,wJ]
def EO (st:St) (K:St→Option α):Option α:=match st with
 | ⟨env,mem,sh,aa⟩=>Dg env fun env=>Dh mem fun mem=>Fv sh fun sh=>fT aa fun aa=>K ⟨env,mem,sh,aa⟩
theorem nk {st:St} {K:St→Option α}:EO st K=K st:=by
 obtain ⟨env,mem,sh,aa⟩:=st
 simp only [EO];rw [wI,wJ,kK,oR]
def lk {β:Type}:List (Nat×β)→Nat→Option β
 | [],_=>none
 | (k,v)::r,t=>bif Nat.beq k t then some v else lk r t
theorem oS {β:Type}:∀{l:List (Nat×β)} {t:Nat},lk l t=look l t
 | [],_=>rfl
 | (k,v)::r,t=>by
   simp only [lk,look]
   rw [oS]
   by_cases h:k=t
   · subst h;simp
   · rw [if_neg h,show Nat.beq k t=false from by rw [Bool.eq_false_iff];intro e;exact h (Nat.eq_of_beq_eq_true e)]
     rfl
def pt {β:Type}:List (Nat×β)→Nat→β→(List (Nat×β)→Option α)→Option α
 | [],t,u,K=>K [(t,u)]
 | (k,v)::r,t,u,K=>bif Nat.beq k t then K ((k,u)::r) else pt r t u fun r=>K ((k,v)::r)
theorem BJ {β:Type}:∀{l:List (Nat×β)} {t:Nat} {u:β} {K:List (Nat×β)→Option α},pt l t u K=K (cC l t u)
 | [],_,_,_=>rfl
 | (k,v)::r,t,u,K=>by
   simp only [pt,cC]
   by_cases h:k=t
   · subst h;simp
   · rw [if_neg h,show Nat.beq k t=false from by rw [Bool.eq_false_iff];intro e;exact h (Nat.eq_of_beq_eq_true e)]
     exact BJ
def od (env:List (Nat×AV)) (x:di) (K:AV→Option α):Option α:=match x with
 | .t n=>match lk env n with
   | some v=>K v
   | none=>none
 | .c v=>K v
theorem FW {env:List (Nat×AV)} {x:di} {K:AV→Option α}:od env x K=(et env x).bind K:=by
 cases x with
 | t n=>simp only [od,et,oS];cases look env n<;>rfl
 | c v=>rfl
def Fw (env:List (Nat×AV)):List di→(List AV→Option α)→Option α
 | [],K=>K []
 | x::r,K=>od env x fun v=>Fw env r fun vs=>K (v::vs)
theorem BK {env:List (Nat×AV)}:∀{l:List di} {K:List AV→Option α},Fw env l K=(cJ env l).bind K
 | [],_=>rfl
 | x::r,K=>by
   simp only [Fw,cJ]
   rw [FW]
   cases et env x with
   | none=>rfl
   | some v=>
     dsimp only [Option.bind_some]
     rw [BK]
     cases cJ env r<;>rfl
def EP:IntKind→Nat
 | .i8=>0 | .i16=>1 | .i32=>2 | .i64=>3 | .u8=>4 | .u16=>5 | .u32=>6 | .u64=>7
theorem Di {a b:IntKind} (h:Nat.beq (EP a) (EP b)=true):a=b:=by
 have:=Nat.eq_of_beq_eq_true h
 cases a<;>cases b<;>first | rfl | (simp [EP] at this)
def Gt:Int→Int→Bool
 | .ofNat a,.ofNat b=>Nat.beq a b
 | .negSucc a,.negSucc b=>Nat.beq a b
 | _,_=>false
theorem GM {a b:Nat}:Nat.beq a b=decide (a=b):=by
 by_cases h:a=b
 · subst h;simp
 · rw [decide_eq_false h,Bool.eq_false_iff];intro e;exact h (Nat.eq_of_beq_eq_true e)
theorem BL {a b:Int}:Gt a b=(a == b):=by
 cases a<;>cases b<;>(rw [Bool.eq_iff_iff];simp [Gt,GM])<;>omega
def Fx:Int→Int→Bool
 | .ofNat a,.ofNat b=>Nat.blt a b
 | .negSucc a,.negSucc b=>Nat.blt b a
 | .negSucc _,.ofNat _=>true
 | .ofNat _,.negSucc _=>false
theorem qb {a b:Int}:Fx a b=decide (a<b):=by
 cases a<;>cases b<;>(rw [Bool.eq_iff_iff];simp [Fx,Nat.blt_eq])<;>omega
def ER (k:IntKind) (a b:Int) (K:Int→Option α):Option α:=match k,a,b with
 | .i64,.ofNat x,.ofNat y=>bif Nat.blt (x+y) 4611686018427387904 then fN (x+y) fun n=>K (.ofNat n) else fI (IntKind.i64.wrap (.ofNat x+.ofNat y)) K
 | k,a,b=>fI (k.wrap (a+b)) K
theorem Dj {k:IntKind} {a b:Int} {K:Int→Option α}:ER k a b K=K (k.wrap (a+b)):=by
 unfold ER
 split
 · rename_i x y
   cases h:Nat.blt (x+y) 4611686018427387904 with
   | false=>simp only [cond_false];exact BE
   | true=>
     simp only [cond_true,lJ]
     have:x+y<4611686018427387904:=by simpa [Nat.blt_eq] using h
     congr 1
     simp [IntKind.wrap,IntKind.bits,IntKind.signed]
     omega
 · exact BE
def ES (op:BinOp) (a b:AV) (K:AV→Option α):Option α:=match a with
 | .pv (.int k x)=>match b with
   | .pv (.int k' y)=>bif Nat.beq (EP k) (EP k') then (match op with
       | .eql=>fB (Gt x y) fun c=>K (.pv (.bool c))
       | .neq=>fB (!Gt x y) fun c=>K (.pv (.bool c))
       | .lss=>fB (Fx x y) fun c=>K (.pv (.bool c))
       | .gtr=>fB (Fx y x) fun c=>K (.pv (.bool c))
       | .geq=>fB (!Fx x y) fun c=>K (.pv (.bool c))
       | .leq=>fB (!Fx y x) fun c=>K (.pv (.bool c))
       | .add=>ER k x y fun n=>K (.pv (.int k n))
       | op=>(bW op a b).bind fun v=>fV v K)
     else (bW op a b).bind fun v=>fV v K
   | b=>(bW op a b).bind fun v=>fV v K
 | a=>(bW op a b).bind fun v=>fV v K
theorem Dk {op:BinOp} {a b:AV} {K:AV→Option α}:ES op a b K=(bW op a b).bind K:=by
 have dflt:((bW op a b).bind fun v=>fV v K)=(bW op a b).bind K:=by
   congr 1;funext v;exact BH
 unfold ES
 split
 · rename_i k x
   split
   · rename_i k' y
     cases hk:Nat.beq (EP k) (EP k') with
     | false=>exact dflt
     | true=>
       obtain rfl:=Di hk
       simp only [cond_true]
       split
       · simp [ng,BL,bW]
       · simp [ng,BL,bW,bne]
       · simp [ng,qb,bW]
       · simp [ng,qb,bW]
       · simp [ng,qb,bW,←decide_not,Int.not_lt]
       · simp [ng,qb,bW,←decide_not,Int.not_lt]
       · simp [Dj,bW]
       · exact dflt
   · exact dflt
 · exact dflt
def Hh (off:Nat) (x:AV) (K:AV→Option α):Option α:=match x with
 | .aN d o=>fN (o+off) fun n=>K (.aN d n)
 | .aJ b o=>fN (o+off) fun n=>K (.aJ b n)
 | .ek cs=>fS (cs.drop off) fun cs=>K (.ek cs)
 | _=>none
def nth {β:Type}:List β→Nat→Option β
 | [],_=>none
 | a::r,n=>match n with
   | 0=>some a
   | n+1=>nth r n
theorem vM {β:Type}:∀{l:List β} {n:Nat},nth l n=l[n]?
 | [],n=>by simp [nth]
 | a::r,0=>rfl
 | a::r,n+1=>by simp only [nth,List.getElem?_cons_succ];exact vM
def ln {β:Type}:List β→Nat→(Nat→Option α)→Option α
 | [],n,K=>K n
 | _::r,n,K=>fN (n+1) fun n=>ln r n K
theorem wK {β:Type}:∀{l:List β} {n:Nat} {K:Nat→Option α},ln l n K=K (n+l.length)
 | [],n,K=>rfl
 | _::r,n,K=>by
   simp only [ln];rw [lJ,wK];congr 1;simp;omega
def xV (o:Co) (vals:List AV) (K:AV→Option α):Option α:=match o with
 | .mv=>match vals with
   | [x]=>K x
   | vals=>(a5 .mv vals).bind fun v=>fA v K
 | .bin op=>match vals with
   | [a,b]=>ES op a b K
   | vals=>(a5 (.bin op) vals).bind fun v=>fA v K
 | .eI off=>match vals with
   | [x]=>Hh off x K
   | vals=>(a5 (.eI off) vals).bind fun v=>fA v K
 | .ki=>match vals with
   | [.aN a b]=>K (.aN a b)
   | [.aJ a b]=>K (.aJ a b)
   | vals=>(a5 .ki vals).bind fun v=>fA v K
 | .index=>match vals with
   | [.pv (.str s),.pv (.int _ (.ofNat i))]=>match nth s i with
     | some b=>fN b.toNat fun n=>K (.pv (.int .u8 (.ofNat n)))
     | none=>none
   | vals=>(a5 .index vals).bind fun v=>fA v K
 | .s8=>match vals with
   | [.pv (.str s)]=>ln s 0 fun n=>K (.pv (.int .i64 (.ofNat n)))
   | vals=>(a5 .s8 vals).bind fun v=>fA v K
 | .len=>match vals with
   | [.pv (.aE l)]=>ln l 0 fun n=>K (.pv (.int .i64 (.ofNat n)))
   | [.own l _]=>ln l 0 fun n=>K (.pv (.int .i64 (.ofNat n)))
   | vals=>(a5 .len vals).bind fun v=>fA v K
 | .dM sz=>match a5 (.dM sz) vals with
   | some (.cI l)=>FU l fun l=>K (.cI l)
   | some v=>K v
   | none=>none
 | .slice a b c d e=>(a5 (.slice a b c d e) vals).bind fun v=>fV v K
 | o=>(a5 o vals).bind fun v=>fA v K
theorem FX {o:Co} {vals:List AV} {K:AV→Option α}:xV o vals K=(a5 o vals).bind K:=by
 have dA:∀o vals,((a5 o vals).bind fun v=>fA v K)=(a5 o vals).bind K:=by
   intro o vals;congr 1;funext v;exact lK
 unfold xV
 split
 · split
   · rfl
   · exact dA _ _
 · split
   · exact Dk
   · exact dA _ _
 · split
   · rename_i x
     cases x<;>simp [Hh,a5,lJ,sH]
   · exact dA _ _
 · split
   · rfl
   · rfl
   · exact dA _ _
 · split
   · rename_i s k i
     rw [vM]
     have hi:¬(Int.ofNat i<0):=by simp
     simp only [a5]
     rw [if_neg hi]
     simp only [Int.toNat_natCast,Int.ofNat_eq_natCast]
     cases s[i]? with
     | none=>rfl
     | some b=>simp [lJ]
   · exact dA _ _
 · split
   · simp [wK,a5]
   · exact dA _ _
 · split
   · simp [wK,a5,cy]
   · simp [wK,a5,cy]
   · exact dA _ _
 · split
   · rename_i l h;rw [h,BI];rfl
   · rename_i h;rw [h];rfl
   · rename_i h;rw [h];rfl
 · congr 1;funext v;exact BH
 · exact dA _ _
def lay (env:List (Nat×AV)) (mem:List (Nat×List AV)) (sh:Sh) (aa:aq) (d:Option Nat) (v:AV) (K:St→Option α):Option α:=match d with
 | some d=>pt env d v fun env=>K ⟨env,mem,sh,aa⟩
 | none=>K ⟨env,mem,sh,aa⟩
theorem iG {env:List (Nat×AV)} {mem:List (Nat×List AV)} {sh:Sh} {aa:aq} {d:Option Nat} {v:AV} {K:St→Option α}:lay env mem sh aa d v K=K ⟨dP env d v,mem,sh,aa⟩:=by
 cases d<;>simp [lay,dP,BJ]
def ET (mem:List (Nat×List AV)) (k:Nat) (cs:Option (List AV)) (K:List (Nat×List AV)→Option α):Option α:=match cs with
 | some cs=>Df cs fun cs=>pt mem k cs K
 | none=>K mem
theorem Dl {mem:List (Nat×List AV)} {k:Nat} {cs:Option (List AV)} {K:List (Nat×List AV)→Option α}:ET mem k cs K=K (dk mem (some k) cs):=by
 cases cs<;>simp [ET,dk,nh,BJ]
def BM (orc:dr) (op:AK) (d:Option Nat) (vals:List AV) (env:List (Nat×AV)) (mem:List (Nat×List AV)) (sh:Sh) (aa:aq) (K:St→Option α):Option α:=
 match exec orc op vals (op.key.bind (look mem)) sh aa with
 | none=>none
 | some ⟨val,cells,sh',toks'⟩=>fV val fun val=>(match op.key with | some k=>ET mem k cells | none=>fun K=>K mem) fun mem=>Fv sh' fun sh'=>fT toks' fun toks'=>lay env mem sh' toks' d val K
theorem qc {orc:dr} {op:AK} {d:Option Nat} {vals:List AV} {env:List (Nat×AV)} {mem:List (Nat×List AV)} {sh:Sh} {aa:aq} {K:St→Option α} :
   BM orc op d vals env mem sh aa K=(match exec orc op vals (op.key.bind (look mem)) sh aa with
     | none=>none
     | some out=>some (⟨dP env d out.val,dk mem op.key out.cells,out.sh,out.aa⟩:St)).bind K:=by
 unfold BM
 cases exec orc op vals (op.key.bind (look mem)) sh aa with
 | none=>rfl
 | some out=>
   obtain ⟨val,cells,sh',toks'⟩:=out
   simp only [BH,Option.bind_some]
   cases op.key with
   | none=>simp only [kK,oR,iG];cases cells<;>rfl
   | some k=>simp only [Dl,kK,oR,iG]
def xP (orc:dr) (g:Nat) (vals:List AV) (K:AV→Option α):Option α:=match bY [] vals with
 | some bZ=>match orc.p g bZ with
   | some rs=>fA (l_ rs) K
   | none=>none
 | none=>none
def x1 (orc:dr) (op:AK) (d:Option Nat) (vals:List AV) (env:List (Nat×AV)) (mem:List (Nat×List AV)) (sh:Sh) (aa:aq) (K:St→Option α):Option α:=match op with
 | .v o=>xV o vals fun v=>lay env mem sh aa d v K
 | .aR g=>xP orc g vals fun v=>lay env mem sh aa d v K
 | .bU key off sz ag=>match vals with
   | [.aN d' o]=>match lk mem key with
     | some cs=>bif Nat.beq d' key && Nat.beq o off then (match br ag sz cs off with
         | some v=>fA v fun v=>lay env mem sh aa d v K
         | none=>none) else none
     | none=>none
   | vals=>BM orc (.bU key off sz ag) d vals env mem sh aa K
 | .dJ sz ag=>match vals with
   | [.aJ b off]=>match nth sh b with
     | some (some cs)=>bif db cs then none else (match br ag sz cs off with
         | some v=>fA v fun v=>lay env mem sh aa d v K
         | none=>none)
     | _=>none
   | vals=>BM orc (.dJ sz ag) d vals env mem sh aa K
 | op=>BM orc op d vals env mem sh aa K
theorem FY {orc:dr} {op:AK} {d:Option Nat} {vals:List AV} {env:List (Nat×AV)} {mem:List (Nat×List AV)} {sh:Sh} {aa:aq} {K:St→Option α} :
   x1 orc op d vals env mem sh aa K=(match exec orc op vals (op.key.bind (look mem)) sh aa with
     | none=>none
     | some out=>some (⟨dP env d out.val,dk mem op.key out.cells,out.sh,out.aa⟩:St)).bind K:=by
 unfold x1
 split
 · rename_i o
   simp only [FX,iG,exec]
   cases a5 o vals with
   | none=>rfl
   | some v=>rfl
 · rename_i g
   simp only [xP,exec]
   cases bY [] vals with
   | none=>rfl
   | some bZ=>
     dsimp only
     cases orc.p g bZ with
     | none=>rfl
     | some rs=>simp only [lK,iG];rfl
 · rename_i key off sz ag
   split
   · rename_i d' o
     rw [oS]
     have hk:((AK.bU key off sz ag).key.bind (look mem))=look mem key:=rfl
     rw [hk]
     cases look mem key with
     | none=>simp [exec]
     | some cs=>
       simp only [exec]
       by_cases h:d'=key∧o=off
       · obtain ⟨rfl,rfl⟩:=h
         simp only [Nat.beq_refl,Bool.and_self,cond_true,and_self,if_true]
         cases br ag sz cs o with
         | none=>rfl
         | some v=>simp only [lK,iG];rfl
       · rw [if_neg h]
         have:(Nat.beq d' key && Nat.beq o off)=false:=by
           rw [Bool.eq_false_iff];intro e
           simp only [Bool.and_eq_true] at e
           exact h ⟨Nat.eq_of_beq_eq_true e.1,Nat.eq_of_beq_eq_true e.2⟩
         rw [this];rfl
   · exact qc
 · rename_i sz ag
   split
   · rename_i b off
     rw [vM]
     simp only [exec]
     split
     · rename_i cs h
       rw [h]
       dsimp only
       cases db cs with
       | true=>rfl
       | false=>
         simp only [cond_false,Bool.false_eq_true,if_false]
         cases br ag sz cs off with
         | none=>rfl
         | some v=>simp only [lK,iG];rfl
     · rename_i h
       split
       · rfl
       · rename_i e1 e2 e3
         split at e3
         · rename_i cs e4;exact absurd e4 (h cs)
         · cases e3
   · exact qc
 · exact qc
def Gu (orc:dr) (o:cB) (st:St) (K:St→Option α):Option α:=match st with
 | ⟨env,mem,sh,aa⟩=>match o with
   | ⟨d,g,args,op⟩=>match g with
     | none=>Fw env args fun vals=>x1 orc op d vals env mem sh aa K
     | some (t,b)=>match lk env t with
       | some (.pv (.bool c))=>bif c == b then Fw env args fun vals=>x1 orc op d vals env mem sh aa K else lay env mem sh aa d .un K
       | some .un=>lay env mem sh aa d .un K
       | _=>none
theorem EU {orc:dr} {o:cB} {st:St} {K:St→Option α}:Gu orc o st K=(cG orc o st).bind K:=by
 obtain ⟨env,mem,sh,aa⟩:=st
 obtain ⟨d,g,args,op⟩:=o
 have run:(Fw env args fun vals=>x1 orc op d vals env mem sh aa K)=(match cJ env args with
     | none=>none
     | some vals=>match exec orc op vals (op.key.bind (look mem)) sh aa with
       | none=>none
       | some out=>some (⟨dP env d out.val,dk mem op.key out.cells,out.sh,out.aa⟩:St)).bind K:=by
   rw [BK]
   cases cJ env args with
   | none=>rfl
   | some vals=>exact FY
 cases g with
 | none=>simp only [Gu,cG,dH];exact run
 | some p=>
   obtain ⟨t,b⟩:=p
   simp only [Gu,cG,dH,oS]
   split
   · rename_i c h
     rw [h]
     dsimp only
     cases hc:(c == b) with
     | true=>simp only [cond_true];exact run
     | false=>simp only [cond_false,iG];rfl
   · rename_i h
     rw [h]
     simp only [iG];rfl
   · rename_i h1 h2
     split
     · rfl
     · rename_i e;split at e<;>simp_all
     · rename_i e;split at e<;>simp_all
def Dm (orc:dr):List cB→St→(St→Option α)→Option α
 | [],st,K=>K st
 | o::r,st,K=>Gu orc o st fun st=>Dm orc r st K
theorem wL {orc:dr}:∀{l:List cB} {st:St} {K:St→Option α},Dm orc l st K=(aY orc l st).bind K
 | [],_,_=>rfl
 | o::r,st,K=>by
   simp only [Dm,aY]
   rw [EU]
   cases cG orc o st with
   | none=>rfl
   | some s=>exact wL
def wM (f:St→(aP→St→Option α)→Option α) (pre:St→St):Nat→St→(aP→St→Option α)→Option α
 | 0,_,_=>none
 | n+1,st,K=>EO (pre st) fun st=>f st fun e st=>match e with
   | .normal=>wM f pre n st K
   | e=>K e st
def DW (live:List Nat) (v:AV):Bool:=match v with
 | .aN d _=>live.contains d
 | .gB d _=>live.contains d
 | .pv _=>true
 | .own ..=>true
 | .agg cs=>dN cs
 | v=>bj v
theorem BN {live:List Nat} {v:AV}:DW live v=cK live v:=by cases v<;>rfl
def FZ (live:List Nat) (env:List (Nat×AV)):List Nat→(List (Nat×AV)→Option α)→Option α
 | [],K=>K []
 | t::r,K=>match lk env t with
   | some v=>FZ live env r fun e=>bif DW live v then K ((t,v)::e) else K e
   | none=>FZ live env r K
theorem vN {live:List Nat} {env:List (Nat×AV)}:∀{l:List Nat} {K:List (Nat×AV)→Option α},FZ live env l K=K (aZ live env l)
 | [],_=>rfl
 | t::r,K=>by
   simp only [FZ,aZ,oS]
   cases look env t with
   | none=>exact vN
   | some v=>
     dsimp only
     rw [vN,BN]
     cases cK live v<;>simp
def F1 (mem:List (Nat×List AV)):List Nat→(List (Nat×List AV)→Option α)→Option α
 | [],K=>K []
 | t::r,K=>match lk mem t with
   | some v=>F1 mem r fun e=>K ((t,v)::e)
   | none=>F1 mem r K
theorem vO {mem:List (Nat×List AV)}:∀{l:List Nat} {K:List (Nat×List AV)→Option α},F1 mem l K=K (a8 mem l)
 | [],_=>rfl
 | t::r,K=>by
   simp only [F1,a8,oS]
   cases look mem t with
   | none=>exact vO
   | some v=>exact vO
def rs (live:List Nat) (st:St) (K:St→Option α):Option α:=match st with
 | ⟨env,mem,sh,aa⟩=>FZ live env live fun env=>F1 mem live fun mem=>K ⟨env,mem,sh,aa⟩
theorem F2 {live:List Nat} {st:St} {K:St→Option α}:rs live st K=K (restrict live st):=by
 obtain ⟨env,mem,sh,aa⟩:=st
 simp only [rs];rw [vN,vO];rfl
def DX (K:aP→St→Option α):Option (aP×St)→Option α
 | some (e,st)=>K e st
 | none=>none
def cF (orc:dr) (k:Nat):au→St→(aP→St→Option α)→Option α
 | .skip,st,K=>K .normal st
 | .oe ops live,st,K=>Dm orc ops st fun st=>rs live st fun st=>K .normal st
 | .seq a b,st,K=>cF orc k a st fun e st=>match e with
   | .normal=>cF orc k b st K
   | e=>K e st
 | .cond c a b,st,K=>match et st.env c with
   | some (.pv (.bool t))=>match t with
     | true=>cF orc k a st K
     | false=>cF orc k b st K
   | _=>none
 | .block id b,st,K=>cF orc k b st fun e st=>match e with
   | .exit id'=>if id'=id then K .normal st else K (.exit id') st
   | e=>K e st
 | .loop live b,st,K=>wM (cF orc k b) (fun s=>norm (restrict live s)) k st K
 | .back c gb pi px sz ag live x y,st,K=>DX K (bM orc k (.back c gb pi px sz ag live x y) st)
 | .exit id,st,K=>K (.exit id) st
 | .ret,st,K=>K .ret st
 | .eo ts,st,K=>K .normal (jb ts st)
 | .DN ds,st,K=>bif eQ st.env ds then K .normal st else none
 | .ie ps,st,K=>EO (zW ps st) fun st=>K .normal st
 | .il ts,st,K=>EO (zX ts st) fun st=>K .normal st
 | .Ea ts,st,K=>EO (jD ts st) fun st=>K .normal st
theorem sI {f:St→(aP→St→Option α)→Option α} {g:St→Option (aP×St)} {pre:St→St} (h:∀st K,f st K=DX K (g st)):∀{n:Nat} {st:St} {K:aP→St→Option α},wM f pre n st K=DX K (dw g pre n st)
 | 0,_,_=>rfl
 | n+1,st,K=>by
   simp only [wM,dw]
   rw [nk,h]
   cases g (pre st) with
   | none=>rfl
   | some q=>
     obtain ⟨e,s⟩:=q
     cases e with
     | normal=>exact sI h
     | ret=>rfl
     | exit id=>rfl
theorem nm {orc:dr} {k:Nat}:∀{c:au} {st:St} {K:aP→St→Option α},cF orc k c st K=DX K (bM orc k c st)
 | .skip,_,_=>rfl
 | .oe ops live,st,K=>by
   simp only [cF,bM]
   rw [wL]
   cases aY orc ops st with
   | none=>rfl
   | some s=>simp only [Option.bind_some,F2,DX]
 | .seq a b,st,K=>by
   simp only [cF,bM]
   rw [nm]
   cases bM orc k a st with
   | none=>rfl
   | some q=>
     obtain ⟨e,s⟩:=q
     cases e with
     | normal=>simp only [DX];exact nm
     | ret=>rfl
     | exit id=>rfl
 | .cond c a b,st,K=>by
   simp only [cF,bM]
   split
   · rename_i t h
     rw [h]
     cases t with
     | true=>exact nm
     | false=>exact nm
   · rename_i h
     split
     · rename_i t h';exact absurd h' (h t)
     · rfl
 | .block id b,st,K=>by
   simp only [cF,bM]
   rw [nm]
   cases bM orc k b st with
   | none=>rfl
   | some q=>
     obtain ⟨e,s⟩:=q
     cases e with
     | normal=>rfl
     | ret=>rfl
     | exit id'=>
       simp only [DX]
       split<;>rfl
 | .loop live b,st,K=>by
   simp only [cF,bM]
   exact sI (g:=bM orc k b) fun _ _=>nm
 | .back c gb pi px sz ag live x y,_,_=>by simp only [cF]
 | .exit id,_,_=>rfl
 | .ret,_,_=>rfl
 | .eo _,_,_=>rfl
 | .DN ds,st,K=>by
   simp only [cF,bM]
   cases eQ st.env ds<;>rfl
 | .ie ps,st,K=>by
   simp only [cF,bM];rw [nk];rfl
 | .il ps,st,K=>by
   simp only [cF,bM];rw [nk];rfl
 | .Ea ps,st,K=>by
   simp only [cF,bM];rw [nk];rfl
def Dn (aF:Bool) (af:aB) (sh0:Sh) (e:aP) (st:St) (K:List AV→Sh→aq→Option α):Option α:=
 match e with
 | .exit _=>none
 | _=>match cN st af.results with
   | some vs=>
     FT (bB aF af.ks st.sh vs) fun rs=>
     let sh':=if rs.all (aw sh0.length)=true then (de aF af.ks st.sh vs).take sh0.length else de aF af.ks st.sh vs
     if rs.all bg=true then
       match bQ st.aa rs sh' with
       | (rs,sh,_,ts)=>FT rs fun rs=>Fv sh fun sh=>fT ts fun ts=>K rs sh ts
     else none
   | none=>none
def zz (K:List AV→Sh→aq→Option α):Option (List AV×Sh×aq)→Option α
 | some (a,b,c)=>K a b c
 | none=>none
theorem Dp {aF:Bool} {af:aB} {sh0:Sh} {e:aP} {st:St} {K:List AV→Sh→aq→Option α}:Dn aF af sh0 e st K=zz K (finish aF af sh0 (some (e,st))):=by
 cases e with
 | exit id=>rfl
 | normal=>
   simp only [Dn,finish]
   cases cN st af.results with
   | none=>rfl
   | some vs=>
     simp only [nj,or_true,if_true]
     split
     · simp only [nj,kK,oR,zz]
     · rfl
 | ret=>
   simp only [Dn,finish]
   cases cN st af.results with
   | none=>rfl
   | some vs=>
     simp only [nj,true_or,if_true]
     split
     · simp only [nj,kK,oR,zz]
     · rfl
def oT (orc:dr) (k:Nat) (aF:Bool) (af:aB) (args:List AV) (sh:Sh) (ts:aq) (K:List AV→Sh→aq→Option α):Option α:=
 EO { env:=bp 0 args,mem:=[],sh,aa:=ts } fun st=>cF orc k af.body st fun e st=>Dn aF af sh e st K
theorem jZ {orc:dr} {k:Nat} {aF:Bool} {af:aB} {args:List AV} {sh:Sh} {ts:aq} {K:List AV→Sh→aq→Option α}:oT orc k aF af args sh ts K=zz K (bq orc k aF af args sh ts):=by
 unfold oT
 rw [nk,nm,dZ]
 cases bM orc k af.body { env:=bp 0 args,mem:=[],sh,aa:=ts } with
 | none=>rfl
 | some q=>obtain ⟨e,s⟩:=q;simp only [DX];exact Dp
def zA (AP:Nat→Option aB) (k:Nat):Nat→dr
 | 0=>{ p:=fun _ _=>none,i:=fun _ _ _ _=>none }
 | n+1=>
   { p:=fun g bZ=>match AP g with
       | some af=>match af.km with
         | some f=>f.f (zA AP k n).p bZ
         | none=>if bZ.length=af.nparams∧bZ.length≤af.ntmps then oT (zA AP k n) k false af (bZ.map .pv) [] [] fun rs _ _=>dQ rs else none
       | none=>none
     i:=fun g args sh ts=>match AP g with
       | some af=>if args.length≤af.ntmps then oT (zA AP k n) k true af args sh ts fun a b c=>some (a,b,c) else none
       | none=>none }
theorem wN {AP:Nat→Option aB} {k:Nat}:∀n,zA AP k n=run AP k n
 | 0=>rfl
 | n+1=>by
   have ih:=wN (AP:=AP) (k:=k) n
   simp only [zA,run]
   congr 1
   · funext g bZ
     cases AP g with
     | none=>rfl
     | some af=>
       dsimp only
       cases af.km with
       | some f=>dsimp only;rw [ih]
       | none=>
         dsimp only
         split
         · rw [jZ,ih]
           cases bq (run AP k n) k false af (bZ.map .pv) [] [] with
           | none=>rfl
           | some q=>rfl
         · rfl
   · funext g args sh ts
     cases AP g with
     | none=>rfl
     | some af=>
       dsimp only
       split
       · rw [jZ,ih]
         cases bq (run AP k n) k true af args sh ts with
         | none=>rfl
         | some q=>rfl
       · rfl
theorem zB {AP:Nat→Option aB} {k n g:Nat} {x rs:List PV} (h:(zA AP k n).p g x=some rs):(aD AP).p g x=some rs:=by
 rw [wN] at h
 exact mQ (lZ g x) (show (run AP (max k n) (max k n)).p g x=some rs from (bK (Nat.le_max_right k n) (Nat.le_max_left k n)).p _ _ _ h)
def nX (AP:Nat→Option aB) (ov:Nat→List PV→Option (List PV)) (k:Nat):Nat→dr
 | 0=>{ p:=ov,i:=fun _ _ _ _=>none }
 | n+1=>
   { p:=fun g bZ=>match ov g bZ with
       | some r=>some r
       | none=>match AP g with
         | some af=>match af.km with
           | some f=>f.f (nX AP ov k n).p bZ
           | none=>if bZ.length=af.nparams∧bZ.length≤af.ntmps then oT (nX AP ov k n) k false af (bZ.map .pv) [] [] fun rs _ _=>dQ rs else none
         | none=>none
     i:=fun g args sh ts=>match AP g with
       | some af=>if args.length≤af.ntmps then oT (nX AP ov k n) k true af args sh ts fun a b c=>some (a,b,c) else none
       | none=>none }
theorem sJ {AP:Nat→Option aB} {orc:dr} {k:Nat} {aF:Bool} {af:aB} {args:List AV} {sh:Sh} {ts:aq} {r:List AV×Sh×aq} (hle:orc.le (aD AP)) (h:bq orc k aF af args sh ts=some r):i6 AP aF af args sh ts=some r:=by
 rw [dZ] at h
 unfold i6
 cases hc:bM orc k af.body { env:=bp 0 args,mem:=[],sh,aa:=ts } with
 | none=>rw [hc] at h;simp [finish] at h
 | some q=>
   rw [iF (bx hle (Nat.le_refl k) hc)]
   rw [hc] at h
   exact h
theorem wO {AP:Nat→Option aB} {ov:Nat→List PV→Option (List PV)} {k:Nat} (hov:∀g x r,ov g x=some r→(aD AP).p g x=some r):∀n,(nX AP ov k n).le (aD AP)
 | 0=>⟨hov,fun g x s t r h=>by simp [nX] at h⟩
 | n+1=>by
   have ih:=wO (k:=k) hov n
   refine ⟨fun g x r h=>?_,fun g x s t r h=>?_⟩
   · simp only [nX] at h
     split at h
     · rename_i r' e;rw [←h];exact hov g x r' e
     · split at h
       · rename_i af hg
         cases hp:af.km with
         | some f=>rw [hp] at h;rw [wz hg hp];exact f.mono ih.p h
         | none=>
           rw [hp] at h
           simp only [Option.ite_none_right_eq_some] at h
           obtain ⟨⟨h1,h2⟩,h⟩:=h
           rw [jZ] at h
           rw [DR hg hp h1 h2]
           cases hb:bq (nX AP ov k n) k false af (x.map .pv) [] [] with
           | none=>rw [hb] at h;simp [zz] at h
           | some q=>rw [sJ ih hb];rw [hb] at h;exact h
       · cases h
   · simp only [nX] at h
     split at h
     · rename_i af hg
       simp only [Option.ite_none_right_eq_some] at h
       obtain ⟨h2,h⟩:=h
       rw [jZ] at h
       rw [DS hg h2]
       cases hb:bq (nX AP ov k n) k true af x s t with
       | none=>rw [hb] at h;simp [zz] at h
       | some q=>rw [sJ ih hb];rw [hb] at h;exact h
     · cases h
theorem F3 {AP:Nat→Option aB} {ov:Nat→List PV→Option (List PV)} {k n g:Nat} {x rs:List PV} (hov:∀g x r,ov g x=some r→(aD AP).p g x=some r) (h:(nX AP ov k n).p g x=some rs):(aD AP).p g x=some rs:=(wO hov n).p _ _ _ h
end Go.Ab.Fc
namespace Go.Ab
section
variable {P:Program} {ns:Names} {w w':World}
theorem Ej.below {K:aU} (h:Ej K w) (hb:RowKit.Below w.heap.size w w'):Ej K w':=by
 intro b o v hk
 have h1:=h b o v hk
 have hlt:b<w.heap.size:=by
   simp only [World.cell?] at h1
   cases hc:w.heap[b]? with
   | none=>rw [hc] at h1;simp at h1
   | some c=>exact (Array.getElem?_eq_some_iff.1 hc).1
 have h2:=hb.block b hlt
 simp only [World.cell?,h2] at h1 ⊢
 exact h1
def fM:List PV→Option (List (List UInt8))
 | []=>some []
 | .str s::r=>(fM r).map (s::·)
 | _=>none
theorem vP (l:List (List UInt8)):fM (l.map .str)=some l:=by
 induction l with
 | nil=>rfl
 | cons a r ih=>simp [fM,ih]
theorem np:∀{els:List PV} {xs:List (List UInt8)},fM els=some xs→els=xs.map .str
 | [],xs,h=>by simp [fM] at h;subst h;rfl
 | .str s::r,xs,h=>by
   simp only [fM,Option.map_eq_some_iff] at h
   obtain ⟨ys,h1,rfl⟩:=h
   rw [np h1];rfl
 | .bool _::r,_,h=>by simp [fM] at h
 | .int _ _::r,_,h=>by simp [fM] at h
 | .aE _::r,_,h=>by simp [fM] at h
 | .agg _::r,_,h=>by simp [fM] at h
def qd:List PV→Option (List PV)
 | [.aE els,.str sep]=>match fM els with
   | some xs=>if xs.length≤1000000000∧(Lib.join xs sep).length≤140737488355328 then some [.str (Lib.join xs sep)] else none
   | none=>none
 | _=>none
def GN:List PV→Option (List PV)
 | [.int .i64 n]=>if 0≤n∧n<100 then some [.str (Lib.decDigits n.toNat)] else none
 | _=>none
def l5:List PV→Option (List PV)
 | [.int .i64 n]=>if -9223372036854775808≤n∧n≤9223372036854775807 then some [.str (Lib.itoa n)] else none
 | _=>none
def qe:Array Value:=(Lib.pow10Tab.map fun z=>Value.int .u64 z).toArray
theorem vQ {f:FuncId} {g:Nat} (hpin:ns.i3 g=some qe) (hg:P.globalNamed "internal/strconv.uint64pow10"=some g)
   (h:∀n:Int,-9223372036854775808≤n→n≤9223372036854775807→∀w:World,Lib.TabIs P w "internal/strconv.uint64pow10" .u64 Lib.pow10Tab →
     Calls P f #[.int .i64 n] w fun e w'=>e=.returned (.string ⟨(Lib.itoa n).toArray⟩)∧∃k os,w'=Go.Sort.grow (w.drewN k) os) :
   ∀bZ rs,l5 bZ=some rs→qU P ns f bZ rs:=by
 intro bZ rs hp K w vs hw hk hr
 unfold l5 at hp
 split at hp
 · rename_i n
   simp only [Option.ite_none_right_eq_some,Option.some.injEq] at hp
   obtain ⟨⟨h0,h1⟩,rfl⟩:=hp
   simp only [fW] at hr
   obtain ⟨v,r,rfl,hv,rfl⟩:=hr
   have hv:v=.int .i64 n:=by simpa [Rel,R] using hv
   subst hv
   have htab:Lib.TabIs P w "internal/strconv.uint64pow10" .u64 Lib.pow10Tab:=by
     obtain ⟨t,z,hh⟩:=hw g _ hpin
     unfold Lib.TabIs World.var?
     rw [hg,Option.bind_some,hh]
     rfl
   refine (h n h0 h1 w htab).mono ?_
   rintro e w' ⟨rfl,k,os,rfl⟩
   have hb:RowKit.Below w.heap.size w (Go.Sort.grow (w.drewN k) os):=⟨rfl,rfl,rfl,by simp [Go.Sort.grow],fun b hb=>by
     simp only [Go.Sort.grow,World.heap_drewN]
     rw [Array.getElem?_append_left hb]⟩
   exact ⟨_,K,rfl,by simp [fD,Rel,R],K.le_refl,fun _ _ _ _ h=>h,hk.below hb,hb⟩
 · simp at hp
theorem wP {K:aU}:∀{xs:List (List UInt8)} {b o sz:Nat},Row K b o sz (xs.map .str)→xs≠[]→∀(j:Nat) (x:List UInt8),xs[j]?=some x→K b (o+j)=some (.string ⟨x.toArray⟩)
 | [],_,_,_,_,h,_,_,_=>absurd rfl h
 | y::r,b,o,sz,hr,_,j,x,hj=>by
   simp only [List.map_cons,Row,R] at hr
   obtain ⟨⟨vs,h1,h2,rfl⟩,h4⟩:=hr
   simp only [List.length_cons,List.length_nil] at h1
   subst h1
   cases j with
   | zero=>
     simp at hj;subst hj
     exact h2 0 _ rfl
   | succ j=>
     have hj':r[j]?=some x:=by simpa using hj
     have:=wP h4 (by intro e;subst e;simp at hj') j x hj'
     rwa [show o+(0+1)+j=o+(j+1) by omega] at this
theorem zC {f:FuncId}
   (h0:∀(a:Option Addr) (c:Nat) (sep:ByteArray) (w:World),Calls P f #[.slice a 0 c,.string sep] w fun e w'=>e=.returned (.string ⟨#[]⟩)∧w'=w)
   (h:∀(bk o c:Nat) (xs:List ByteArray) (sep:ByteArray) (w:World),(∀(j:Nat) x,xs[j]?=some x→w.cell? ⟨bk,o+j,none⟩=some (.string x))→bk<w.heap.size→xs.length≤140737488355328→xs.length≤c →
     (Lib.join (xs.map (·.data.toList)) sep.data.toList).length≤140737488355328 →
     Calls P f #[.slice (some ⟨bk,o,none⟩) xs.length c,.string sep] w fun e w'=>e=.returned (.string ⟨(Lib.join (xs.map (·.data.toList)) sep.data.toList).toArray⟩)∧RowKit.Below w.heap.size w w') :
   ∀bZ rs,qd bZ=some rs→qU P ns f bZ rs:=by
 intro bZ rs hp K w vs _ hk hr
 unfold qd at hp
 split at hp
 · rename_i els sep
   split at hp
   · rename_i xs hxs
     simp only [Option.ite_none_right_eq_some,Option.some.injEq] at hp
     obtain ⟨⟨hn,hl⟩,rfl⟩:=hp
     have:=np hxs
     subst this
     simp only [fW] at hr
     obtain ⟨v,r,rfl,hv,u,r',rfl,hu,rfl⟩:=hr
     have hu:u=.string ⟨sep.toArray⟩:=by simpa [Rel,R] using hu
     subst hu
     obtain ⟨base,len,cap,rfl,hlc,hlen,hrow⟩:=bu.1 hv
     by_cases hnil:xs=[]
     · subst hnil
       simp at hlen;subst hlen
       refine (h0 base cap _ w).mono ?_
       rintro e w' ⟨rfl,rfl⟩
       exact ⟨_,K,rfl,by simp [fD,Rel,R,Lib.join_nil],K.le_refl,fun _ _ _ _ h=>h,hk,RowKit.Below.refl _ _⟩
     · obtain ⟨b,o,sz,rfl,hrow'⟩:=hrow.resolve_left (by simpa using hnil)
       have hx:=wP hrow' hnil
       have hxl:(xs.map fun x=>(⟨x.toArray⟩:ByteArray)).length=len:=by simpa using hlen
       have hdat:(xs.map fun x=>(⟨x.toArray⟩:ByteArray)).map (fun x=>x.data.toList)=xs:=by
         rw [List.map_map]
         have:((fun x:ByteArray=>x.data.toList) ∘ fun x:List UInt8=>(⟨x.toArray⟩:ByteArray))=id:=by funext x;rfl
         rw [this,List.map_id]
       have hb:b<w.heap.size:=by
         cases xs with
         | nil=>exact absurd rfl hnil
         | cons x r=>
           have h1:=hk _ _ _ (hx 0 x rfl)
           simp only [World.cell?] at h1
           cases hc:w.heap[b]? with
           | none=>rw [hc] at h1;simp at h1
           | some c=>exact (Array.getElem?_eq_some_iff.1 hc).1
       have hc:=h b o cap (xs.map fun x=>(⟨x.toArray⟩:ByteArray)) ⟨sep.toArray⟩ w (by
         intro j x hj
         simp only [List.getElem?_map,Option.map_eq_some_iff] at hj
         obtain ⟨y,hy,rfl⟩:=hj
         exact hk _ _ _ (hx j y hy)) hb (by simp;omega) (by rw [hxl];exact hlc) (by rw [hdat];exact hl)
       rw [hxl,hdat] at hc
       refine hc.mono ?_
       rintro e w' ⟨rfl,hbw⟩
       exact ⟨_,K,rfl,by simp [fD,Rel,R],K.le_refl,fun _ _ _ _ h=>h,hk.below hbw,hbw⟩
   · simp at hp
 · simp at hp
end
end Go.Ab
namespace Go.Ab
section
variable {P:Program} {w:World}
def BO (g:Nat):Nat→Option (Array Value):=fun b=>if b=g then some qe else none
theorem zD (g:Nat):BO g g=some qe:=if_pos rfl
theorem vR {g:Nat} (hg:P.globalNamed "internal/strconv.uint64pow10"=some g) (h:Lib.TabIs P w "internal/strconv.uint64pow10" .u64 Lib.pow10Tab):CA (BO g) w:=by
 intro b c e
 unfold BO at e
 simp only [Option.ite_none_right_eq_some,Option.some.injEq] at e
 obtain ⟨rfl,rfl⟩:=e
 unfold Lib.TabIs World.var? at h
 rw [hg,Option.bind_some] at h
 split at h
 · rename_i cs t z hh
   cases h
   exact ⟨t,z,hh⟩
 · cases h
theorem oU {x:String×DataW Unit} {r:List (String×DataW Unit)} (h:laidMet P (x::r) w):laidMet P r w:=by
 obtain ⟨ps,hv,hnd,hrows⟩:=h
 obtain ⟨n,d⟩:=x
 obtain ⟨g,t,cs,fuel,p,q,_,_,_,_,hq,rfl⟩:=hv
 exact ⟨q,hq,List.Nodup.sublist (List.sublist_append_right _ _) hnd,fun b off hm=>hrows b off (List.mem_append_right _ hm)⟩
theorem BP {g t e:Nat} {x y:String×DataW Unit} {d:DataW Unit} (hg:P.globalNamed "internal/strconv.uint64pow10"=some g) (hty:(P.globals[g]?).map (·.type)=some t) (ht:P.underlying t=some (.array 20 e))
   (he:P.underlying e=some (.int .u64)) (hce:P.cellsOf e=1) (hct:P.cellsOf t=20) (hd:d=Lib.tabData .u64 Lib.pow10Tab) (h:laidMet P [x,y,("internal/strconv.uint64pow10",d)] w):CA (BO g) w:=by
 subst hd
 exact vR hg (Lib.tabIs_of_head hg hty ht he hce hct (oU (oU h)))
end
end Go.Ab
namespace Go.Ab
open Ev
def vS (o:Nat→List PV→Option (List PV)) (g:Nat):List PV→Option (List UInt8)
 | []=>some []
 | d::r=>match o g [d] with
   | some [.str s]=>(vS o g r).map (s++·)
   | _=>none
def wQ (n:Nat):PV→Bool
 | .agg cs=>cs.length == n && cs.all er
 | _=>false
def BQ (gd gb:Nat) (o:Nat→List PV→Option (List PV)):List PV→Option (List PV)
 | [.agg [.aE ds,.aE bs]]=>
   if ds.all (wQ 4)=true∧bs.all (wQ 20)=true∧ds.length<4611686018427387904∧bs.length<4611686018427387904 then
     match vS o gd ds,vS o gb bs with
     | some a,some b=>if (a++b).length≤140737488355328 then some [.str (a++b)] else none
     | _,_=>none
   else none
 | _=>none
theorem nq {o:Nat→List PV→Option (List PV)} {g:Nat}:∀{l:List PV} {s:List UInt8},vS o g l=some s →
   ∃c:List (Nat×List PV×List PV),(∀x∈c,o x.1 x.2.1=some x.2.2)∧∀o',(∀x∈c,o' x.1 x.2.1=some x.2.2)→vS o' g l=some s
 | [],s,h=>⟨[],by simp,fun _ _=>h⟩
 | d::r,s,h=>by
   simp only [vS] at h
   split at h
   · rename_i t ht
     simp only [Option.map_eq_some_iff] at h
     obtain ⟨u,hu,rfl⟩:=h
     obtain ⟨c,h1,h2⟩:=nq hu
     refine ⟨(g,[d],[.str t])::c,?_,fun o' ho=>?_⟩
     · intro x hx
       simp only [List.mem_cons] at hx
       rcases hx with rfl | hx
       · exact ht
       · exact h1 x hx
     · have e1:=ho _ (List.mem_cons_self)
       simp only [vS,e1,h2 o' (fun x hx=>ho x (List.mem_cons_of_mem _ hx)),Option.map_some]
   · cases h
def Hi (gd gb:Nat):Prim:=⟨BQ gd gb,by
 intro o x r h
 unfold BQ at h
 split at h
 · rename_i ds bs
   rw [Option.ite_none_right_eq_some] at h
   obtain ⟨hc,h⟩:=h
   split at h
   · rename_i a b ha hb
     obtain ⟨c1,f1,f2⟩:=nq ha
     obtain ⟨c2,k1,k2⟩:=nq hb
     refine ⟨c1++c2,?_,fun o' ho=>?_⟩
     · intro x hx
       rcases List.mem_append.1 hx with hx | hx
       · exact f1 x hx
       · exact k1 x hx
     · unfold BQ
       simp only
       rw [if_pos hc,f2 o' (fun x hx=>ho x (List.mem_append_left _ hx)),k2 o' (fun x hx=>ho x (List.mem_append_right _ hx))]
       exact h
   · cases h
 · cases h⟩
section
variable {T E:TypeId} {B b:Nat} {w w':World}
end
structure Wd (T E:TypeId) (B b:Nat) (acc:List UInt8) (w1 w:World):Prop where
 below:RowKit.Below B w1 w
 le:B≤w.heap.size
 d3:Lib.IsBuilder T E B b (Lib.byteCells acc) w
section
variable {P:Program} {ns:Names}
end
end Go.Ab
