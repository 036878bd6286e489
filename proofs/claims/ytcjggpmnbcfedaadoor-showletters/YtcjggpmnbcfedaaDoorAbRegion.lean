import Derived.Test.YtcjggpmnbcfedaaDoorAbStep
import Derived.Orders
import Derived.Tactics
/-
  A region: in the order of the text, and in whatever order the tape picks.
-/
set_option linter.unusedVariables false
set_option linter.unusedSimpArgs false
set_option linter.unnecessarySimpa false
set_option maxRecDepth 100000
set_option maxHeartbeats 8000000
namespace Go.Ab
section
variable {n0:Nat} {P:Program} {ns:Names} {G:Gh} {w:World}
theorem ia.mono {G':Gh} {N:Nat} {env:List (Nat×AV)} {a:Act} (h:ia (num ns) G N env a) (hle:G.le G'):ia (num ns) G' N env a:=
 ⟨h.size,fun t x hx=>let ⟨v,h1,h2⟩:=h.env t x hx;⟨v,h1,h2.mono hle⟩⟩
theorem ia.put {N:Nat} {env:List (Nat×AV)} {a:Act} (h:ia (num ns) G N env a) {dst:Option Nat} (hd:(dst.map (fun d=>decide (d<N))).getD true=true) {x:AV} {v:Value} (hx:ah (num ns) G x v) :
   ia (num ns) G N (dq env dst x) (a.put dst v):=by
 cases dst with
 | none=>exact h
 | some d=>
   simp at hd
   refine ⟨by simp [Act.put,h.size],fun t y hy=>?_⟩
   simp only [dq] at hy
   by_cases ht:d=t
   · subst ht
     rw [aS] at hy
     cases hy
     exact ⟨v,by simp [Act.put,h.size,hd],hx⟩
   · rw [aL _ _ _ _ ht] at hy
     obtain ⟨u,h1,h2⟩:=h.env t y hy
     exact ⟨u,by simp only [Act.put];rw [Array.getElem?_setIfInBounds_ne ht];exact h1,h2⟩
theorem put_defers (a:Act) (dst:Option Nat) (v:Value):(a.put dst v).defers=a.defers:=by cases dst<;>rfl
theorem gJ {A:hO} {N:Nat} {ops:Array Oper} {o:Oper} {ao:bN} (h:dh P ns A N ops o=some ao) :
   ∃args,aG P ns A o.dst o.op=some (ao.op,args)∧bu (eE ns) args=some ao.args∧ao.dst=o.dst∧(o.dst.map (fun d=>decide (d<N))).getD true=true ∧
     ((o.guard=none∧ao.guard=none)∨∃j b t,o.guard=some (j,b)∧(ops[j]?).bind (·.dst)=some t∧ao.guard=some (t,b)):=by
 unfold dh at h
 split at h
 · rename_i k args hk
   split at h
   · rename_i as ha
     simp only [Option.ite_none_right_eq_some] at h
     obtain ⟨hd,h⟩:=h
     split at h
     · rename_i hg
       simp at h;subst h
       exact ⟨args,hk,ha,rfl,hd,.inl ⟨hg,rfl⟩⟩
     · rename_i j b hg
       split at h
       · rename_i t ht
         simp at h;subst h
         exact ⟨args,hk,ha,rfl,hd,.inr ⟨j,b,t,hg,ht,rfl⟩⟩
       · simp at h
   · simp at h
 · simp at h
theorem jy {A:hO} {N:Nat} {ops:Array Oper} {o:Oper} {ao:bN} {env:List (Nat×AV)} {a:Act} (h:dh P ns A N ops o=some ao) (he:ia (num ns) G N env a) {r:Bool}
   (hw:dm env ao.guard=some r):Region.wanted o (yielded ops a.tmps)=r:=by
 obtain ⟨_,_,_,_,_,hg⟩:=gJ h
 rcases hg with ⟨h1,h2⟩ | ⟨j,b,t,h1,h2,h3⟩
 · rw [h2] at hw
   simp [dm] at hw
   simp [Region.wanted,h1,hw]
 · rw [h3] at hw
   simp only [dm] at hw
   split at hw
   · rename_i c hc
     obtain ⟨v,e1,e2⟩:=he.env t _ hc
     simp only [ah,dj] at e2
     simp at hw
     simp [Region.wanted,h1,yielded,h2,e1,e2,hw]
   · rename_i hc
     obtain ⟨v,e1,e2⟩:=he.env t _ hc
     simp only [ah] at e2
     simp at hw
     simp [Region.wanted,h1,yielded,h2,e1,e2,undef,←hw]
   · simp at hw
theorem ru (hB:dS P ns) {orc:cZ} (horc:ej P ns orc) {A:hO} {N:Nat} {ops:Array Oper} {o:Oper} {ao:bN} (hc:dh P ns A N ops o=some ao)
   {st st':St} {a:Act} (hs:dt (num ns) n0 N G st a w) (hev:cr orc ao st=some st') {next:Act→World→Prop} {Q:Exit→Act→World→Prop}
   (hn:∀G' v w',dt (num ns) n0 N G' st' (a.put o.dst v) w'→aN G w G' w'→next (a.put o.dst v) w') :
   (Region.wanted o (yielded ops a.tmps)=true∧o.wp P a w next Q)∨(Region.wanted o (yielded ops a.tmps)=false∧next (a.put o.dst undef) w):=by
 obtain ⟨args,h1,h2,h3,h4,_⟩:=gJ hc
 unfold cr at hev
 split at hev
 · simp at hev
 · rename_i hw
   right
   refine ⟨jy hc hs.env hw,?_⟩
   simp at hev;subst hev
   refine hn G _ w ⟨?_,hs.inv,hs.marks.mr (aN.refl G w) (put_defers _ _ _)⟩ (aN.refl G w)
   simp only [h3]
   exact hs.env.put h4 (by simp [ah])
 · rename_i hw
   left
   refine ⟨jy hc hs.env hw,?_⟩
   split at hev
   · simp at hev
   · rename_i vals hv
     split at hev
     · simp at hev
     · rename_i out ho
       simp at hev;subst hev
       have hr:=oP hs.env h2 hv
       refine zh hB horc h1 hr hs.inv ho ?_
       intro v w' G' g1 g2 g3 g4
       refine hn G' _ w' ⟨?_,g2,hs.marks.mr g4 (put_defers _ _ _)⟩ g4
       simp only [h3]
       exact (hs.env.mono g3).put h4 g1
end
end Go.Ab
