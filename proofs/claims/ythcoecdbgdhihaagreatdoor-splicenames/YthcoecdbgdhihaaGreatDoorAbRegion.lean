import Derived.Test.YthcoecdbgdhihaaGreatDoorAbStep
import Derived.Orders
import Derived.Tactics
/-
  A region: in the order of the text, and in whatever order the tape picks.
-/
set_option linter.unusedVariables false
set_option linter.unusedSimpArgs false
set_option linter.unnecessarySimpa false
set_option maxRecDepth 100000
set_option maxHeartbeats 8000000
namespace Go.Ab
section
variable {n0:Nat} {P:Program} {ns:Names} {G:Gh} {w:World}
theorem lu.mono {G':Gh} {N:Nat} {env:List (Nat×AV)} {a:Act} (h:lu (num ns) G N env a) (hle:G.le G'):lu (num ns) G' N env a:=
 ⟨h.size,fun t x hx=>let ⟨v,h1,h2⟩:=h.env t x hx;⟨v,h1,h2.mono hle⟩⟩
theorem lu.put {N:Nat} {env:List (Nat×AV)} {a:Act} (h:lu (num ns) G N env a) {dst:Option Nat} (hd:(dst.map (fun d=>decide (d<N))).getD true=true) {x:AV} {v:Value} (hx:aC (num ns) G x v) :
   lu (num ns) G N (fY env dst x) (a.put dst v):=by
 cases dst with
 | none=>exact h
 | some d=>
   simp at hd;refine ⟨by simp [Act.put,h.size],fun t y hy=>?_⟩;simp only [fY] at hy;by_cases ht:d=t
   · subst ht;rw [bX] at hy;cases hy;exact ⟨v,by simp [Act.put,h.size,hd],hx⟩
   · rw [cr _ _ _ _ ht] at hy;obtain ⟨u,h1,h2⟩:=h.env t y hy;exact ⟨u,by simp only [Act.put];rw [Array.getElem?_setIfInBounds_ne ht];exact h1,h2⟩
theorem put_defers (a:Act) (dst:Option Nat) (v:Value):(a.put dst v).defers=a.defers:=by cases dst<;>rfl
theorem ku {A:lf} {N:Nat} {ops:Array Oper} {o:Oper} {ao:dv} (h:db P ns A N ops o=some ao) :
   ∃args,cm P ns A o.dst o.op=some (ao.op,args)∧cL (iM ns) args=some ao.args∧ao.dst=o.dst∧(o.dst.map (fun d=>decide (d<N))).getD true=true ∧
     ((o.guard=none∧ao.guard=none)∨∃j b t,o.guard=some (j,b)∧(ops[j]?).bind (·.dst)=some t∧ao.guard=some (t,b)):=by
 unfold db at h;split at h
 · rename_i k args hk;split at h
   · rename_i as ha;simp only [Option.ite_none_right_eq_some] at h;obtain ⟨hd,h⟩:=h;split at h
     · rename_i hg;simp at h;subst h;exact ⟨args,hk,ha,rfl,hd,.inl ⟨hg,rfl⟩⟩
     · rename_i j b hg;split at h
       · rename_i t ht;simp at h;subst h;exact ⟨args,hk,ha,rfl,hd,.inr ⟨j,b,t,hg,ht,rfl⟩⟩
       · simp at h
   · simp at h
 · simp at h
theorem nK {A:lf} {N:Nat} {ops:Array Oper} {o:Oper} {ao:dv} {env:List (Nat×AV)} {a:Act} (h:db P ns A N ops o=some ao) (he:lu (num ns) G N env a) {r:Bool}
   (hw:fG env ao.guard=some r):Region.wanted o (yielded ops a.tmps)=r:=by
 obtain ⟨_,_,_,_,_,hg⟩:=ku h;rcases hg with ⟨h1,h2⟩ | ⟨j,b,t,h1,h2,h3⟩
 · rw [h2] at hw;simp [fG] at hw;simp [Region.wanted,h1,hw]
 · rw [h3] at hw;simp only [fG] at hw;split at hw
   · rename_i c hc;obtain ⟨v,e1,e2⟩:=he.env t _ hc;simp only [aC,iv] at e2;simp at hw;simp [Region.wanted,h1,yielded,h2,e1,e2,hw]
   · rename_i hc;obtain ⟨v,e1,e2⟩:=he.env t _ hc;simp only [aC] at e2;simp at hw;simp [Region.wanted,h1,yielded,h2,e1,e2,undef,←hw]
   · simp at hw
theorem z_ (hB:eT P ns) {orc:ep} (horc:gF P ns orc) {A:lf} {N:Nat} {ops:Array Oper} {o:Oper} {ao:dv} (hc:db P ns A N ops o=some ao)
   {st st':St} {a:Act} (hs:gT (num ns) n0 N G st a w) (hev:eg orc ao st=some st') {next:Act→World→Prop} {Q:Exit→Act→World→Prop}
   (hn:∀G' v w',gT (num ns) n0 N G' st' (a.put o.dst v) w'→cq G w G' w'→next (a.put o.dst v) w') :
   (Region.wanted o (yielded ops a.tmps)=true∧o.wp P a w next Q)∨(Region.wanted o (yielded ops a.tmps)=false∧next (a.put o.dst undef) w):=by
 obtain ⟨args,h1,h2,h3,h4,_⟩:=ku hc;unfold eg at hev;split at hev
 · simp at hev
 · rename_i hw;right;refine ⟨nK hc hs.env hw,?_⟩;simp at hev;subst hev;refine hn G _ w ⟨?_,hs.inv,hs.marks.pn (cq.refl G w) (put_defers _ _ _)⟩ (cq.refl G w);simp only [h3];exact hs.env.put h4 (by simp [aC])
 · rename_i hw;left;refine ⟨nK hc hs.env hw,?_⟩;split at hev
   · simp at hev
   · rename_i vals hv;split at hev
     · simp at hev
     · rename_i out ho;simp at hev;subst hev;have hr:=wP hs.env h2 hv;refine JP hB horc h1 hr hs.inv ho ?_;intro v w' G' g1 g2 g3 g4;refine hn G' _ w' ⟨?_,g2,hs.marks.pn g4 (put_defers _ _ _)⟩ g4;simp only [h3];exact (hs.env.mono g3).put h4 g1
end
end Go.Ab
