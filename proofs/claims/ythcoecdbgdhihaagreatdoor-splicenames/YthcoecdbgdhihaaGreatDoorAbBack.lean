import Derived.Test.YthcoecdbgdhihaaGreatDoorAbIn
import Derived.Test.YthcoecdbgdhihaaGreatDoorAbEv
import Derived.RangeFuncIn
import Derived.RangeFuncRecord
import Derived.RangeFuncSeq
/-
  Ranges over a slice backward: the iterator's contract.
-/
set_option linter.unusedVariables false
set_option linter.unusedSimpArgs false
set_option linter.unnecessarySimpa false
set_option maxRecDepth 100000
set_option maxHeartbeats 8000000
namespace Go.Ab
open Ev
structure Qk (P:Program) (ns:Names) (f sz:Nat) (ag:Bool) where
 fn:Func
 A:lf
 o0:Array Oper
 o1:Array Oper
 o2:Array Oper
 m0:Oper
 QK:List Oper
 y:Oper
 nt:Oper
 r0:Nat
 r1:Nat
 r2:Nat
 r3:Nat
 b0:Nat
 b1:Nat
 types:Array TypeId
 tb:TypeId
 hf:P.funcs[f]?=some fn
 jA:fn.body=some (.seq (.region r0 o0 false) (.block b0 (.loop (.seq (.seq (.region r1 o1 false) (.cond (.tmp 8) .skip (.exit b0)))
   (.seq (.block b1 (.seq (.region r3 (m0::QK++[y,nt]).toArray false) (.cond (.tmp 18) .ret .skip))) (.region r2 o2 false))))))
 gk:fn.results=#[]
 hN:fn.ntmps=19
 c0:cL (db P ns A 19 o0) o0.toList=some [⟨some 4,none,[.t 1],.v (.bG 1 false)⟩,⟨some 5,none,[.t 4],.v .len⟩,⟨some 6,none,[.t 5,.c (.pv (.int .i64 1))],.v (.bin .sub)⟩,⟨some 3,none,[.t 6],.v .mv⟩]
 c1:cL (db P ns A 19 o1) o1.toList=some [⟨some 7,none,[.t 3],.v .mv⟩,⟨some 8,none,[.t 7,.c (.pv (.int .i64 0))],.v (.bin .geq)⟩]
 c2:cL (db P ns A 19 o2) o2.toList=some [⟨some 9,none,[.t 3],.v .mv⟩,⟨some 10,none,[.t 9,.c (.pv (.int .i64 1))],.v (.bin .sub)⟩,⟨some 3,none,[.t 10],.v .mv⟩]
 h0:m0.op=.move (.tmp 0)∧m0.dst=some 11∧m0.guard=none
 c3:cL (db P ns A 19 (m0::QK++[y,nt]).toArray) QK=some [⟨some 12,none,[.t 3],.v .mv⟩,⟨some 13,none,[.t 1],.v (.bG 1 false)⟩,⟨some 14,none,[.t 3],.v .mv⟩,⟨some 15,none,[.t 13,.t 14],.v (.aA sz)⟩,⟨some 16,none,[.t 15],.v (.bG sz ag)⟩]
 hy:y.op=.call { callee:=.value (.tmp 11),args:=#[.tmp 12,.tmp 16],argTypes:=types }∧y.dst=some 17∧y.guard=none
 hn:nt.op=.unOp .not tb (.tmp 17)∧nt.dst=some 18∧nt.guard=none
section
variable {P:Program} {ns:Names}
theorem ie {n0:Nat} {ro:Option Nat} {n:Nat} (hB:eT P ns) {orc:ep} (horc:gF P ns orc) {A:lf} {N:Nat} {ops:Array Oper} {Q:Exit→Act→World→Prop} {rest:List Oper}:∀{l:List Oper} {as:List dv} {st st':St} {G:Gh} {a:Act} {w:World},
   cL (db P ns A N ops) l=some as→gT (num ns) n0 N G st a w→bQ orc as st=some st' →
   (∀G' a' w',gT (num ns) n0 N G' st' a' w'→cq G w G' w'→a'.defers=a.defers→(∀t,(∀ao∈as,ao.dst≠some t)→a'.tmps[t]?=a.tmps[t]?)→wpListIn (s7 ro) n P ops Q rest a' w')→wpListIn (s7 ro) n P ops Q (l++rest) a w
 | [],as,st,st',G,a,w,hc,hs,hev,hq=>by
   simp [cL] at hc;subst hc;simp [bQ] at hev;subst hev;exact hq G a w hs (cq.refl G w) rfl (fun _ _=>rfl)
 | o::l,as,st,st',G,a,w,hc,hs,hev,hq=>by
   simp only [cL] at hc;split at hc
   · rename_i ao aos h1 h2;simp at hc;subst hc;simp only [bQ] at hev;split at hev
     · simp at hev
     · rename_i st1 hst1;rw [List.cons_append];unfold wpListIn;have hd:ao.dst=o.dst:=by obtain ⟨_,_,_,h,_⟩:=ku h1;exact h
       have hput:∀(a:Act) (v:Value) t,ao.dst≠some t→(a.put o.dst v).tmps[t]?=a.tmps[t]?:=by
         intro a v t ht;rw [hd] at ht;cases ho:o.dst with
         | none=>rfl
         | some d=>
           rw [ho] at ht;simp only [Act.put];rw [Array.getElem?_setIfInBounds_ne];intro e;exact ht (by rw [e])
       exact vw hB horc h1 hs hst1 (fun G' v w' hs' he=>ie hB horc h2 hs' hev (fun G'' a'' w'' hs'' he' hdf hk=>hq G'' a'' w'' hs'' (he.trans he') (hdf.trans (put_defers _ _ _)) (fun t ht=>by
         rw [hk t (fun ao' h=>ht ao' (by simp [h]))];exact hput a v t (ht ao (by simp)))))
   · simp at hc
theorem uj {F:Fence} {n:Nat} {ops:Array Oper} {Q:Exit→Act→World→Prop} {rest:List Oper} {o:Oper} {x:Operand} {a:Act} {w:World} (hF:∀f,F.fn f) (ho:o.op=.move x) (hg:o.guard=none)
   (h:wpListIn F n P ops Q rest (a.put o.dst (a.eval x)) w):wpListIn F n P ops Q (o::rest) a w:=by
 unfold wpListIn;have hw:Region.wanted o (yielded ops a.tmps)=true:=by simp [Region.wanted,hg]
 rw [if_pos hw];refine ⟨fun _ _=>hF _,?_⟩;rw [Oper.semAt_eq _ _ _ (by intro c e;rw [ho] at e;cases e)];have hr:(execOp a.eval o).run P w=.ok (.value (a.eval x)) w:=by
   obtain ⟨dst,op,type,pos,after,guard⟩:=o;simp only at ho;subst ho;simp [execOp]
 rw [hr];exact h
def oR:bH→Exit
 | .normal=>.normal
 | .ret=>.ret
 | .exit id=>.exit id
end
end Go.Ab
