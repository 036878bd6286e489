import Derived.Test.YtcjggpmnbcfedaaGreatDoorAbSim
import Derived.Test.YtcjggpmnbcfedaaGreatDoorAbComp
import Derived.Laws.Cells
import Derived.Laws.CopyRow
import Derived.Laws.Entries
import Derived.Laws.Strings
/-
  Operations on values alone: what the slim operation gives is what the model's gives.
-/
set_option linter.unusedVariables false
set_option linter.unusedSimpArgs false
set_option linter.unnecessarySimpa false
set_option maxRecDepth 100000
set_option maxHeartbeats 8000000
namespace Go.Ab
section
variable {P:Program} {ns:Names} {G:Gh} {w:World}
abbrev num (ns:Names):cr:=fun g f=>ns.of f=some g
theorem dV {t n:Nat} (h:cR P t=some n) (w:World):(sizeOf t).run P w=.ok n w:=by
 unfold cR at h
 cases hi:P.info? t with
 | none=>simp [hi] at h
 | some i=>simp [hi] at h;simp [sizeOf,typeInfo,hi,h]
theorem lZ {t n:Nat} (h:eD P t=some n) (w:World):∃i,P.info? t=some i∧i.bytes=n∧(typeInfo t).run P w=.ok i w:=by
 unfold eD at h
 cases hi:P.info? t with
 | none=>simp [hi] at h
 | some i=>simp [hi] at h;exact ⟨i,rfl,h,by simp [typeInfo,hi]⟩
theorem gN {t:Nat} {b:Bool} (h:gj P t=some b) (w:World):(isAgg t).run P w=.ok b w:=by
 unfold gj at h
 cases hu:P.underlying t with
 | none=>simp [hu] at h
 | some d=>
   simp [hu] at h
   simp only [isAgg,Sem.run_bind,run_underlying hu,Result.andThen_ok]
   cases d<;>simp_all
theorem jn {K:bB} {v:Value} {p:PV} (h:dZ v=some p):R K false p [v]∧eA p=true:=by
 cases v with
 | bool b=>simp [dZ] at h;subst h;simp [R,eA]
 | int k n=>simp [dZ] at h;subst h;simp [R,eA]
 | string s=>simp [dZ] at h;subst h;simp [R,eA]
 | slice a l c=>
   cases a with
   | some a=>simp [dZ] at h
   | none=>
     cases l with
     | succ l=>simp [dZ] at h
     | zero=>
       cases c with
       | succ c=>simp [dZ] at h
       | zero=>
         simp [dZ] at h;subst h
         refine ⟨?_,rfl⟩
         simp only [R]
         exact ⟨none,0,0,rfl,Nat.le_refl _,rfl,by simp⟩
 | _=>simp [dZ] at h
theorem A8 {v:Value} {x:AV} (h:A6 v=some x):au (num ns) G x v:=by
 unfold A6 at h
 split at h
 · simp at h;subst h;simp only [au];exact ⟨none,0,rfl,rfl,.inl rfl⟩
 · simp at h;subst h;simp [au]
 · simp at h;subst h;simp [au]
 · cases hc:dZ v with
   | none=>simp [hc] at h
   | some p=>simp [hc] at h;subst h;simp only [au];exact Rel.Ja (jn hc).1
theorem Ej {N:Nat} {env:List (Nat×AV)} {a:Act} (he:lY (num ns) G N env a) {x:Operand} {ax:fF} {v:AV}
   (hc:ja ns x=some ax) (hv:ir env ax=some v):au (num ns) G v (a.eval x):=by
 cases x with
 | tmp t=>
   simp [ja] at hc;subst hc
   obtain ⟨rv,h1,h2⟩:=he.env t v (by simpa [ir] using hv)
   have:a.eval (.tmp t)=rv:=by simp [Act.eval,h1]
   rw [this];exact h2
 | const c=>
   simp only [ja,Option.map_eq_some_iff] at hc
   obtain ⟨x,h1,rfl⟩:=hc
   simp [ir] at hv;subst hv
   exact A8 h1
 | func f=>
   simp only [ja,Option.map_eq_some_iff] at hc
   obtain ⟨g,h1,rfl⟩:=hc
   simp [ir] at hv;subst hv
   simp only [au]
   exact ⟨f,[],h1,rfl,by simp [aw]⟩
 | global g=>simp [ja] at hc
theorem xW {N:Nat} {env:List (Nat×AV)} {a:Act} (he:lY (num ns) G N env a):∀{xs:List Operand} {as:List fF} {vs:List AV},
   cH (ja ns) xs=some as→ew env as=some vs→aw (num ns) G vs (xs.map a.eval)
 | [],as,vs,hc,hv=>by
   simp [cH] at hc;subst hc;simp [ew] at hv;subst hv;simp [aw]
 | x::xs,as,vs,hc,hv=>by
   simp only [cH] at hc
   split at hc
   · rename_i ax axs h1 h2
     simp at hc;subst hc
     simp only [ew] at hv
     split at hv
     · rename_i v vs' g1 g2
       simp at hv;subst hv
       simp only [List.map_cons,aw]
       exact ⟨_,_,rfl,Ej he h1 g1,xW he h2 g2⟩
     · simp at hv
   · simp at hc
theorem toList_mk (l:List UInt8):(ByteArray.mk l.toArray).toList=l:=by
 rw [ByteArray.toList_eq]
theorem rY:∀(a b:List UInt8),dM.gX a b=Op.bytesLess a b
 | _,[]=>by simp [dM.gX,Op.bytesLess]
 | [],_::_=>by simp [dM.gX,Op.bytesLess]
 | a::x,b::y=>by simp [dM.gX,Op.bytesLess,rY x y]
theorem cD {K:bB} {k:IntKind} {n:Int} {v:Value}:Rel K (.int k n) v↔v=.int k n:=by simp [Rel,R]
theorem fU {K:bB} {b:Bool} {v:Value}:Rel K (.bool b) v↔v=.bool b:=by simp [Rel,R]
theorem jK {K:bB} {s:List UInt8} {v:Value}:Rel K (.str s) v↔v=.string ⟨s.toArray⟩:=by simp [Rel,R]
theorem dW {ρ:cr} {k:IntKind} {n:Int}:au ρ G (.pv (.int k n)) (.int k n):=by simp only [au];exact cD.2 rfl
theorem kz {ρ:cr} {b:Bool}:au ρ G (.pv (.bool b)) (.bool b):=by simp only [au];exact fU.2 rfl
theorem rZ {ρ:cr} {s:List UInt8}:au ρ G (.pv (.str s)) (.string ⟨s.toArray⟩):=by simp only [au];exact jK.2 rfl
theorem ql {op:BinOp} {t:TypeId} {x y z:AV} {vx vy:Value} (hx:au (num ns) G x vx) (hy:au (num ns) G y vy)
   (h:dM op x y=some z) (ox oy:Operand):∃v,(do eqGuard op t ox oy vx vy;binOp op t vx vy:Sem Value).run P w=.ok v w∧au (num ns) G z v:=by
 unfold dM at h
 split at h
 · rename_i k a k' b
   simp only [au,cD] at hx hy
   subst hx;subst hy
   have hg:(eqGuard op t ox oy (.int k a) (.int k' b)).run P w=.ok () w:=by cases op<;>simp [eqGuard]
   simp only [Sem.run_bind,hg,Result.andThen_ok]
   split at h
   · rename_i hk
     cases op<;>simp only [reduceCtorEq,or_false,or_self,or_true] at hk<;>simp at h
     case add=>subst hk;subst h;exact ⟨_,by simp [binOp,Op.intArith],dW⟩
     case sub=>subst hk;subst h;exact ⟨_,by simp [binOp,Op.intArith],dW⟩
     case mul=>subst hk;subst h;exact ⟨_,by simp [binOp,Op.intArith],dW⟩
     case quo=>subst hk;obtain ⟨h1,h⟩:=h;subst h;exact ⟨_,by simp [binOp,Op.intDiv,h1],dW⟩
     case rem=>subst hk;obtain ⟨h1,h⟩:=h;subst h;exact ⟨_,by simp [binOp,Op.intDiv,h1],dW⟩
     case and=>subst hk;subst h;exact ⟨_,by simp [binOp,Op.intBits],dW⟩
     case shl=>obtain ⟨h1,h⟩:=h;subst h;exact ⟨_,by simp [binOp,Op.shift,Int.not_lt.2 h1],dW⟩
     case shr=>obtain ⟨h1,h⟩:=h;subst h;exact ⟨_,by simp [binOp,Op.shift,Int.not_lt.2 h1],dW⟩
     all_goals (subst hk;subst h;exact ⟨_,by simp [binOp,Op.intCmp],kz⟩)
   · simp at h
 · rename_i a b
   simp only [au,jK] at hx hy
   subst hx;subst hy
   have hg:(eqGuard op t ox oy (.string ⟨a.toArray⟩) (.string ⟨b.toArray⟩)).run P w=.ok () w:=by cases op<;>simp [eqGuard]
   simp only [Sem.run_bind,hg,Result.andThen_ok]
   cases op<;>simp at h
   case add=>
     obtain ⟨h1,h⟩:=h;subst h
     have h2:¬((((ByteArray.mk a.toArray).size+(ByteArray.mk b.toArray).size:Nat):Int) > IntKind.i64.max):=by
       have e1:(ByteArray.mk a.toArray).size=a.length:=by simp [ByteArray.size]
       have e2:(ByteArray.mk b.toArray).size=b.length:=by simp [ByteArray.size]
       rw [e1,e2]
       have:IntKind.i64.max=9223372036854775807:=by decide
       rw [this];omega
     have h3:(ByteArray.mk a.toArray)++(ByteArray.mk b.toArray)=ByteArray.mk (a++b).toArray:=by
       apply ByteArray.ext
       simp
     exact ⟨_,by simp only [binOp,Op.stringOp,if_neg h2,h3];rfl,rZ⟩
   all_goals (subst h;exact ⟨_,by simp only [binOp,Op.stringOp,toList_mk,←rY,Sem.run_pure,Bool.not_or],kz⟩)
 · simp at h
theorem run_equalIn_bool (d:Nat) {t:TypeId} (hu:P.underlying t=some .bool) (a b:Bool):(Op.equalIn (d+1) t (.bool a) (.bool b)).run P w=.ok (a == b) w:=by
 simp only [Op.equalIn,Sem.run_bind,run_underlying hu,Result.andThen_ok,Sem.run_pure]
theorem run_equal_bool {t:TypeId} (hu:P.underlying t=some .bool) (a b:Bool):(Op.equal t (.bool a) (.bool b)).run P w=.ok (a == b) w:=
 run_equalIn_bool 9999 hu a b
theorem xX {op:BinOp} {t:TypeId} {neg:Bool} (hu:P.underlying t=some .bool) (hop:(op=.eql∧neg=false)∨(op=.neq∧neg=true)) (a b:Bool) (ox oy:Operand) :
   (do eqGuard op t ox oy (.bool a) (.bool b);binOp op t (.bool a) (.bool b):Sem Value).run P w=.ok (.bool (if neg then !(a == b) else (a == b))) w:=by
 rcases hop with ⟨rfl,rfl⟩ | ⟨rfl,rfl⟩
 · have hg:(eqGuard .eql t ox oy (.bool a) (.bool b)).run P w=.ok () w:=by simp [eqGuard]
   simp only [Sem.run_bind,hg,Result.andThen_ok,binOp,run_equal_bool hu,Sem.run_pure]
   rfl
 · have hg:(eqGuard .neq t ox oy (.bool a) (.bool b)).run P w=.ok () w:=by simp [eqGuard]
   simp only [Sem.run_bind,hg,Result.andThen_ok,binOp,run_equal_bool hu,Sem.run_pure]
   rfl
end
end Go.Ab
