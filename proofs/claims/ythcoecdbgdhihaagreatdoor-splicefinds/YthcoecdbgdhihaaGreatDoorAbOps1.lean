import Derived.Test.YthcoecdbgdhihaaGreatDoorAbSim
import Derived.Test.YthcoecdbgdhihaaGreatDoorAbComp
import Derived.Laws.Cells
import Derived.Laws.CopyRow
import Derived.Laws.Entries
import Derived.Laws.Strings
/-
  Operations on values alone: what the slim operation gives is what the model's gives.
-/
set_option linter.unusedVariables false
set_option linter.unusedSimpArgs false
set_option linter.unnecessarySimpa false
set_option maxRecDepth 100000
set_option maxHeartbeats 8000000
namespace Go.Ab
section
variable {P:Program} {ns:Names} {G:Gh} {w:World}
abbrev num (ns:Names):cx:=⟨fun g f=>ns.of f=some g,ns.jM⟩
theorem dF {t n:Nat} (h:cT P t=some n) (w:World):(sizeOf t).run P w=.ok n w:=by
 unfold cT at h
 cases hi:P.info? t with
 | none=>simp [hi] at h
 | some i=>simp [hi] at h;simp [sizeOf,typeInfo,hi,h]
theorem lf {t n:Nat} (h:eR P t=some n) (w:World):∃i,P.info? t=some i∧i.bytes=n∧(typeInfo t).run P w=.ok i w:=by
 unfold eR at h
 cases hi:P.info? t with
 | none=>simp [hi] at h
 | some i=>simp [hi] at h;exact ⟨i,rfl,h,by simp [typeInfo,hi]⟩
theorem gv {t:Nat} {b:Bool} (h:fC P t=some b) (w:World):(isAgg t).run P w=.ok b w:=by
 unfold fC at h
 cases hu:P.underlying t with
 | none=>simp [hu] at h
 | some d=>
   simp [hu] at h
   simp only [isAgg,Sem.run_bind,run_underlying hu,Result.andThen_ok]
   cases d<;>simp_all
theorem mz {K:bE} {v:Value} {p:PV} (h:dW v=some p):R K false p [v]∧eD p=true:=by
 cases v with
 | bool b=>simp [dW] at h;subst h;simp [R,eD]
 | int k n=>simp [dW] at h;subst h;simp [R,eD]
 | string s=>simp [dW] at h;subst h;simp [R,eD]
 | slice a l c=>
   cases a with
   | some a=>simp [dW] at h
   | none=>
     cases l with
     | succ l=>simp [dW] at h
     | zero=>
       cases c with
       | succ c=>simp [dW] at h
       | zero=>
         simp [dW] at h;subst h
         refine ⟨?_,rfl⟩
         simp only [R]
         exact ⟨none,0,0,rfl,Nat.le_refl _,rfl,by simp⟩
 | _=>simp [dW] at h
theorem zd {v:Value} {x:AV} (h:zb v=some x):aC (num ns) G x v:=by
 unfold zb at h
 split at h
 · simp at h;subst h;simp only [aC];exact ⟨none,0,rfl,rfl,.inl rfl⟩
 · simp at h;subst h;simp [aC]
 · simp at h;subst h;simp [aC]
 · cases hc:dW v with
   | none=>simp [hc] at h
   | some p=>simp [hc] at h;subst h;simp only [aC];exact Rel.IG (mz hc).1
theorem BX {N:Nat} {env:List (Nat×AV)} {a:Act} (he:lb (num ns) G N env a) {x:Operand} {ax:eU} {v:AV}
   (hc:iI ns x=some ax) (hv:gT env ax=some v):aC (num ns) G v (a.eval x):=by
 cases x with
 | tmp t=>
   simp [iI] at hc;subst hc
   obtain ⟨rv,h1,h2⟩:=he.env t v (by simpa [gT] using hv)
   have:a.eval (.tmp t)=rv:=by simp [Act.eval,h1]
   rw [this];exact h2
 | const c=>
   simp only [iI,Option.map_eq_some_iff] at hc
   obtain ⟨x,h1,rfl⟩:=hc
   simp [gT] at hv;subst hv
   exact zd h1
 | func f=>
   simp only [iI,Option.map_eq_some_iff] at hc
   obtain ⟨g,h1,rfl⟩:=hc
   simp [gT] at hv;subst hv
   simp only [aC]
   exact ⟨f,[],h1,rfl,by simp [az]⟩
 | global g=>simp [iI] at hc
theorem we {N:Nat} {env:List (Nat×AV)} {a:Act} (he:lb (num ns) G N env a):∀{xs:List Operand} {as:List eU} {vs:List AV},
   cK (iI ns) xs=some as→ef env as=some vs→az (num ns) G vs (xs.map a.eval)
 | [],as,vs,hc,hv=>by
   simp [cK] at hc;subst hc;simp [ef] at hv;subst hv;simp [az]
 | x::xs,as,vs,hc,hv=>by
   simp only [cK] at hc
   split at hc
   · rename_i ax axs h1 h2
     simp at hc;subst hc
     simp only [ef] at hv
     split at hv
     · rename_i v vs' g1 g2
       simp at hv;subst hv
       simp only [List.map_cons,az]
       exact ⟨_,_,rfl,BX he h1 g1,we he h2 g2⟩
     · simp at hv
   · simp at hc
theorem toList_mk (l:List UInt8):(ByteArray.mk l.toArray).toList=l:=by
 rw [ByteArray.toList_eq]
theorem qD:∀(a b:List UInt8),dR.iH a b=Op.bytesLess a b
 | _,[]=>by simp [dR.iH,Op.bytesLess]
 | [],_::_=>by simp [dR.iH,Op.bytesLess]
 | a::x,b::y=>by simp [dR.iH,Op.bytesLess,qD x y]
theorem cA {K:bE} {k:IntKind} {n:Int} {v:Value}:Rel K (.int k n) v↔v=.int k n:=by simp [Rel,R]
theorem im {K:bE} {b:Bool} {v:Value}:Rel K (.bool b) v↔v=.bool b:=by simp [Rel,R]
theorem jT {K:bE} {s:List UInt8} {v:Value}:Rel K (.str s) v↔v=.string ⟨s.toArray⟩:=by simp [Rel,R]
theorem dG {ρ:cx} {k:IntKind} {n:Int}:aC ρ G (.pv (.int k n)) (.int k n):=by simp only [aC];exact cA.2 rfl
theorem jO {ρ:cx} {b:Bool}:aC ρ G (.pv (.bool b)) (.bool b):=by simp only [aC];exact im.2 rfl
theorem qE {ρ:cx} {s:List UInt8}:aC ρ G (.pv (.str s)) (.string ⟨s.toArray⟩):=by simp only [aC];exact jT.2 rfl
theorem oU {op:BinOp} {t:TypeId} {x y z:AV} {vx vy:Value} (hx:aC (num ns) G x vx) (hy:aC (num ns) G y vy)
   (h:dR op x y=some z) (ox oy:Operand):∃v,(do eqGuard op t ox oy vx vy;binOp op t vx vy:Sem Value).run P w=.ok v w∧aC (num ns) G z v:=by
 unfold dR at h
 split at h
 · rename_i k a k' b
   simp only [aC,cA] at hx hy
   subst hx;subst hy
   have hg:(eqGuard op t ox oy (.int k a) (.int k' b)).run P w=.ok () w:=by cases op<;>simp [eqGuard]
   simp only [Sem.run_bind,hg,Result.andThen_ok]
   split at h
   · rename_i hk
     cases op<;>simp only [reduceCtorEq,or_false,or_self,or_true] at hk<;>simp at h
     case add=>subst hk;subst h;exact ⟨_,by simp [binOp,Op.intArith],dG⟩
     case sub=>subst hk;subst h;exact ⟨_,by simp [binOp,Op.intArith],dG⟩
     case mul=>subst hk;subst h;exact ⟨_,by simp [binOp,Op.intArith],dG⟩
     case quo=>subst hk;obtain ⟨h1,h⟩:=h;subst h;exact ⟨_,by simp [binOp,Op.intDiv,h1],dG⟩
     case rem=>subst hk;obtain ⟨h1,h⟩:=h;subst h;exact ⟨_,by simp [binOp,Op.intDiv,h1],dG⟩
     case and=>subst hk;subst h;exact ⟨_,by simp [binOp,Op.intBits],dG⟩
     case shl=>obtain ⟨h1,h⟩:=h;subst h;exact ⟨_,by simp [binOp,Op.shift,Int.not_lt.2 h1],dG⟩
     case shr=>obtain ⟨h1,h⟩:=h;subst h;exact ⟨_,by simp [binOp,Op.shift,Int.not_lt.2 h1],dG⟩
     all_goals (subst hk;subst h;exact ⟨_,by simp [binOp,Op.intCmp],jO⟩)
   · simp at h
 · rename_i a b
   simp only [aC,jT] at hx hy
   subst hx;subst hy
   have hg:(eqGuard op t ox oy (.string ⟨a.toArray⟩) (.string ⟨b.toArray⟩)).run P w=.ok () w:=by cases op<;>simp [eqGuard]
   simp only [Sem.run_bind,hg,Result.andThen_ok]
   cases op<;>simp at h
   case add=>
     obtain ⟨h1,h⟩:=h;subst h
     have h2:¬((((ByteArray.mk a.toArray).size+(ByteArray.mk b.toArray).size:Nat):Int) > IntKind.i64.max):=by
       have e1:(ByteArray.mk a.toArray).size=a.length:=by simp [ByteArray.size]
       have e2:(ByteArray.mk b.toArray).size=b.length:=by simp [ByteArray.size]
       rw [e1,e2]
       have:IntKind.i64.max=9223372036854775807:=by decide
       rw [this];omega
     have h3:(ByteArray.mk a.toArray)++(ByteArray.mk b.toArray)=ByteArray.mk (a++b).toArray:=by
       apply ByteArray.ext
       simp
     exact ⟨_,by simp only [binOp,Op.stringOp,if_neg h2,h3];rfl,qE⟩
   all_goals (subst h;exact ⟨_,by simp only [binOp,Op.stringOp,toList_mk,←qD,Sem.run_pure,Bool.not_or],jO⟩)
 · simp at h
theorem run_equalIn_bool (d:Nat) {t:TypeId} (hu:P.underlying t=some .bool) (a b:Bool):(Op.equalIn (d+1) t (.bool a) (.bool b)).run P w=.ok (a == b) w:=by
 simp only [Op.equalIn,Sem.run_bind,run_underlying hu,Result.andThen_ok,Sem.run_pure]
theorem run_equal_bool {t:TypeId} (hu:P.underlying t=some .bool) (a b:Bool):(Op.equal t (.bool a) (.bool b)).run P w=.ok (a == b) w:=
 run_equalIn_bool 9999 hu a b
theorem wg {op:BinOp} {t:TypeId} {neg:Bool} (hu:P.underlying t=some .bool) (hop:(op=.eql∧neg=false)∨(op=.neq∧neg=true)) (a b:Bool) (ox oy:Operand) :
   (do eqGuard op t ox oy (.bool a) (.bool b);binOp op t (.bool a) (.bool b):Sem Value).run P w=.ok (.bool (if neg then !(a == b) else (a == b))) w:=by
 rcases hop with ⟨rfl,rfl⟩ | ⟨rfl,rfl⟩
 · have hg:(eqGuard .eql t ox oy (.bool a) (.bool b)).run P w=.ok () w:=by simp [eqGuard]
   simp only [Sem.run_bind,hg,Result.andThen_ok,binOp,run_equal_bool hu,Sem.run_pure]
   rfl
 · have hg:(eqGuard .neq t ox oy (.bool a) (.bool b)).run P w=.ok () w:=by simp [eqGuard]
   simp only [Sem.run_bind,hg,Result.andThen_ok,binOp,run_equal_bool hu,Sem.run_pure]
   rfl
end
end Go.Ab
