import Derived.Test.YthcoecdbgdhihaaGreatDoorAbSim
import Derived.Test.YthcoecdbgdhihaaGreatDoorAbComp
import Derived.Laws.Cells
import Derived.Laws.CopyRow
import Derived.Laws.Entries
import Derived.Laws.Strings
/-
  Operations on values alone: what the slim operation gives is what the model's gives.
-/
set_option linter.unusedVariables false
set_option linter.unusedSimpArgs false
set_option linter.unnecessarySimpa false
set_option maxRecDepth 100000
set_option maxHeartbeats 8000000
namespace Go.Ab
section
variable {P:Program} {ns:Names} {G:Gh} {w:World}
abbrev num (ns:Names):cy:=⟨fun g f=>ns.of f=some g,ns.jS⟩
theorem dJ {t n:Nat} (h:cW P t=some n) (w:World):(sizeOf t).run P w=.ok n w:=by
 unfold cW at h;cases hi:P.info? t with
 | none=>simp [hi] at h
 | some i=>simp [hi] at h;simp [sizeOf,typeInfo,hi,h]
theorem lx {t n:Nat} (h:eX P t=some n) (w:World):∃i,P.info? t=some i∧i.bytes=n∧(typeInfo t).run P w=.ok i w:=by
 unfold eX at h;cases hi:P.info? t with
 | none=>simp [hi] at h
 | some i=>simp [hi] at h;exact ⟨i,rfl,h,by simp [typeInfo,hi]⟩
theorem gC {t:Nat} {b:Bool} (h:fQ P t=some b) (w:World):(isAgg t).run P w=.ok b w:=by
 unfold fQ at h;cases hu:P.underlying t with
 | none=>simp [hu] at h
 | some d=>
   simp [hu] at h;simp only [isAgg,Sem.run_bind,run_underlying hu,Result.andThen_ok];cases d<;>simp_all
theorem mO {K:bJ} {v:Value} {p:PV} (h:d0 v=some p):R K false p [v]∧eI p=true:=by
 cases v with
 | bool b=>simp [d0] at h;subst h;simp [R,eI]
 | int k n=>simp [d0] at h;subst h;simp [R,eI]
 | string s=>simp [d0] at h;subst h;simp [R,eI]
 | slice a l c=>
   cases a with
   | some a=>simp [d0] at h
   | none=>
     cases l with
     | succ l=>simp [d0] at h
     | zero=>
       cases c with
       | succ c=>simp [d0] at h
       | zero=>
         simp [d0] at h;subst h;refine ⟨?_,rfl⟩;simp only [R];exact ⟨none,0,0,rfl,Nat.le_refl _,rfl,by simp⟩
 | _=>simp [d0] at h
theorem zQ {v:Value} {x:AV} (h:zN v=some x):aC (num ns) G x v:=by
 unfold zN at h;split at h
 · simp at h;subst h;simp only [aC];exact ⟨none,0,rfl,rfl,.inl rfl⟩
 · simp at h;subst h;simp [aC]
 · simp at h;subst h;simp [aC]
 · cases hc:d0 v with
   | none=>simp [hc] at h
   | some p=>simp [hc] at h;subst h;simp only [aC];exact Rel.Jy (mO hc).1
theorem Cu {N:Nat} {env:List (Nat×AV)} {a:Act} (he:lu (num ns) G N env a) {x:Operand} {ax:e8} {v:AV}
   (hc:iM ns x=some ax) (hv:gY env ax=some v):aC (num ns) G v (a.eval x):=by
 cases x with
 | tmp t=>
   simp [iM] at hc;subst hc;obtain ⟨rv,h1,h2⟩:=he.env t v (by simpa [gY] using hv);have:a.eval (.tmp t)=rv:=by simp [Act.eval,h1]
   rw [this];exact h2
 | const c=>
   simp only [iM,Option.map_eq_some_iff] at hc;obtain ⟨x,h1,rfl⟩:=hc;simp [gY] at hv;subst hv;exact zQ h1
 | func f=>
   simp only [iM,Option.map_eq_some_iff] at hc;obtain ⟨g,h1,rfl⟩:=hc;simp [gY] at hv;subst hv;simp only [aC];exact ⟨f,[],h1,rfl,by simp [aB]⟩
 | global g=>simp [iM] at hc
theorem wP {N:Nat} {env:List (Nat×AV)} {a:Act} (he:lu (num ns) G N env a):∀{xs:List Operand} {as:List e8} {vs:List AV},
   cL (iM ns) xs=some as→ei env as=some vs→aB (num ns) G vs (xs.map a.eval)
 | [],as,vs,hc,hv=>by
   simp [cL] at hc;subst hc;simp [ei] at hv;subst hv;simp [aB]
 | x::xs,as,vs,hc,hv=>by
   simp only [cL] at hc;split at hc
   · rename_i ax axs h1 h2;simp at hc;subst hc;simp only [ei] at hv;split at hv
     · rename_i v vs' g1 g2;simp at hv;subst hv;simp only [List.map_cons,aB];exact ⟨_,_,rfl,Cu he h1 g1,wP he h2 g2⟩
     · simp at hv
   · simp at hc
theorem toList_mk (l:List UInt8):(ByteArray.mk l.toArray).toList=l:=by
 rw [ByteArray.toList_eq]
theorem qV:∀(a b:List UInt8),dU.iL a b=Op.bytesLess a b
 | _,[]=>by simp [dU.iL,Op.bytesLess]
 | [],_::_=>by simp [dU.iL,Op.bytesLess]
 | a::x,b::y=>by simp [dU.iL,Op.bytesLess,qV x y]
theorem cB {K:bJ} {k:IntKind} {n:Int} {v:Value}:Rel K (.int k n) v↔v=.int k n:=by simp [Rel,R]
theorem iv {K:bJ} {b:Bool} {v:Value}:Rel K (.bool b) v↔v=.bool b:=by simp [Rel,R]
theorem jZ {K:bJ} {s:List UInt8} {v:Value}:Rel K (.str s) v↔v=.string ⟨s.toArray⟩:=by simp [Rel,R]
theorem dK {ρ:cy} {k:IntKind} {n:Int}:aC ρ G (.pv (.int k n)) (.int k n):=by simp only [aC];exact cB.2 rfl
theorem jU {ρ:cy} {b:Bool}:aC ρ G (.pv (.bool b)) (.bool b):=by simp only [aC];exact iv.2 rfl
theorem qW {ρ:cy} {s:List UInt8}:aC ρ G (.pv (.str s)) (.string ⟨s.toArray⟩):=by simp only [aC];exact jZ.2 rfl
theorem po {op:BinOp} {t:TypeId} {x y z:AV} {vx vy:Value} (hx:aC (num ns) G x vx) (hy:aC (num ns) G y vy)
   (h:dU op x y=some z) (ox oy:Operand):∃v,(do eqGuard op t ox oy vx vy;binOp op t vx vy:Sem Value).run P w=.ok v w∧aC (num ns) G z v:=by
 unfold dU at h;split at h
 · rename_i k a k' b;simp only [aC,cB] at hx hy;subst hx;subst hy;have hg:(eqGuard op t ox oy (.int k a) (.int k' b)).run P w=.ok () w:=by cases op<;>simp [eqGuard]
   simp only [Sem.run_bind,hg,Result.andThen_ok];split at h
   · rename_i hk;cases op<;>simp only [reduceCtorEq,or_false,or_self,or_true] at hk<;>simp at h;case add=>subst hk;subst h;exact ⟨_,by simp [binOp,Op.intArith],dK⟩
     case sub=>subst hk;subst h;exact ⟨_,by simp [binOp,Op.intArith],dK⟩
     case mul=>subst hk;subst h;exact ⟨_,by simp [binOp,Op.intArith],dK⟩
     case quo=>subst hk;obtain ⟨h1,h⟩:=h;subst h;exact ⟨_,by simp [binOp,Op.intDiv,h1],dK⟩
     case rem=>subst hk;obtain ⟨h1,h⟩:=h;subst h;exact ⟨_,by simp [binOp,Op.intDiv,h1],dK⟩
     case and=>subst hk;subst h;exact ⟨_,by simp [binOp,Op.intBits],dK⟩
     case shl=>obtain ⟨h1,h⟩:=h;subst h;exact ⟨_,by simp [binOp,Op.shift,Int.not_lt.2 h1],dK⟩
     case shr=>obtain ⟨h1,h⟩:=h;subst h;exact ⟨_,by simp [binOp,Op.shift,Int.not_lt.2 h1],dK⟩
     all_goals (subst hk;subst h;exact ⟨_,by simp [binOp,Op.intCmp],jU⟩)
   · simp at h
 · rename_i a b;simp only [aC,jZ] at hx hy;subst hx;subst hy;have hg:(eqGuard op t ox oy (.string ⟨a.toArray⟩) (.string ⟨b.toArray⟩)).run P w=.ok () w:=by cases op<;>simp [eqGuard]
   simp only [Sem.run_bind,hg,Result.andThen_ok];cases op<;>simp at h;case add=>
     obtain ⟨h1,h⟩:=h;subst h;have h2:¬((((ByteArray.mk a.toArray).size+(ByteArray.mk b.toArray).size:Nat):Int) > IntKind.i64.max):=by
       have e1:(ByteArray.mk a.toArray).size=a.length:=(by simp [ByteArray.size]);have e2:(ByteArray.mk b.toArray).size=b.length:=(by simp [ByteArray.size]);rw [e1,e2];have:IntKind.i64.max=9223372036854775807:=(by decide);rw [this];omega
     have h3:(ByteArray.mk a.toArray)++(ByteArray.mk b.toArray)=ByteArray.mk (a++b).toArray:=by
       apply ByteArray.ext;simp
     exact ⟨_,by simp only [binOp,Op.stringOp,if_neg h2,h3];rfl,qW⟩
   all_goals (subst h;exact ⟨_,by simp only [binOp,Op.stringOp,toList_mk,←qV,Sem.run_pure,Bool.not_or],jU⟩)
 · simp at h
theorem run_equalIn_bool (d:Nat) {t:TypeId} (hu:P.underlying t=some .bool) (a b:Bool):(Op.equalIn (d+1) t (.bool a) (.bool b)).run P w=.ok (a == b) w:=by
 simp only [Op.equalIn,Sem.run_bind,run_underlying hu,Result.andThen_ok,Sem.run_pure]
theorem run_equal_bool {t:TypeId} (hu:P.underlying t=some .bool) (a b:Bool):(Op.equal t (.bool a) (.bool b)).run P w=.ok (a == b) w:=
 run_equalIn_bool 9999 hu a b
theorem wQ {op:BinOp} {t:TypeId} {neg:Bool} (hu:P.underlying t=some .bool) (hop:(op=.eql∧neg=false)∨(op=.neq∧neg=true)) (a b:Bool) (ox oy:Operand) :
   (do eqGuard op t ox oy (.bool a) (.bool b);binOp op t (.bool a) (.bool b):Sem Value).run P w=.ok (.bool (if neg then !(a == b) else (a == b))) w:=by
 rcases hop with ⟨rfl,rfl⟩ | ⟨rfl,rfl⟩
 · have hg:(eqGuard .eql t ox oy (.bool a) (.bool b)).run P w=.ok () w:=(by simp [eqGuard]);simp only [Sem.run_bind,hg,Result.andThen_ok,binOp,run_equal_bool hu,Sem.run_pure];rfl
 · have hg:(eqGuard .neq t ox oy (.bool a) (.bool b)).run P w=.ok () w:=(by simp [eqGuard]);simp only [Sem.run_bind,hg,Result.andThen_ok,binOp,run_equal_bool hu,Sem.run_pure];rfl
end
end Go.Ab
