import Derived.Test.YtcjggpmnbcfedaaDoorAbSim
import Derived.Test.YtcjggpmnbcfedaaDoorAbComp
import Derived.Laws.Cells
import Derived.Laws.CopyRow
import Derived.Laws.Entries
import Derived.Laws.Strings
/-
  Operations on values alone: what the slim operation gives is what the model's gives.
-/
set_option linter.unusedVariables false
set_option linter.unusedSimpArgs false
set_option linter.unnecessarySimpa false
set_option maxRecDepth 100000
set_option maxHeartbeats 8000000
namespace Go.Ab
section
variable {P:Program} {ns:Names} {G:Gh} {w:World}
abbrev num (ns:Names):aX:=⟨fun g f=>ns.of f=some g,ns.hP⟩
theorem bT {t n:Nat} (h:bt P t=some n) (w:World):(sizeOf t).run P w=.ok n w:=by
 unfold bt at h
 cases hi:P.info? t with
 | none=>simp [hi] at h
 | some i=>simp [hi] at h;simp [sizeOf,typeInfo,hi,h]
theorem ib {t n:Nat} (h:cD P t=some n) (w:World):∃i,P.info? t=some i∧i.bytes=n∧(typeInfo t).run P w=.ok i w:=by
 unfold cD at h
 cases hi:P.info? t with
 | none=>simp [hi] at h
 | some i=>simp [hi] at h;exact ⟨i,rfl,h,by simp [typeInfo,hi]⟩
theorem dF {t:Nat} {b:Bool} (h:dE P t=some b) (w:World):(isAgg t).run P w=.ok b w:=by
 unfold dE at h
 cases hu:P.underlying t with
 | none=>simp [hu] at h
 | some d=>
   simp [hu] at h
   simp only [isAgg,Sem.run_bind,run_underlying hu,Result.andThen_ok]
   cases d<;>simp_all
theorem eT {K:aF} {v:Value} {p:PV} (h:bW v=some p):R K false p [v]∧dY p=true:=by
 cases v with
 | bool b=>simp [bW] at h;subst h;simp [R,dY]
 | int k n=>simp [bW] at h;subst h;simp [R,dY]
 | string s=>simp [bW] at h;subst h;simp [R,dY]
 | slice a l c=>
   cases a with
   | some a=>simp [bW] at h
   | none=>
     cases l with
     | succ l=>simp [bW] at h
     | zero=>
       cases c with
       | succ c=>simp [bW] at h
       | zero=>
         simp [bW] at h;subst h
         refine ⟨?_,rfl⟩
         simp only [R]
         exact ⟨none,0,0,rfl,Nat.le_refl _,rfl,by simp⟩
 | _=>simp [bW] at h
theorem q8 {v:Value} {x:AV} (h:qZ v=some x):ah (num ns) G x v:=by
 unfold qZ at h
 split at h
 · simp at h;subst h;simp only [ah];exact ⟨none,0,rfl,rfl,.inl rfl⟩
 · simp at h;subst h;simp [ah]
 · simp at h;subst h;simp [ah]
 · cases hc:bW v with
   | none=>simp [hc] at h
   | some p=>simp [hc] at h;subst h;simp only [ah];exact Rel.wW (eT hc).1
theorem tO {N:Nat} {env:List (Nat×AV)} {a:Act} (he:ia (num ns) G N env a) {x:Operand} {ax:c_} {v:AV}
   (hc:eE ns x=some ax) (hv:dZ env ax=some v):ah (num ns) G v (a.eval x):=by
 cases x with
 | tmp t=>
   simp [eE] at hc;subst hc
   obtain ⟨rv,h1,h2⟩:=he.env t v (by simpa [dZ] using hv)
   have:a.eval (.tmp t)=rv:=by simp [Act.eval,h1]
   rw [this];exact h2
 | const c=>
   simp only [eE,Option.map_eq_some_iff] at hc
   obtain ⟨x,h1,rfl⟩:=hc
   simp [dZ] at hv;subst hv
   exact q8 h1
 | func f=>
   simp only [eE,Option.map_eq_some_iff] at hc
   obtain ⟨g,h1,rfl⟩:=hc
   simp [dZ] at hv;subst hv
   simp only [ah]
   exact ⟨f,[],h1,rfl,by simp [ae]⟩
 | global g=>simp [eE] at hc
theorem oP {N:Nat} {env:List (Nat×AV)} {a:Act} (he:ia (num ns) G N env a):∀{xs:List Operand} {as:List c_} {vs:List AV},
   bu (eE ns) xs=some as→cB env as=some vs→ae (num ns) G vs (xs.map a.eval)
 | [],as,vs,hc,hv=>by
   simp [bu] at hc;subst hc;simp [cB] at hv;subst hv;simp [ae]
 | x::xs,as,vs,hc,hv=>by
   simp only [bu] at hc
   split at hc
   · rename_i ax axs h1 h2
     simp at hc;subst hc
     simp only [cB] at hv
     split at hv
     · rename_i v vs' g1 g2
       simp at hv;subst hv
       simp only [List.map_cons,ae]
       exact ⟨_,_,rfl,tO he h1 g1,oP he h2 g2⟩
     · simp at hv
   · simp at hc
theorem toList_mk (l:List UInt8):(ByteArray.mk l.toArray).toList=l:=by
 rw [ByteArray.toList_eq]
theorem lj:∀(a b:List UInt8),cp.eD a b=Op.bytesLess a b
 | _,[]=>by simp [cp.eD,Op.bytesLess]
 | [],_::_=>by simp [cp.eD,Op.bytesLess]
 | a::x,b::y=>by simp [cp.eD,Op.bytesLess,lj x y]
theorem dn {K:aF} {k:IntKind} {n:Int} {v:Value}:Rel K (.int k n) v↔v=.int k n:=by simp [Rel,R]
theorem dj {K:aF} {b:Bool} {v:Value}:Rel K (.bool b) v↔v=.bool b:=by simp [Rel,R]
theorem fC {K:aF} {s:List UInt8} {v:Value}:Rel K (.str s) v↔v=.string ⟨s.toArray⟩:=by simp [Rel,R]
theorem bU {ρ:aX} {k:IntKind} {n:Int}:ah ρ G (.pv (.int k n)) (.int k n):=by simp only [ah];exact dn.2 rfl
theorem gh {ρ:aX} {b:Bool}:ah ρ G (.pv (.bool b)) (.bool b):=by simp only [ah];exact dj.2 rfl
theorem lp {ρ:aX} {s:List UInt8}:ah ρ G (.pv (.str s)) (.string ⟨s.toArray⟩):=by simp only [ah];exact fC.2 rfl
theorem j2 {op:BinOp} {t:TypeId} {x y z:AV} {vx vy:Value} (hx:ah (num ns) G x vx) (hy:ah (num ns) G y vy)
   (h:cp op x y=some z) (ox oy:Operand):∃v,(do eqGuard op t ox oy vx vy;binOp op t vx vy:Sem Value).run P w=.ok v w∧ah (num ns) G z v:=by
 unfold cp at h
 split at h
 · rename_i k a k' b
   simp only [ah,dn] at hx hy
   subst hx;subst hy
   have hg:(eqGuard op t ox oy (.int k a) (.int k' b)).run P w=.ok () w:=by cases op<;>simp [eqGuard]
   simp only [Sem.run_bind,hg,Result.andThen_ok]
   split at h
   · rename_i hk
     cases op<;>simp only [reduceCtorEq,or_false,or_self,or_true] at hk<;>simp at h
     case add=>subst hk;subst h;exact ⟨_,by simp [binOp,Op.intArith],bU⟩
     case sub=>subst hk;subst h;exact ⟨_,by simp [binOp,Op.intArith],bU⟩
     case mul=>subst hk;subst h;exact ⟨_,by simp [binOp,Op.intArith],bU⟩
     case quo=>subst hk;obtain ⟨h1,h⟩:=h;subst h;exact ⟨_,by simp [binOp,Op.intDiv,h1],bU⟩
     case rem=>subst hk;obtain ⟨h1,h⟩:=h;subst h;exact ⟨_,by simp [binOp,Op.intDiv,h1],bU⟩
     case and=>subst hk;subst h;exact ⟨_,by simp [binOp,Op.intBits],bU⟩
     case shl=>obtain ⟨h1,h⟩:=h;subst h;exact ⟨_,by simp [binOp,Op.shift,Int.not_lt.2 h1],bU⟩
     case shr=>obtain ⟨h1,h⟩:=h;subst h;exact ⟨_,by simp [binOp,Op.shift,Int.not_lt.2 h1],bU⟩
     all_goals (subst hk;subst h;exact ⟨_,by simp [binOp,Op.intCmp],gh⟩)
   · simp at h
 · rename_i a b
   simp only [ah,fC] at hx hy
   subst hx;subst hy
   have hg:(eqGuard op t ox oy (.string ⟨a.toArray⟩) (.string ⟨b.toArray⟩)).run P w=.ok () w:=by cases op<;>simp [eqGuard]
   simp only [Sem.run_bind,hg,Result.andThen_ok]
   cases op<;>simp at h
   case add=>
     obtain ⟨h1,h⟩:=h;subst h
     have h2:¬((((ByteArray.mk a.toArray).size+(ByteArray.mk b.toArray).size:Nat):Int) > IntKind.i64.max):=by
       have e1:(ByteArray.mk a.toArray).size=a.length:=by simp [ByteArray.size]
       have e2:(ByteArray.mk b.toArray).size=b.length:=by simp [ByteArray.size]
       rw [e1,e2]
       have:IntKind.i64.max=9223372036854775807:=by decide
       rw [this];omega
     have h3:(ByteArray.mk a.toArray)++(ByteArray.mk b.toArray)=ByteArray.mk (a++b).toArray:=by
       apply ByteArray.ext
       simp
     exact ⟨_,by simp only [binOp,Op.stringOp,if_neg h2,h3];rfl,lp⟩
   all_goals (subst h;exact ⟨_,by simp only [binOp,Op.stringOp,toList_mk,←lj,Sem.run_pure,Bool.not_or],gh⟩)
 · simp at h
theorem run_equalIn_bool (d:Nat) {t:TypeId} (hu:P.underlying t=some .bool) (a b:Bool):(Op.equalIn (d+1) t (.bool a) (.bool b)).run P w=.ok (a == b) w:=by
 simp only [Op.equalIn,Sem.run_bind,run_underlying hu,Result.andThen_ok,Sem.run_pure]
theorem run_equal_bool {t:TypeId} (hu:P.underlying t=some .bool) (a b:Bool):(Op.equal t (.bool a) (.bool b)).run P w=.ok (a == b) w:=
 run_equalIn_bool 9999 hu a b
theorem oQ {op:BinOp} {t:TypeId} {neg:Bool} (hu:P.underlying t=some .bool) (hop:(op=.eql∧neg=false)∨(op=.neq∧neg=true)) (a b:Bool) (ox oy:Operand) :
   (do eqGuard op t ox oy (.bool a) (.bool b);binOp op t (.bool a) (.bool b):Sem Value).run P w=.ok (.bool (if neg then !(a == b) else (a == b))) w:=by
 rcases hop with ⟨rfl,rfl⟩ | ⟨rfl,rfl⟩
 · have hg:(eqGuard .eql t ox oy (.bool a) (.bool b)).run P w=.ok () w:=by simp [eqGuard]
   simp only [Sem.run_bind,hg,Result.andThen_ok,binOp,run_equal_bool hu,Sem.run_pure]
   rfl
 · have hg:(eqGuard .neq t ox oy (.bool a) (.bool b)).run P w=.ok () w:=by simp [eqGuard]
   simp only [Sem.run_bind,hg,Result.andThen_ok,binOp,run_equal_bool hu,Sem.run_pure]
   rfl
end
end Go.Ab
