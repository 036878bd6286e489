import Derived.Test.YtfhhognolpjikaaGreatAbSim
import Derived.Test.YtfhhognolpjikaaGreatAbComp
import Derived.Laws.Cells
import Derived.Laws.CopyRow
import Derived.Laws.Entries
import Derived.Laws.Strings
/-
  Operations on values alone: what the slim operation gives is what the model's gives.
-/
set_option linter.unusedVariables false
set_option linter.unusedSimpArgs false
set_option maxRecDepth 100000
set_option maxHeartbeats 8000000
namespace Go.Ab
section
variable {P:Program} {ns:Names} {G:Gh} {w:World}
abbrev num (ns:Names):cg:=fun g f=>ns.of f=some g
theorem dZ {t n:Nat} (h:dM P t=some n) (w:World):(sizeOf t).run P w=.ok n w:=by
 unfold dM at h
 cases hi:P.info? t with
 | none=>simp [hi] at h
 | some i=>simp [hi] at h;simp [sizeOf,typeInfo,hi,h]
theorem oL {t n:Nat} (h:gh P t=some n) (w:World):∃i,P.info? t=some i∧i.bytes=n∧(typeInfo t).run P w=.ok i w:=by
 unfold gh at h
 cases hi:P.info? t with
 | none=>simp [hi] at h
 | some i=>simp [hi] at h;exact ⟨i,rfl,h,by simp [typeInfo,hi]⟩
theorem fR {t:Nat} {b:Bool} (h:gi P t=some b) (w:World):(isAgg t).run P w=.ok b w:=by
 unfold gi at h
 cases hu:P.underlying t with
 | none=>simp [hu] at h
 | some d=>
   simp [hu] at h
   simp only [isAgg,Sem.run_bind,run_underlying hu,Result.andThen_ok]
   cases d<;>simp_all
theorem iH {K:bM} {v:Value} {p:PV} (h:dH v=some p):R K false p [v]∧ik p=true:=by
 cases v with
 | bool b=>simp [dH] at h;subst h;simp [R,ik]
 | int k n=>simp [dH] at h;subst h;simp [R,ik]
 | string s=>simp [dH] at h;subst h;simp [R,ik]
 | slice a l c=>
   cases a with
   | some a=>simp [dH] at h
   | none=>
     cases l with
     | succ l=>simp [dH] at h
     | zero=>
       cases c with
       | succ c=>simp [dH] at h
       | zero=>
         simp [dH] at h;subst h
         refine ⟨?_,rfl⟩
         simp only [R]
         exact ⟨none,0,0,rfl,Nat.le_refl _,rfl,by simp⟩
 | _=>simp [dH] at h
theorem yC {v:Value} {x:AV} (h:yB v=some x):aE (num ns) G x v:=by
 unfold yB at h
 split at h
 · simp at h;subst h;simp only [aE];exact ⟨none,0,rfl,rfl,.inl rfl⟩
 · simp at h;subst h;simp [aE]
 · simp at h;subst h;simp [aE]
 · cases hc:dH v with
   | none=>simp [hc] at h
   | some p=>simp [hc] at h;subst h;simp only [aE];exact Rel.F5 (iH hc).1
theorem BX {N:Nat} {env:List (Nat×AV)} {a:Act} (he:kx (num ns) G N env a) {x:Operand} {ax:eL} {v:AV}
   (hc:im ns x=some ax) (hv:gJ env ax=some v):aE (num ns) G v (a.eval x):=by
 cases x with
 | tmp t=>
   simp [im] at hc;subst hc
   obtain ⟨rv,h1,h2⟩:=he.env t v (by simpa [gJ] using hv)
   have:a.eval (.tmp t)=rv:=by simp [Act.eval,h1]
   rw [this];exact h2
 | const c=>
   simp only [im,Option.map_eq_some_iff] at hc
   obtain ⟨x,h1,rfl⟩:=hc
   simp [gJ] at hv;subst hv
   exact yC h1
 | func f=>
   simp only [im,Option.map_eq_some_iff] at hc
   obtain ⟨g,h1,rfl⟩:=hc
   simp [gJ] at hv;subst hv
   simp only [aE]
   exact ⟨f,[],h1,rfl,by simp [aB]⟩
 | global g=>simp [im] at hc
theorem vt {N:Nat} {env:List (Nat×AV)} {a:Act} (he:kx (num ns) G N env a):∀{xs:List Operand} {as:List eL} {vs:List AV},
   dI (im ns) xs=some as→d5 env as=some vs→aB (num ns) G vs (xs.map a.eval)
 | [],as,vs,hc,hv=>by
   simp [dI] at hc;subst hc;simp [d5] at hv;subst hv;simp [aB]
 | x::xs,as,vs,hc,hv=>by
   simp only [dI] at hc
   split at hc
   · rename_i ax axs h1 h2
     simp at hc;subst hc
     simp only [d5] at hv
     split at hv
     · rename_i v vs' g1 g2
       simp at hv;subst hv
       simp only [List.map_cons,aB]
       exact ⟨_,_,rfl,BX he h1 g1,vt he h2 g2⟩
     · simp at hv
   · simp at hc
theorem toList_mk (l:List UInt8):(ByteArray.mk l.toArray).toList=l:=by
 rw [ByteArray.toList_eq]
theorem qm:∀(a b:List UInt8),dv.gf a b=Op.bytesLess a b
 | _,[]=>by simp [dv.gf,Op.bytesLess]
 | [],_::_=>by simp [dv.gf,Op.bytesLess]
 | a::x,b::y=>by simp [dv.gf,Op.bytesLess,qm x y]
theorem fG {K:bM} {k:IntKind} {n:Int} {v:Value}:Rel K (.int k n) v↔v=.int k n:=by simp [Rel,R]
theorem eT {K:bM} {b:Bool} {v:Value}:Rel K (.bool b) v↔v=.bool b:=by simp [Rel,R]
theorem iX {K:bM} {s:List UInt8} {v:Value}:Rel K (.str s) v↔v=.string ⟨s.toArray⟩:=by simp [Rel,R]
theorem dC {ρ:cg} {k:IntKind} {n:Int}:aE ρ G (.pv (.int k n)) (.int k n):=by simp only [aE];exact fG.2 rfl
theorem jr {ρ:cg} {b:Bool}:aE ρ G (.pv (.bool b)) (.bool b):=by simp only [aE];exact eT.2 rfl
theorem vu {ρ:cg} {s:List UInt8}:aE ρ G (.pv (.str s)) (.string ⟨s.toArray⟩):=by simp only [aE];exact iX.2 rfl
theorem oM {op:BinOp} {t:TypeId} {x y z:AV} {vx vy:Value} (hx:aE (num ns) G x vx) (hy:aE (num ns) G y vy)
   (h:dv op x y=some z) (ox oy:Operand):∃v,(do eqGuard op t ox oy vx vy;binOp op t vx vy:Sem Value).run P w=.ok v w∧aE (num ns) G z v:=by
 unfold dv at h
 split at h
 · rename_i k a k' b
   simp only [aE,fG] at hx hy
   subst hx;subst hy
   have hg:(eqGuard op t ox oy (.int k a) (.int k' b)).run P w=.ok () w:=by cases op<;>simp [eqGuard]
   simp only [Sem.run_bind,hg,Result.andThen_ok]
   split at h
   · rename_i hk
     cases op<;>simp only [reduceCtorEq,or_false,or_self,or_true] at hk<;>simp at h
     case add=>subst hk;subst h;exact ⟨_,by simp [binOp,Op.intArith],dC⟩
     case sub=>subst hk;subst h;exact ⟨_,by simp [binOp,Op.intArith],dC⟩
     case mul=>subst hk;subst h;exact ⟨_,by simp [binOp,Op.intArith],dC⟩
     case quo=>subst hk;obtain ⟨h1,h⟩:=h;subst h;exact ⟨_,by simp [binOp,Op.intDiv,h1],dC⟩
     case rem=>subst hk;obtain ⟨h1,h⟩:=h;subst h;exact ⟨_,by simp [binOp,Op.intDiv,h1],dC⟩
     case and=>subst hk;subst h;exact ⟨_,by simp [binOp,Op.intBits],dC⟩
     case shl=>obtain ⟨h1,h⟩:=h;subst h;exact ⟨_,by simp [binOp,Op.shift,Int.not_lt.2 h1],dC⟩
     case shr=>obtain ⟨h1,h⟩:=h;subst h;exact ⟨_,by simp [binOp,Op.shift,Int.not_lt.2 h1],dC⟩
     all_goals (subst hk;subst h;exact ⟨_,by simp [binOp,Op.intCmp],jr⟩)
   · simp at h
 · rename_i a b
   simp only [aE,iX] at hx hy
   subst hx;subst hy
   have hg:(eqGuard op t ox oy (.string ⟨a.toArray⟩) (.string ⟨b.toArray⟩)).run P w=.ok () w:=by cases op<;>simp [eqGuard]
   simp only [Sem.run_bind,hg,Result.andThen_ok]
   cases op<;>simp at h
   case add=>
     obtain ⟨h1,h⟩:=h;subst h
     have h2:¬((((ByteArray.mk a.toArray).size+(ByteArray.mk b.toArray).size:Nat):Int) > IntKind.i64.max):=by
       have e1:(ByteArray.mk a.toArray).size=a.length:=by simp [ByteArray.size]
       have e2:(ByteArray.mk b.toArray).size=b.length:=by simp [ByteArray.size]
       rw [e1,e2]
       have:IntKind.i64.max=9223372036854775807:=by decide
       rw [this];omega
     have h3:(ByteArray.mk a.toArray)++(ByteArray.mk b.toArray)=ByteArray.mk (a++b).toArray:=by
       apply ByteArray.ext
       simp
     exact ⟨_,by simp only [binOp,Op.stringOp,if_neg h2,h3];rfl,vu⟩
   all_goals (subst h;exact ⟨_,by simp only [binOp,Op.stringOp,toList_mk,←qm,Sem.run_pure,Bool.not_or],jr⟩)
 · simp at h
theorem run_equalIn_bool (d:Nat) {t:TypeId} (hu:P.underlying t=some .bool) (a b:Bool):(Op.equalIn (d+1) t (.bool a) (.bool b)).run P w=.ok (a == b) w:=by
 simp only [Op.equalIn,Sem.run_bind,run_underlying hu,Result.andThen_ok,Sem.run_pure]
theorem run_equal_bool {t:TypeId} (hu:P.underlying t=some .bool) (a b:Bool):(Op.equal t (.bool a) (.bool b)).run P w=.ok (a == b) w:=
 run_equalIn_bool 9999 hu a b
theorem vv {op:BinOp} {t:TypeId} {neg:Bool} (hu:P.underlying t=some .bool) (hop:(op=.eql∧neg=false)∨(op=.neq∧neg=true)) (a b:Bool) (ox oy:Operand) :
   (do eqGuard op t ox oy (.bool a) (.bool b);binOp op t (.bool a) (.bool b):Sem Value).run P w=.ok (.bool (if neg then !(a == b) else (a == b))) w:=by
 rcases hop with ⟨rfl,rfl⟩ | ⟨rfl,rfl⟩
 · have hg:(eqGuard .eql t ox oy (.bool a) (.bool b)).run P w=.ok () w:=by simp [eqGuard]
   simp only [Sem.run_bind,hg,Result.andThen_ok,binOp,run_equal_bool hu,Sem.run_pure]
   rfl
 · have hg:(eqGuard .neq t ox oy (.bool a) (.bool b)).run P w=.ok () w:=by simp [eqGuard]
   simp only [Sem.run_bind,hg,Result.andThen_ok,binOp,run_equal_bool hu,Sem.run_pure]
   rfl
end
end Go.Ab
