import Derived.Test.YtfhhognolpjikaaAbSim
import Derived.Test.YtfhhognolpjikaaAbComp
import Derived.Laws.Cells
import Derived.Laws.CopyRow
import Derived.Laws.Entries
import Derived.Laws.Strings
/-
  Operations on values alone: what the slim operation gives is what the model's gives.
-/
set_option linter.unusedVariables false
set_option linter.unusedSimpArgs false
set_option maxRecDepth 100000
set_option maxHeartbeats 8000000
namespace Go.Ab
section
variable {P:Program} {ns:Names} {G:Gh} {w:World}
abbrev num (ns:Names):bI:=fun g f=>ns.of f=some g
theorem df {t n:Nat} (h:cD P t=some n) (w:World):(sizeOf t).run P w=.ok n w:=by
 unfold cD at h
 cases hi:P.info? t with
 | none=>simp [hi] at h
 | some i=>simp [hi] at h;simp [sizeOf,typeInfo,hi,h]
theorem lF {t n:Nat} (h:ei P t=some n) (w:World):∃i,P.info? t=some i∧i.bytes=n∧(typeInfo t).run P w=.ok i w:=by
 unfold ei at h
 cases hi:P.info? t with
 | none=>simp [hi] at h
 | some i=>simp [hi] at h;exact ⟨i,rfl,h,by simp [typeInfo,hi]⟩
theorem eN {t:Nat} {b:Bool} (h:eV P t=some b) (w:World):(isAgg t).run P w=.ok b w:=by
 unfold eV at h
 cases hu:P.underlying t with
 | none=>simp [hu] at h
 | some d=>
   simp [hu] at h
   simp only [isAgg,Sem.run_bind,run_underlying hu,Result.andThen_ok]
   cases d<;>simp_all
theorem gv {K:bf} {v:Value} {p:PV} (h:cW v=some p):R K false p [v]∧fX p=true:=by
 cases v with
 | bool b=>simp [cW] at h;subst h;simp [R,fX]
 | int k n=>simp [cW] at h;subst h;simp [R,fX]
 | string s=>simp [cW] at h;subst h;simp [R,fX]
 | slice a l c=>
   cases a with
   | some a=>simp [cW] at h
   | none=>
     cases l with
     | succ l=>simp [cW] at h
     | zero=>
       cases c with
       | succ c=>simp [cW] at h
       | zero=>
         simp [cW] at h;subst h
         refine ⟨?_,rfl⟩
         simp only [R]
         exact ⟨none,0,0,rfl,Nat.le_refl _,rfl,by simp⟩
 | _=>simp [cW] at h
theorem tt {v:Value} {x:AV} (h:tr v=some x):aq (num ns) G x v:=by
 unfold tr at h
 split at h
 · simp at h;subst h;simp only [aq];exact ⟨none,0,rfl,rfl,.inl rfl⟩
 · simp at h;subst h;simp [aq]
 · simp at h;subst h;simp [aq]
 · cases hc:cW v with
   | none=>simp [hc] at h
   | some p=>simp [hc] at h;subst h;simp only [aq];exact Rel.AN (gv hc).1
theorem w_ {N:Nat} {env:List (Nat×AV)} {a:Act} (he:iY (num ns) G N env a) {x:Operand} {ax:d3} {v:AV}
   (hc:fZ ns x=some ax) (hv:ff env ax=some v):aq (num ns) G v (a.eval x):=by
 cases x with
 | tmp t=>
   simp [fZ] at hc;subst hc
   obtain ⟨rv,h1,h2⟩:=he.env t v (by simpa [ff] using hv)
   have:a.eval (.tmp t)=rv:=by simp [Act.eval,h1]
   rw [this];exact h2
 | const c=>
   simp only [fZ,Option.map_eq_some_iff] at hc
   obtain ⟨x,h1,rfl⟩:=hc
   simp [ff] at hv;subst hv
   exact tt h1
 | func f=>
   simp only [fZ,Option.map_eq_some_iff] at hc
   obtain ⟨g,h1,rfl⟩:=hc
   simp [ff] at hv;subst hv
   simp only [aq]
   exact ⟨f,[],h1,rfl,by simp [al]⟩
 | global g=>simp [fZ] at hc
theorem qu {N:Nat} {env:List (Nat×AV)} {a:Act} (he:iY (num ns) G N env a):∀{xs:List Operand} {as:List d3} {vs:List AV},
   cX (fZ ns) xs=some as→dv env as=some vs→al (num ns) G vs (xs.map a.eval)
 | [],as,vs,hc,hv=>by
   simp [cX] at hc;subst hc;simp [dv] at hv;subst hv;simp [al]
 | x::xs,as,vs,hc,hv=>by
   simp only [cX] at hc
   split at hc
   · rename_i ax axs h1 h2
     simp at hc;subst hc
     simp only [dv] at hv
     split at hv
     · rename_i v vs' g1 g2
       simp at hv;subst hv
       simp only [List.map_cons,al]
       exact ⟨_,_,rfl,w_ he h1 g1,qu he h2 g2⟩
     · simp at hv
   · simp at hc
theorem toList_mk (l:List UInt8):(ByteArray.mk l.toArray).toList=l:=by
 rw [ByteArray.toList_eq]
theorem mP:∀(a b:List UInt8),cK.eT a b=Op.bytesLess a b
 | _,[]=>by simp [cK.eT,Op.bytesLess]
 | [],_::_=>by simp [cK.eT,Op.bytesLess]
 | a::x,b::y=>by simp [cK.eT,Op.bytesLess,mP x y]
theorem en {K:bf} {k:IntKind} {n:Int} {v:Value}:Rel K (.int k n) v↔v=.int k n:=by simp [Rel,R]
theorem ed {K:bf} {b:Bool} {v:Value}:Rel K (.bool b) v↔v=.bool b:=by simp [Rel,R]
theorem gL {K:bf} {s:List UInt8} {v:Value}:Rel K (.str s) v↔v=.string ⟨s.toArray⟩:=by simp [Rel,R]
theorem cS {ρ:bI} {k:IntKind} {n:Int}:aq ρ G (.pv (.int k n)) (.int k n):=by simp only [aq];exact en.2 rfl
theorem h_ {ρ:bI} {b:Bool}:aq ρ G (.pv (.bool b)) (.bool b):=by simp only [aq];exact ed.2 rfl
theorem qv {ρ:bI} {s:List UInt8}:aq ρ G (.pv (.str s)) (.string ⟨s.toArray⟩):=by simp only [aq];exact gL.2 rfl
theorem lG {op:BinOp} {t:TypeId} {x y z:AV} {vx vy:Value} (hx:aq (num ns) G x vx) (hy:aq (num ns) G y vy)
   (h:cK op x y=some z) (ox oy:Operand):∃v,(do eqGuard op t ox oy vx vy;binOp op t vx vy:Sem Value).run P w=.ok v w∧aq (num ns) G z v:=by
 unfold cK at h
 split at h
 · rename_i k a k' b
   simp only [aq,en] at hx hy
   subst hx;subst hy
   have hg:(eqGuard op t ox oy (.int k a) (.int k' b)).run P w=.ok () w:=by cases op<;>simp [eqGuard]
   simp only [Sem.run_bind,hg,Result.andThen_ok]
   split at h
   · rename_i hk
     cases op<;>simp only [reduceCtorEq,or_false,or_self,or_true] at hk<;>simp at h
     case add=>subst hk;subst h;exact ⟨_,by simp [binOp,Op.intArith],cS⟩
     case sub=>subst hk;subst h;exact ⟨_,by simp [binOp,Op.intArith],cS⟩
     case mul=>subst hk;subst h;exact ⟨_,by simp [binOp,Op.intArith],cS⟩
     case quo=>subst hk;obtain ⟨h1,h⟩:=h;subst h;exact ⟨_,by simp [binOp,Op.intDiv,h1],cS⟩
     case rem=>subst hk;obtain ⟨h1,h⟩:=h;subst h;exact ⟨_,by simp [binOp,Op.intDiv,h1],cS⟩
     case and=>subst hk;subst h;exact ⟨_,by simp [binOp,Op.intBits],cS⟩
     case shl=>obtain ⟨h1,h⟩:=h;subst h;exact ⟨_,by simp [binOp,Op.shift,Int.not_lt.2 h1],cS⟩
     case shr=>obtain ⟨h1,h⟩:=h;subst h;exact ⟨_,by simp [binOp,Op.shift,Int.not_lt.2 h1],cS⟩
     all_goals (subst hk;subst h;exact ⟨_,by simp [binOp,Op.intCmp],h_⟩)
   · simp at h
 · rename_i a b
   simp only [aq,gL] at hx hy
   subst hx;subst hy
   have hg:(eqGuard op t ox oy (.string ⟨a.toArray⟩) (.string ⟨b.toArray⟩)).run P w=.ok () w:=by cases op<;>simp [eqGuard]
   simp only [Sem.run_bind,hg,Result.andThen_ok]
   cases op<;>simp at h
   case add=>
     obtain ⟨h1,h⟩:=h;subst h
     have h2:¬((((ByteArray.mk a.toArray).size+(ByteArray.mk b.toArray).size:Nat):Int) > IntKind.i64.max):=by
       have e1:(ByteArray.mk a.toArray).size=a.length:=by simp [ByteArray.size]
       have e2:(ByteArray.mk b.toArray).size=b.length:=by simp [ByteArray.size]
       rw [e1,e2]
       have:IntKind.i64.max=9223372036854775807:=by decide
       rw [this];omega
     have h3:(ByteArray.mk a.toArray)++(ByteArray.mk b.toArray)=ByteArray.mk (a++b).toArray:=by
       apply ByteArray.ext
       simp
     exact ⟨_,by simp only [binOp,Op.stringOp,if_neg h2,h3];rfl,qv⟩
   all_goals (subst h;exact ⟨_,by simp only [binOp,Op.stringOp,toList_mk,←mP,Sem.run_pure,Bool.not_or],h_⟩)
 · simp at h
theorem run_equalIn_bool (d:Nat) {t:TypeId} (hu:P.underlying t=some .bool) (a b:Bool):(Op.equalIn (d+1) t (.bool a) (.bool b)).run P w=.ok (a == b) w:=by
 simp only [Op.equalIn,Sem.run_bind,run_underlying hu,Result.andThen_ok,Sem.run_pure]
theorem run_equal_bool {t:TypeId} (hu:P.underlying t=some .bool) (a b:Bool):(Op.equal t (.bool a) (.bool b)).run P w=.ok (a == b) w:=
 run_equalIn_bool 9999 hu a b
theorem qw {op:BinOp} {t:TypeId} {neg:Bool} (hu:P.underlying t=some .bool) (hop:(op=.eql∧neg=false)∨(op=.neq∧neg=true)) (a b:Bool) (ox oy:Operand) :
   (do eqGuard op t ox oy (.bool a) (.bool b);binOp op t (.bool a) (.bool b):Sem Value).run P w=.ok (.bool (if neg then !(a == b) else (a == b))) w:=by
 rcases hop with ⟨rfl,rfl⟩ | ⟨rfl,rfl⟩
 · have hg:(eqGuard .eql t ox oy (.bool a) (.bool b)).run P w=.ok () w:=by simp [eqGuard]
   simp only [Sem.run_bind,hg,Result.andThen_ok,binOp,run_equal_bool hu,Sem.run_pure]
   rfl
 · have hg:(eqGuard .neq t ox oy (.bool a) (.bool b)).run P w=.ok () w:=by simp [eqGuard]
   simp only [Sem.run_bind,hg,Result.andThen_ok,binOp,run_equal_bool hu,Sem.run_pure]
   rfl
end
end Go.Ab
