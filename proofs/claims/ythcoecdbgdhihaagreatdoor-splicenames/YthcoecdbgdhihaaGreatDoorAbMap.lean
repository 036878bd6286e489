import Derived.Test.YthcoecdbgdhihaaGreatDoorAbOps3
import Derived.Laws.StructEq
import Derived.RangeFuncRecord
/-
  Comparisons of structs, and the entries of maps.
-/
set_option linter.unusedVariables false
set_option linter.unusedSimpArgs false
set_option linter.unnecessarySimpa false
set_option maxRecDepth 100000
set_option maxHeartbeats 8000000
namespace Go.Ab
section
variable {P:Program} {G:Gh} {w:World}
theorem qZ {t:TypeId} {c:CK} (h:oB P t=some c):cW P t=some 1∧fQ P t=some false ∧
   ((c=.int∧∃k,P.underlying t=some (.int k))∨(c=.str∧P.underlying t=some .string)∨(c=.bool∧P.underlying t=some .bool)):=by
 unfold oB at h;simp only [Option.ite_none_right_eq_some] at h;obtain ⟨h1,h⟩:=h;refine ⟨h1,?_⟩;split at h
 · rename_i k hu;cases h;exact ⟨by simp [fQ,hu],.inl ⟨rfl,k,hu⟩⟩
 · rename_i hu;cases h;exact ⟨by simp [fQ,hu],.inr (.inl ⟨rfl,hu⟩)⟩
 · rename_i hu;cases h;exact ⟨by simp [fQ,hu],.inr (.inr ⟨rfl,hu⟩)⟩
 · cases h
theorem Du {c:CK} {p q:PV} {b:Bool} (h:tP c p q=some b) :
   (∃k x y,c=.int∧p=.int k x∧q=.int k y∧b=(x == y))∨(∃x y,c=.str∧p=.str x∧q=.str y∧b=(x == y))∨(∃x y,c=.bool∧p=.bool x∧q=.bool y∧b=(x == y)):=by
 unfold tP at h;split at h
 · rename_i k x k' y;simp only [Option.ite_none_right_eq_some,Option.some.injEq] at h;obtain ⟨rfl,rfl⟩:=h;exact .inl ⟨k,x,y,rfl,rfl,rfl,rfl⟩
 · rename_i x y;cases h;exact .inr (.inl ⟨x,y,rfl,rfl,rfl,rfl⟩)
 · rename_i x y;cases h;exact .inr (.inr ⟨x,y,rfl,rfl,rfl,rfl⟩)
 · cases h
theorem tS {t:TypeId} {c:CK} (d:Nat) (ht:oB P t=some c) {K:bJ} {p q:PV} {x y:Value} {b:Bool} (hx:Rel K p x) (hy:Rel K q y) (h:tP c p q=some b) :
   (Op.equalIn (d+1) t x y).run P w=.ok b w:=by
 obtain ⟨_,_,hk⟩:=qZ ht;rcases Du h with ⟨k,a,b',rfl,rfl,rfl,rfl⟩ | ⟨a,b',rfl,rfl,rfl,rfl⟩ | ⟨a,b',rfl,rfl,rfl,rfl⟩
 · rw [cB] at hx hy;subst hx hy;simp only [true_and,reduceCtorEq,false_and,or_false] at hk;obtain ⟨k',hu⟩:=hk;exact run_equalIn_int w d t k k' a b' hu
 · rw [jZ] at hx hy;subst hx hy;simp only [true_and,reduceCtorEq,false_and,or_false,false_or] at hk;rw [run_equalIn_string w d t _ _ hk,toList_mk,toList_mk]
 · rw [iv] at hx hy;subst hx hy;simp only [true_and,reduceCtorEq,false_and,false_or] at hk;exact run_equalIn_bool' w d t a b' hk
theorem pB:∀{cs:List CK} {ps qs:List PV} {b:Bool},ef cs ps qs=some b→ps.length=cs.length∧qs.length=cs.length
 | [],[],[],_,_=>by simp
 | c::cs,p::ps,q::qs,b,h=>by
   simp only [ef] at h;split at h
   · have:=pB h;simp [this]
   · simp only [Option.ite_none_right_eq_some] at h;simp [h.1]
   · cases h
 | [],_::_,_,_,h=>by simp [ef] at h
 | [],[],_::_,_,h=>by simp [ef] at h
 | _::_,[],_,_,h=>by simp [ef] at h
 | _::_,_::_,[],_,h=>by simp [ef] at h
theorem ny (d:Nat):∀(fs:List Field) (i:Nat) {cs:List CK} {ps qs:List PV} {xs ys:List Value} {b:Bool},hU P i fs=some cs →
   dV G.K ps (xs.drop i)→dV G.K qs (ys.drop i)→ef cs ps qs=some b→(Op.eqFields (d+1) xs.toArray ys.toArray fs).run P w=.ok b w
 | [],i,cs,ps,qs,xs,ys,b,hp,hx,hy,h=>by
   simp [hU] at hp;subst hp;obtain ⟨h1,h2⟩:=pB h;simp at h1 h2;subst h1 h2;simp [ef] at h;subst h;simp [Op.eqFields]
 | f::fs,i,cs,ps,qs,xs,ys,b,hp,hx,hy,h=>by
   simp only [hU,Option.ite_none_right_eq_some] at hp;obtain ⟨⟨hn,ho⟩,hp⟩:=hp;split at hp
   · rename_i c cs' hc hcs;cases hp;cases ps with
     | nil=>simp [ef] at h
     | cons p ps=>
       cases qs with
       | nil=>simp [ef] at h
       | cons q qs=>
         obtain ⟨hsz,hag,_⟩:=qZ hc;simp only [dV] at hx hy;obtain ⟨x,xr,ex,rx,hx⟩:=hx;obtain ⟨y,yr,ey,ry,hy⟩:=hy;have gx:xs[i]?=some x:=by have:=congrArg (·[0]?) ex;simpa using this
         have gy:ys[i]?=some y:=by have:=congrArg (·[0]?) ey;simpa using this
         have dx:xs.drop (i+1)=xr:=by have:=congrArg (List.drop 1) ex;simpa [List.drop_drop,Nat.add_comm] using this
         have dy:ys.drop (i+1)=yr:=by have:=congrArg (List.drop 1) ey;simpa [List.drop_drop,Nat.add_comm] using this
         have px:∀w:World,(part f.type xs.toArray f.offset).run P w=.ok x w:=fun w=>by
           simp only [part,Sem.run_bind,gC hag,Result.andThen_ok,Bool.false_eq_true,if_false,ho];simp [gx]
         have py:∀w:World,(part f.type ys.toArray f.offset).run P w=.ok y w:=fun w=>by
           simp only [part,Sem.run_bind,gC hag,Result.andThen_ok,Bool.false_eq_true,if_false,ho];simp [gy]
         simp only [ef] at h;simp only [Op.eqFields,if_pos hn,Sem.run_bind,px,py,Result.andThen_ok];split at h
         · rename_i hk;rw [tS d hc (Rel.Jy rx) (Rel.Jy ry) hk];simp only [Result.andThen_ok,Bool.not_true,Bool.false_eq_true,if_false];exact ny d fs (i+1) hcs (dx ▸ hx) (dy ▸ hy) h
         · rename_i hk;simp only [Option.ite_none_right_eq_some,Option.some.injEq] at h;obtain ⟨_,rfl⟩:=h;rw [tS d hc (Rel.Jy rx) (Rel.Jy ry) hk];simp
         · cases h
   · cases hp
theorem Dv {op:BinOp} {t:TypeId} {neg:Bool} {cs:List CK} {fs:Array Field} {ps qs:List PV} {x y:Value} {b:Bool} (hu:P.underlying t=some (.struct fs)) (h1:P.stoodInHeld t=false) (h2:P.eqGuardType P.depth t=false)
   (hp:hU P 0 fs.toList=some cs) (hop:(op=.eql∧neg=false)∨(op=.neq∧neg=true)) (hx:Rel G.K (.agg ps) x) (hy:Rel G.K (.agg qs) y) (h:ef cs ps qs=some b) (ox oy:Operand) :
   (do eqGuard op t ox oy x y;binOp op t x y:Sem Value).run P w=.ok (.bool (if neg then !b else b)) w:=by
 obtain ⟨xs,rfl,hx⟩:=hx;obtain ⟨ys,rfl,hy⟩:=hy;have hf:P.fieldsOf t=fs:=by simp [Program.fieldsOf,hu]
 have he:(Op.equalIn 10000 t (.agg xs.toArray) (.agg ys.toArray)).run P w=.ok b w:=by
   rw [show (10000:Nat)=9998+1+1 from rfl,run_equalIn_struct w (9998+1) t _ _ (by rw [hf];exact hu) h1,hf];exact ny 9998 fs.toList 0 hp (by simpa using hx) (by simpa using hy) h
 simp only [Sem.run_bind,run_eqGuard_agg w op t ox oy _ _ h2,Result.andThen_ok];rcases hop with ⟨rfl,rfl⟩ | ⟨rfl,rfl⟩
 · rw [run_eql_struct,he];rfl
 · rw [run_neq_struct,he];rfl
end
end Go.Ab
