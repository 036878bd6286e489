import Derived.Test.YtcjggpmnbcfedaaDoorAbOps3
import Derived.Laws.StructEq
import Derived.RangeFuncRecord
/-
  Comparisons of structs, and the entries of maps.
-/
set_option linter.unusedVariables false
set_option linter.unusedSimpArgs false
set_option linter.unnecessarySimpa false
set_option maxRecDepth 100000
set_option maxHeartbeats 8000000
namespace Go.Ab
section
variable {P:Program} {G:Gh} {w:World}
theorem eV {t:TypeId} {c:CK} (h:dN P t=some c):bt P t=some 1∧dE P t=some false ∧
   ((c=.int∧∃k,P.underlying t=some (.int k))∨(c=.str∧P.underlying t=some .string)∨(c=.bool∧P.underlying t=some .bool)):=by
 unfold dN at h
 simp only [Option.ite_none_right_eq_some] at h
 obtain ⟨h1,h⟩:=h
 refine ⟨h1,?_⟩
 split at h
 · rename_i k hu;cases h;exact ⟨by simp [dE,hu],.inl ⟨rfl,k,hu⟩⟩
 · rename_i hu;cases h;exact ⟨by simp [dE,hu],.inr (.inl ⟨rfl,hu⟩)⟩
 · rename_i hu;cases h;exact ⟨by simp [dE,hu],.inr (.inr ⟨rfl,hu⟩)⟩
 · cases h
theorem mP {c:CK} {p q:PV} {b:Bool} (h:kY c p q=some b) :
   (∃k x y,c=.int∧p=.int k x∧q=.int k y∧b=(x == y))∨(∃x y,c=.str∧p=.str x∧q=.str y∧b=(x == y))∨(∃x y,c=.bool∧p=.bool x∧q=.bool y∧b=(x == y)):=by
 unfold kY at h
 split at h
 · rename_i k x k' y
   simp only [Option.ite_none_right_eq_some,Option.some.injEq] at h
   obtain ⟨rfl,rfl⟩:=h
   exact .inl ⟨k,x,y,rfl,rfl,rfl,rfl⟩
 · rename_i x y;cases h;exact .inr (.inl ⟨x,y,rfl,rfl,rfl,rfl⟩)
 · rename_i x y;cases h;exact .inr (.inr ⟨x,y,rfl,rfl,rfl,rfl⟩)
 · cases h
theorem bytes_beq (a b:List UInt8):((⟨a.toArray⟩:ByteArray) == ⟨b.toArray⟩)=(a == b):=by
 rw [beq_toListBytes,toList_mk,toList_mk]
theorem mQ {t:TypeId} {c:CK} (d:Nat) (ht:dN P t=some c) {K:aF} {p q:PV} {x y:Value} {b:Bool} (hx:Rel K p x) (hy:Rel K q y) (h:kY c p q=some b) :
   (Op.equalIn (d+1) t x y).run P w=.ok b w:=by
 obtain ⟨_,_,hk⟩:=eV ht
 rcases mP h with ⟨k,a,b',rfl,rfl,rfl,rfl⟩ | ⟨a,b',rfl,rfl,rfl,rfl⟩ | ⟨a,b',rfl,rfl,rfl,rfl⟩
 · rw [dn] at hx hy;subst hx hy
   simp only [true_and,reduceCtorEq,false_and,or_false] at hk
   obtain ⟨k',hu⟩:=hk
   exact run_equalIn_int w d t k k' a b' hu
 · rw [fC] at hx hy;subst hx hy
   simp only [true_and,reduceCtorEq,false_and,or_false,false_or] at hk
   rw [run_equalIn_string w d t _ _ hk,toList_mk,toList_mk]
 · rw [dj] at hx hy;subst hx hy
   simp only [true_and,reduceCtorEq,false_and,false_or] at hk
   exact run_equalIn_bool' w d t a b' hk
theorem j7:∀{cs:List CK} {ps qs:List PV} {b:Bool},cn cs ps qs=some b→ps.length=cs.length∧qs.length=cs.length
 | [],[],[],_,_=>by simp
 | c::cs,p::ps,q::qs,b,h=>by
   simp only [cn] at h
   split at h
   · have:=j7 h;simp [this]
   · simp only [Option.ite_none_right_eq_some] at h
     simp [h.1]
   · cases h
 | [],_::_,_,_,h=>by simp [cn] at h
 | [],[],_::_,_,h=>by simp [cn] at h
 | _::_,[],_,_,h=>by simp [cn] at h
 | _::_,_::_,[],_,h=>by simp [cn] at h
theorem jl (d:Nat):∀(fs:List Field) (i:Nat) {cs:List CK} {ps qs:List PV} {xs ys:List Value} {b:Bool},d5 P i fs=some cs →
   bM G.K ps (xs.drop i)→bM G.K qs (ys.drop i)→cn cs ps qs=some b→(Op.eqFields (d+1) xs.toArray ys.toArray fs).run P w=.ok b w
 | [],i,cs,ps,qs,xs,ys,b,hp,hx,hy,h=>by
   simp [d5] at hp;subst hp
   obtain ⟨h1,h2⟩:=j7 h
   simp at h1 h2;subst h1 h2
   simp [cn] at h;subst h
   simp [Op.eqFields]
 | f::fs,i,cs,ps,qs,xs,ys,b,hp,hx,hy,h=>by
   simp only [d5,Option.ite_none_right_eq_some] at hp
   obtain ⟨⟨hn,ho⟩,hp⟩:=hp
   split at hp
   · rename_i c cs' hc hcs
     cases hp
     cases ps with
     | nil=>simp [cn] at h
     | cons p ps=>
       cases qs with
       | nil=>simp [cn] at h
       | cons q qs=>
         obtain ⟨hsz,hag,_⟩:=eV hc
         simp only [bM] at hx hy
         obtain ⟨x,xr,ex,rx,hx⟩:=hx
         obtain ⟨y,yr,ey,ry,hy⟩:=hy
         have gx:xs[i]?=some x:=by have:=congrArg (·[0]?) ex;simpa using this
         have gy:ys[i]?=some y:=by have:=congrArg (·[0]?) ey;simpa using this
         have dx:xs.drop (i+1)=xr:=by have:=congrArg (List.drop 1) ex;simpa [List.drop_drop,Nat.add_comm] using this
         have dy:ys.drop (i+1)=yr:=by have:=congrArg (List.drop 1) ey;simpa [List.drop_drop,Nat.add_comm] using this
         have px:∀w:World,(part f.type xs.toArray f.offset).run P w=.ok x w:=fun w=>by
           simp only [part,Sem.run_bind,dF hag,Result.andThen_ok,Bool.false_eq_true,if_false,ho]
           simp [gx]
         have py:∀w:World,(part f.type ys.toArray f.offset).run P w=.ok y w:=fun w=>by
           simp only [part,Sem.run_bind,dF hag,Result.andThen_ok,Bool.false_eq_true,if_false,ho]
           simp [gy]
         simp only [cn] at h
         simp only [Op.eqFields,if_pos hn,Sem.run_bind,px,py,Result.andThen_ok]
         split at h
         · rename_i hk
           rw [mQ d hc (Rel.wW rx) (Rel.wW ry) hk]
           simp only [Result.andThen_ok,Bool.not_true,Bool.false_eq_true,if_false]
           exact jl d fs (i+1) hcs (dx ▸ hx) (dy ▸ hy) h
         · rename_i hk
           simp only [Option.ite_none_right_eq_some,Option.some.injEq] at h
           obtain ⟨_,rfl⟩:=h
           rw [mQ d hc (Rel.wW rx) (Rel.wW ry) hk]
           simp
         · cases h
   · cases hp
theorem uc {op:BinOp} {t:TypeId} {neg:Bool} {cs:List CK} {fs:Array Field} {ps qs:List PV} {x y:Value} {b:Bool} (hu:P.underlying t=some (.struct fs)) (h1:P.stoodInHeld t=false) (h2:P.eqGuardType P.depth t=false)
   (hp:d5 P 0 fs.toList=some cs) (hop:(op=.eql∧neg=false)∨(op=.neq∧neg=true)) (hx:Rel G.K (.agg ps) x) (hy:Rel G.K (.agg qs) y) (h:cn cs ps qs=some b) (ox oy:Operand) :
   (do eqGuard op t ox oy x y;binOp op t x y:Sem Value).run P w=.ok (.bool (if neg then !b else b)) w:=by
 obtain ⟨xs,rfl,hx⟩:=hx
 obtain ⟨ys,rfl,hy⟩:=hy
 have hf:P.fieldsOf t=fs:=by simp [Program.fieldsOf,hu]
 have he:(Op.equalIn 10000 t (.agg xs.toArray) (.agg ys.toArray)).run P w=.ok b w:=by
   rw [show (10000:Nat)=9998+1+1 from rfl,run_equalIn_struct w (9998+1) t _ _ (by rw [hf];exact hu) h1,hf]
   exact jl 9998 fs.toList 0 hp (by simpa using hx) (by simpa using hy) h
 simp only [Sem.run_bind,run_eqGuard_agg w op t ox oy _ _ h2,Result.andThen_ok]
 rcases hop with ⟨rfl,rfl⟩ | ⟨rfl,rfl⟩
 · rw [run_eql_struct,he];rfl
 · rw [run_neq_struct,he];rfl
theorem fE {t:TypeId} {c:CK} {d:TypeDesc} (ht:dN P t=some c) (hu:P.underlying t=some d) {K:aF} {p q:PV} {x y:Value} {b:Bool} (hx:Rel K p x) (hy:Rel K q y) (h:kY c p q=some b) :
   Instr.sameNow d x y=some b∧(b=true→Instr.sameBits 10000 y x=true):=by
 obtain ⟨_,_,hk⟩:=eV ht
 rw [hu] at hk
 rcases mP h with ⟨k,a,b',rfl,rfl,rfl,rfl⟩ | ⟨a,b',rfl,rfl,rfl,rfl⟩ | ⟨a,b',rfl,rfl,rfl,rfl⟩
 · rw [dn] at hx hy;subst hx hy
   simp only [true_and,reduceCtorEq,false_and,or_false] at hk
   obtain ⟨k',hu⟩:=hk
   cases hu
   exact ⟨by simp [Instr.sameNow],fun e=>by simp at e;subst e;simp [Instr.sameBits]⟩
 · rw [fC] at hx hy;subst hx hy
   simp only [true_and,reduceCtorEq,false_and,or_false,false_or,Option.some.injEq] at hk
   subst hk
   exact ⟨by simp only [Instr.sameNow,bytes_beq],fun e=>by simp at e;subst e;simp only [Instr.sameBits,bytes_beq];simp⟩
 · rw [dj] at hx hy;subst hx hy
   simp only [true_and,reduceCtorEq,false_and,false_or,Option.some.injEq] at hk
   subst hk
   exact ⟨by simp [Instr.sameNow],fun e=>by simp at e;subst e;simp [Instr.sameBits]⟩
theorem j8 {t:TypeId} {c:CK} {d:TypeDesc} (ht:dN P t=some c) (hu:P.underlying t=some d) {K:aF} {k:PV} {kv:Value} (hk:Rel K k kv):∀{kvs:List (PV×PV)} {es:List MapEntry} {r:Option PV} (i:Nat),di K kvs es→fU c kvs k=some r →
   (r=none∧Instr.findNow d kv es i=some none)∨∃p v j,r=some p∧Instr.findNow d kv es i=some (some (j,v))∧Rel K p v
 | [],es,r,i,hm,h=>by
   simp only [di] at hm;subst hm
   simp [fU] at h;subst h
   exact .inl ⟨rfl,by simp [Instr.findNow]⟩
 | (k',v')::kvs,es,r,i,hm,h=>by
   simp only [di] at hm
   obtain ⟨e,es',rfl,h1,h2,h3⟩:=hm
   simp only [fU] at h
   split at h
   · rename_i hq
     cases h
     obtain ⟨g1,_⟩:=fE ht hu hk h1 hq
     exact .inr ⟨v',e.val,i,rfl,by simp [Instr.findNow,g1],h2⟩
   · rename_i hq
     obtain ⟨g1,_⟩:=fE ht hu hk h1 hq
     rcases j8 ht hu hk (i+1) h3 h with ⟨a1,a2⟩ | ⟨p,v,j,a1,a2,a3⟩
     · exact .inl ⟨a1,by simp [Instr.findNow,g1,a2]⟩
     · exact .inr ⟨p,v,j,a1,by simp [Instr.findNow,g1,a2],a3⟩
   · cases h
theorem dQ {t:TypeId} {c:CK} (ht:dN P t=some c) (b:Bool) (n:Nat) (v:Value):(Instr.checkKey b (n+1) t v).run P w=.ok () w:=by
 obtain ⟨_,_,hk⟩:=eV ht
 rcases hk with ⟨_,k,hu⟩ | ⟨_,hu⟩ | ⟨_,hu⟩<;>simp [Instr.checkKey,run_underlying hu]
theorem fF {t:TypeId} {kv:Value} {es:List MapEntry} {d:TypeDesc} {r:Option (Nat×Value)} (hu:P.underlying t=some d) (h:Instr.findNow d kv es 0=some r) :
   (Instr.findKey t kv es).run P w=.ok r w:=by
 simp [Instr.findKey,run_underlying hu,h]
theorem jm {t:TypeId} {c:CK} (h:dN P t=some c):∃d,P.underlying t=some d:=by
 obtain ⟨_,_,hk⟩:=eV h
 rcases hk with ⟨_,k,hu⟩ | ⟨_,hu⟩ | ⟨_,hu⟩<;>exact ⟨_,hu⟩
theorem mR {t:TypeId} {c:CK} {d:TypeDesc} (ht:dN P t=some c) (hu:P.underlying t=some d) {K:aF} {k p:PV} {kv v:Value} (hk:Rel K k kv) (hp:Rel K p v) (clock:Nat):∀{kvs kvs':List (PV×PV)} {es:List MapEntry} (i:Nat),di K kvs es→hG c kvs k p=some kvs' →
   (Instr.findNow d kv es i=some none∧di K kvs' (es++[{ key:=kv,val:=v,born:=clock }])) ∨
   ∃j u e,Instr.findNow d kv es i=some (some (i+j,u))∧es[j]?=some e∧Instr.sameBits 10000 e.key kv=true∧di K kvs' (es.modify j fun e=>{ e with key:=kv,val:=v })
 | [],kvs',es,i,hm,h=>by
   simp only [di] at hm;subst hm
   simp [hG] at h;subst h
   exact .inl ⟨by simp [Instr.findNow],_,[],rfl,hk,hp,rfl⟩
 | (k',v')::kvs,kvs',es,i,hm,h=>by
   simp only [di] at hm
   obtain ⟨e,es',rfl,h1,h2,h3⟩:=hm
   simp only [hG] at h
   split at h
   · rename_i hq
     cases h
     obtain ⟨g1,g2⟩:=fE ht hu hk h1 hq
     exact .inr ⟨0,e.val,e,by simp [Instr.findNow,g1],rfl,g2 rfl,_,es',rfl,hk,hp,h3⟩
   · rename_i hq
     simp only [Option.map_eq_some_iff] at h
     obtain ⟨kvs1,h,rfl⟩:=h
     obtain ⟨g1,_⟩:=fE ht hu hk h1 hq
     rcases mR ht hu hk hp clock (i+1) h3 h with ⟨a1,a2⟩ | ⟨j,u,e',a1,a2,a3,a4⟩
     · exact .inl ⟨by simp [Instr.findNow,g1,a1],e,_,rfl,h1,h2,a2⟩
     · refine .inr ⟨j+1,u,e',by simp [Instr.findNow,g1,a1];omega,by simpa using a2,a3,e,_,by simp,h1,h2,a4⟩
   · cases h
theorem mu {t kt et:TypeId} {c:CK} {d:TypeDesc} {b clock:Nat} {es:Array MapEntry} {k p:PV} {kv v:Value} {kvs kvs':List (PV×PV)} (hu:P.underlying t=some (.map kt et)) (ht:dN P kt=some c) (hd:P.underlying kt=some d)
   (hh:w.heap[b]?=some (.map es clock)) (hk:Rel G.K k kv) (hp:Rel G.K p v) (hm:di G.K kvs es.toList) (h:hG c kvs k p=some kvs') :
   ∃es' clock',(Instr.mapUpdate t (.map (some b)) kv v).run P w=.ok () (w.putObj b (.map es' clock'))∧di G.K kvs' es'.toList:=by
 have hget:(getObj b).run P w=.ok (.map es clock) w:=by simp [getObj,Sem.run,hh]
 have hset:∀o,(setObj b o).run P w=.ok () (w.putObj b o):=fun o=>by simp [setObj,Sem.run,hh,World.putObj]
 rcases mR ht hd hk hp clock 0 hm h with ⟨a1,a2⟩ | ⟨j,u,e,a1,a2,a3,a4⟩
 · refine ⟨es.push { key:=kv,val:=v,born:=clock },clock+1,?_,by simpa using a2⟩
   simp only [Instr.mapUpdate,Sem.run_bind,run_underlying hu,Result.andThen_ok,hget,dQ ht,fF hd a1,hset]
 · refine ⟨es.modify j fun e=>{ e with key:=kv,val:=v },clock,?_,by simpa using a4⟩
   have he:es[0+j]?=some e:=by simpa using a2
   simp only [Instr.mapUpdate,Sem.run_bind,run_underlying hu,Result.andThen_ok,hget,dQ ht,fF hd a1,hset,he,Option.map_some,Option.getD_some,Instr.keyThatStays,a3,if_true,Sem.run_pure]
   simp
theorem j9 {K:aF}:∀{l:List Value} {z:List PV},bu bW l=some z→bM K z l
 | [],_,h=>by simp [bu] at h;subst h;simp [bM]
 | v::l,z,h=>by
   simp only [bu] at h
   split at h
   · rename_i y ys h1 h2
     cases h
     simp only [bM]
     exact ⟨v,l,rfl,(eT h1).1,j9 h2⟩
   · cases h
theorem q_ {t:TypeId} {z:PV} {K:aF} (h:zeroOf P t=some z):∃zv,(zeroValue t).run P w=.ok zv w∧Rel K z zv:=by
 unfold zeroOf at h
 cases hi:P.info? t with
 | none=>simp [hi] at h
 | some i=>
   simp only [hi,Option.bind_some] at h
   cases hz:i.zero with
   | none=>simp [hz] at h
   | some zv=>
     refine ⟨zv,by simp [zeroValue,typeInfo,hi,hz],?_⟩
     simp only [hz] at h
     split at h
     · rename_i cs hcs
       cases hcs
       simp only [Option.map_eq_some_iff] at h
       obtain ⟨ps,h1,rfl⟩:=h
       exact ⟨cs.toList,by simp,j9 h1⟩
     · rename_i v _ hv
       cases hv
       exact Rel.wW (eT h).1
     · cases ‹_›
end
end Go.Ab
