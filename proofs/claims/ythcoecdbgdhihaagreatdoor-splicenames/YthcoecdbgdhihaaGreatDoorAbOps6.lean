import Derived.Test.YthcoecdbgdhihaaGreatDoorAbOps5
import Derived.Laws.IdiomStrings
/-
  The operations on values, all together.
-/
set_option linter.unusedVariables false
set_option linter.unusedSimpArgs false
set_option linter.unnecessarySimpa false
set_option maxRecDepth 100000
set_option maxHeartbeats 8000000
namespace Go.Ab
section
variable {P:Program} {ns:Names} {G:Gh} {w:World}
def tT (ns:Names) (P:Program) (G:Gh) (w:World) (mem:List (Nat×List AV)) (sh:Sh) (ah:aN) (s:Sem Value) (x:AV):Prop:=
 ∃v w' G',s.run P w=.ok v w'∧aC (num ns) G' x v∧Inv (num ns) G' w' mem sh ah∧G.le G'∧cq G w G' w'
theorem tT.stay {mem:List (Nat×List AV)} {sh:Sh} {ah:aN} (hi:Inv (num ns) G w mem sh ah) {s:Sem Value} {x:AV} {v:Value} (h:s.run P w=.ok v w) (hr:aC (num ns) G x v) :
   tT ns P G w mem sh ah s x:=⟨v,w,G,h,hr,hi,G.le_refl,cq.refl G w⟩
theorem cM {ρ:cy} {vals:List AV} {v:Value} (h:aB ρ G vals [v]):∃x,vals=[x]∧aC ρ G x v:=by
 cases vals with
 | nil=>simp [aB] at h
 | cons x r=>
   simp only [aB] at h;obtain ⟨u,r',e,h1,h2⟩:=h;cases e;cases r with
   | nil=>exact ⟨x,rfl,h1⟩
   | cons _ _=>simp [aB] at h2
theorem dW {ρ:cy} {vals:List AV} {u v:Value} (h:aB ρ G vals [u,v]):∃x y,vals=[x,y]∧aC ρ G x u∧aC ρ G y v:=by
 cases vals with
 | nil=>simp [aB] at h
 | cons x r=>
   simp only [aB] at h;obtain ⟨u',r',e,h1,h2⟩:=h;cases e;obtain ⟨y,rfl,h3⟩:=cM h2;exact ⟨x,y,rfl,h1,h3⟩
theorem w7 {ρ:cy} {vals:List AV} {u v t:Value} (h:aB ρ G vals [u,v,t]):∃x y z,vals=[x,y,z]∧aC ρ G x u∧aC ρ G y v∧aC ρ G z t:=by
 cases vals with
 | nil=>simp [aB] at h
 | cons x r=>
   simp only [aB] at h;obtain ⟨u',r',e,h1,h2⟩:=h;cases e;obtain ⟨y,z,rfl,h3,h4⟩:=dW h2;exact ⟨x,y,z,rfl,h1,h3,h4⟩
theorem GB {x1 x2 x3 x:AV} (h:cf .pick [x1,x2,x3]=some x):∃c,x1=.pv (.bool c)∧x=if c then x2 else x3:=by
 cases x1 with
 | pv p=>cases p with
   | bool c=>exact ⟨c,rfl,by simpa [cf] using h.symm⟩
   | _=>simp [cf] at h
 | _=>simp [cf] at h
theorem JK {neg:Bool} {x1 x2 x:AV} (h:cf (.beq neg) [x1,x2]=some x):∃p q,x1=.pv (.bool p)∧x2=.pv (.bool q)∧x=.pv (.bool (if neg then !(p == q) else (p == q))):=by
 cases x1 with
 | pv p=>cases p with
   | bool c=>cases x2 with
     | pv q=>cases q with
       | bool d=>exact ⟨c,d,rfl,rfl,by simpa [cf] using h.symm⟩
       | _=>simp [cf] at h
     | _=>simp [cf] at h
   | _=>simp [cf] at h
 | _=>simp [cf] at h
theorem GC {k:IntKind} {x1 x:AV} (h:cf (.conv k) [x1]=some x):∃k' n,x1=.pv (.int k' n)∧x=.pv (.int k (k.wrap n)):=by
 cases x1 with
 | pv p=>cases p with
   | int k' n=>exact ⟨k',n,rfl,by simpa [cf] using h.symm⟩
   | _=>simp [cf] at h
 | _=>simp [cf] at h
theorem Dw {sz:Nat} {x1 x2 x:AV} (h:cf (.aA sz) [x1,x2]=some x):∃k i,x2=.pv (.int k i):=by
 cases x2 with
 | pv p=>cases p with
   | int k n=>exact ⟨k,n,rfl⟩
   | _=>simp [cf] at h
 | _=>simp [cf] at h
theorem Dx {x1 x2 x:AV} (h:cf .index [x1,x2]=some x):∃s k i,x1=.pv (.str s)∧x2=.pv (.int k i):=by
 cases x1 with
 | pv q=>cases q with
   | str s=>cases x2 with
     | pv p=>cases p with
       | int k n=>exact ⟨s,k,n,rfl,rfl⟩
       | _=>simp [cf] at h
     | _=>simp [cf] at h
   | _=>simp [cf] at h
 | _=>simp [cf] at h
theorem q9:∀{els:List PV} {s:List UInt8},fU els=some s→els=s.map fun b=>.int .u8 (b.toNat:Int)
 | [],s,h=>by simp [fU] at h;subst h;rfl
 | .int .u8 n::r,s,h=>by
   simp only [fU,Option.ite_none_right_eq_some,Option.map_eq_some_iff] at h;obtain ⟨⟨h0,h1⟩,q,h2,rfl⟩:=h;have:((UInt8.ofNat n.toNat).toNat:Int)=n:=by
     simp;omega
   simp only [List.map_cons,this,←q9 h2]
 | .int .i64 _::_,_,h=>by simp [fU] at h
 | .int .i32 _::_,_,h=>by simp [fU] at h
 | .int .i16 _::_,_,h=>by simp [fU] at h
 | .int .i8 _::_,_,h=>by simp [fU] at h
 | .int .u64 _::_,_,h=>by simp [fU] at h
 | .int .u32 _::_,_,h=>by simp [fU] at h
 | .int .u16 _::_,_,h=>by simp [fU] at h
 | .bool _::_,_,h=>by simp [fU] at h
 | .str _::_,_,h=>by simp [fU] at h
 | .agg _::_,_,h=>by simp [fU] at h
 | .aI _::_,_,h=>by simp [fU] at h
theorem b2s_inv {x1 x:AV} (h:cf .b2s [x1]=some x):∃s:List UInt8,cR x1=some (s.map fun b=>.int .u8 (b.toNat:Int))∧x=.pv (.str s):=by
 simp only [cf,Option.map_eq_some_iff,Option.bind_eq_some_iff] at h;obtain ⟨s,⟨els,h1,h2⟩,rfl⟩:=h;exact ⟨s,by rw [h1,q9 h2],rfl⟩
theorem b2s_run {s d e:TypeId} {l:List UInt8} {x:AV} {v:Value} (hs:P.underlying s=some (.slice e)) (he:P.underlying e=some (.int .u8)) (hd:P.underlying d=some .string)
   (hi:∀b o u,G.K b o=some u→w.cell? ⟨b,o,none⟩=some u) (hx:cR x=some (l.map fun b=>.int .u8 (b.toNat:Int))) (hr:aC (num ns) G x v) :
   (convert s d v).run P w=.ok (.string ⟨l.toArray⟩) w:=by
 obtain ⟨base,len,cap,rfl,_,hlen,hrow⟩:=cK.1 (ew hx hr);simp only [List.length_map] at hlen;subst hlen;cases base with
 | none=>
   have h0:l=[]:=by
     rcases hrow with h | ⟨b,o,sz,e,_⟩
     · simpa using h
     · cases e
   subst h0;show (convert s d (.slice none 0 cap)).run P w=_;rw [run_convert_bytes_string w s d e none 0 cap hs he hd];simp [Conv.bytesToString];rfl
 | some a=>
   refine run_convert_bytes_back w s d e a cap l hs he hd fun j hj=>?_
   rcases hrow with h | ⟨b,o,sz,e,hrow⟩
   · simp at h;subst h;simp at hj
   · cases e
     obtain ⟨vs,g1,g2,g3⟩:=hrow.get (i:=j) (el:=.int .u8 (l[j].toNat:Int)) (by simp [hj]);simp only [R] at g3;subst g3;simp at g1;subst g1;rw [Addr.ev];have:=g2 0 _ rfl;simp at this;exact hi _ _ _ this
theorem JL {i:Nat} {x1 x:AV} (h:cf (.ext i) [x1]=some x):∃vs,x1=.pg vs∧vs[i]?=some x:=by
 cases x1 with
 | pg vs=>exact ⟨vs,rfl,by simpa [cf] using h⟩
 | _=>simp [cf] at h
theorem Dy {sz:Nat} {ag:Bool} {x1 x:AV} (h:cf (.bG sz ag) [x1]=some x):∃cs,x1=.gf cs∧df ag sz cs=some x:=by
 cases x1 with
 | gf vs=>exact ⟨vs,rfl,by simpa [cf] using h⟩
 | _=>simp [cf] at h
theorem GD {x1 x:AV} (h:cf .jn [x1]=some x):∃s,x1=.pv (.str s)∧x=.pv (.int .i64 (s.length:Int)):=by
 cases x1 with
 | pv q=>cases q with
   | str s=>exact ⟨s,rfl,by simpa [cf] using h.symm⟩
   | _=>simp [cf] at h
 | _=>simp [cf] at h
theorem JM {cs:List CK} {neg:Bool} {x1 x2 x:AV} (h:cf (.Ob cs neg) [x1,x2]=some x):∃ps qs b,dR [] x1=some (.agg ps)∧dR [] x2=some (.agg qs)∧ef cs ps qs=some b∧x=.pv (.bool (if neg then !b else b)):=by
 simp only [cf] at h;split at h
 · rename_i ps qs h1 h2;simp only [Option.map_eq_some_iff] at h;obtain ⟨b,h3,rfl⟩:=h;exact ⟨ps,qs,b,h1,h2,h3,rfl⟩
 · cases h
theorem Mv {x1 x2 x:AV} (h:cf .mn [x1,x2]=some x):∃k p q,x1=.pv (.int k p)∧x2=.pv (.int k q)∧x=.pv (.int k (if q<p then q else p)):=by
 cases x1 with
 | pv q=>cases q with
   | int k s=>cases x2 with
     | pv p=>cases p with
       | int k' n=>
         simp only [cf,Option.ite_none_right_eq_some,Option.some.injEq] at h;obtain ⟨rfl,rfl⟩:=h;exact ⟨k,s,n,rfl,rfl,rfl⟩
       | _=>simp [cf] at h
     | _=>simp [cf] at h
   | _=>simp [cf] at h
 | _=>simp [cf] at h
theorem Mw {x1 x2 x:AV} (h:cf .mx [x1,x2]=some x):∃k p q,x1=.pv (.int k p)∧x2=.pv (.int k q)∧x=.pv (.int k (if q > p then q else p)):=by
 cases x1 with
 | pv q=>cases q with
   | int k s=>cases x2 with
     | pv p=>cases p with
       | int k' n=>
         simp only [cf,Option.ite_none_right_eq_some,Option.some.injEq] at h;obtain ⟨rfl,rfl⟩:=h;exact ⟨k,s,n,rfl,rfl,rfl⟩
       | _=>simp [cf] at h
     | _=>simp [cf] at h
   | _=>simp [cf] at h
 | _=>simp [cf] at h
theorem w8 {A:lf} {o:Oper} {vo:s9} {args:List Operand} (hc:cm P ns A o.dst o.op=some (.v vo,args)) {a:Act} {vals:List AV} {x:AV}
   {mem:List (Nat×List AV)} {sh:Sh} {ah:aN} (hr:aB (num ns) G vals (args.map a.eval)) (hi:Inv (num ns) G w mem sh ah) (h:cf vo vals=some x) :
   ∃v w' G',(execOp a.eval o).run P w=.ok (.value v) w'∧aC (num ns) G' x v∧Inv (num ns) G' w' mem sh ah∧G.le G'∧cq G w G' w':=by
 obtain ⟨dst,op,type,pos,after,guard⟩:=o;have lift:∀{s:Sem Value},tT ns P G w mem sh ah s x→(execOp a.eval ⟨dst,op,type,pos,after,guard⟩=(do pure (.value (←s)):Sem Next)) →
     ∃v w' G',(execOp a.eval ⟨dst,op,type,pos,after,guard⟩).run P w=.ok (.value v) w'∧aC (num ns) G' x v∧Inv (num ns) G' w' mem sh ah∧G.le G'∧cq G w G' w':=by
   rintro s ⟨v,w',G',h1,h2,h3,h4,h5⟩ he
   exact ⟨v,w',G',by rw [he];simp only [Sem.run_bind,h1,Result.andThen_ok,Sem.run_pure],h2,h3,h4,h5⟩
 cases op<;>simp only [cm] at hc
 case move y=>
   simp at hc;obtain ⟨rfl,rfl⟩:=hc;obtain ⟨x',rfl,h1⟩:=cM (by simpa using hr);simp [cf] at h;subst h;exact ⟨_,w,G,by simp [execOp],h1,hi,G.le_refl,cq.refl G w⟩
 case assign y=>
   simp at hc;obtain ⟨rfl,rfl⟩:=hc;obtain ⟨x',rfl,h1⟩:=cM (by simpa using hr);simp [cf] at h;subst h;exact ⟨_,w,G,by simp [execOp],h1,hi,G.le_refl,cq.refl G w⟩
 case pick c y z=>
   simp at hc;obtain ⟨rfl,rfl⟩:=hc;obtain ⟨x1,x2,x3,rfl,h1,h2,h3⟩:=w7 (by simpa using hr);obtain ⟨b,rfl,rfl⟩:=GB h;simp only [aC,iv] at h1;refine ⟨if b then a.eval y else a.eval z,w,G,by simp [execOp,h1,asBool],?_,hi,G.le_refl,cq.refl G w⟩;cases b<;>simp [h2,h3]
 case binOp op t y z ty=>
   simp only [Option.map_eq_some_iff] at hc;obtain ⟨vo',h0,he⟩:=hc;simp at he;obtain ⟨rfl,rfl⟩:=he;obtain ⟨x1,x2,rfl,h1,h2⟩:=dW (by simpa using hr);unfold Cs at h0;refine lift (s:=do eqGuard op t y z (a.eval y) (a.eval z);binOp op t (a.eval y) (a.eval z)) ?_ rfl;split at h0
   · simp at h0;subst h0;simp only [cf] at h;obtain ⟨v,g1,g2⟩:=po (P:=P) (w:=w) (t:=t) h1 h2 h y z;exact .stay hi g1 g2
   · simp at h0;subst h0;simp only [cf] at h;obtain ⟨v,g1,g2⟩:=po (P:=P) (w:=w) (t:=t) h1 h2 h y z;exact .stay hi g1 g2
   · rename_i hu;have key:∀neg,vo'=.beq neg→((op=.eql∧neg=false)∨(op=.neq∧neg=true))→tT ns P G w mem sh ah (do eqGuard op t y z (a.eval y) (a.eval z);binOp op t (a.eval y) (a.eval z)) x:=by
       intro neg hvo hop;subst hvo;obtain ⟨p,q,rfl,rfl,rfl⟩:=JK h;simp only [aC,iv] at h1 h2;rw [h1,h2];exact .stay hi (wQ hu hop p q y z) jU
     split at h0
     · simp at h0;exact key false h0.symm (.inl ⟨‹_›,rfl⟩)
     · split at h0
       · simp at h0;exact key true h0.symm (.inr ⟨‹_›,rfl⟩)
       · simp at h0
   · rename_i fs hu;simp only [Option.ite_none_right_eq_some] at h0;obtain ⟨⟨hs1,hs2⟩,h0⟩:=h0;split at h0
     · rename_i cs hcs;have key:∀neg,vo'=.Ob cs neg→((op=.eql∧neg=false)∨(op=.neq∧neg=true))→tT ns P G w mem sh ah (do eqGuard op t y z (a.eval y) (a.eval z);binOp op t (a.eval y) (a.eval z)) x:=by
         intro neg hvo hop;subst hvo;obtain ⟨ps,qs,b,f1,f2,f3,rfl⟩:=JM h;exact .stay hi (Dv hu hs1 hs2 hcs hop (nv f1 h1) (nv f2 h2) f3 y z) jU
       split at h0
       · simp at h0;exact key false h0.symm (.inl ⟨‹_›,rfl⟩)
       · split at h0
         · simp at h0;exact key true h0.symm (.inr ⟨‹_›,rfl⟩)
         · simp at h0
     · simp at h0
   · simp at h0
 case unOp op t y=>
   simp at hc;obtain ⟨rfl,rfl⟩:=hc;obtain ⟨x',rfl,h1⟩:=cM (by simpa using hr);refine lift (s:=Op.unary op (a.eval y)) ?_ rfl;simp only [cf] at h;unfold Oc at h;split at h
   · split at h<;>simp at h
     subst h;simp only [aC,iv] at h1;rw [h1];exact .stay hi (by simp [Op.unary]) jU
   · split at h<;>simp at h
     subst h;simp only [aC,cB] at h1;rw [h1];exact .stay hi (by simp [Op.unary,Op.intArith]) dK
   · simp at h
 case convert s d y=>
   split at hc
   · rename_i k1 k2 hs hd;simp at hc;obtain ⟨rfl,rfl⟩:=hc;obtain ⟨x',rfl,h1⟩:=cM (by simpa using hr);obtain ⟨k',n,rfl,rfl⟩:=GC h;simp only [aC,cB] at h1;refine lift (s:=convert s d (a.eval y)) ?_ rfl;rw [h1];exact .stay hi (by simp [convert,run_underlying hs,run_underlying hd,Conv.intToInt]) dK
   · rename_i e hs hd;split at hc
     · rename_i he;simp at hc;obtain ⟨rfl,rfl⟩:=hc;obtain ⟨x',rfl,h1⟩:=cM (by simpa using hr);obtain ⟨l,hl,rfl⟩:=b2s_inv h;refine lift (s:=convert s d (a.eval y)) ?_ rfl;exact .stay hi (b2s_run hs he hd hi.known hl h1) qW
     · simp at hc
   · simp at hc
 case extract y i=>
   simp at hc;obtain ⟨rfl,rfl⟩:=hc;obtain ⟨x',rfl,h1⟩:=cM (by simpa using hr);obtain ⟨vs,rfl,h2⟩:=JL h;simp only [aC] at h1;obtain ⟨us,h3,h4⟩:=h1;obtain ⟨u,h5,h6⟩:=h4.get h2;refine lift (s:=Instr.extract (a.eval y) i) ?_ rfl;rw [h3];exact .stay hi (by simp [Instr.extract,h5]) h6
 case field t y f=>
   split at hc
   · rename_i fd hf;split at hc
     · rename_i sz ag hsz hag;simp at hc;obtain ⟨rfl,rfl⟩:=hc;obtain ⟨x',rfl,h1⟩:=cM (by simpa using hr);obtain ⟨u,g1,g2⟩:=wS (w:=w) hf hsz hag h h1;exact lift (s:=Instr.field t (a.eval y) f) (.stay hi g1 g2) rfl
     · simp at hc
   · simp at hc
 case fieldAddr t y f=>
   split at hc
   · rename_i fd hf;split at hc
     · rename_i sz hsz;split at hc
       · simp at hc
       · rename_i hs0;simp at hc;obtain ⟨rfl,rfl⟩:=hc;obtain ⟨x',rfl,h1⟩:=cM (by simpa using hr);obtain ⟨u,g1,g2⟩:=wT (w:=w) hf hsz hs0 h h1;exact lift (s:=Instr.fieldAt t (a.eval y) f) (.stay hi g1 g2) rfl
     · simp at hc
   · simp at hc
 case indexAddr t y i=>
   split at hc
   · rename_i e he;simp only [Option.map_eq_some_iff] at hc;obtain ⟨sz,hsz,hc⟩:=hc;simp at hc;obtain ⟨rfl,rfl⟩:=hc;obtain ⟨x1,x2,rfl,h1,h2⟩:=dW (by simpa using hr);obtain ⟨k,i',rfl⟩:=Dw h;obtain ⟨u,g1,g2⟩:=wU (w:=w) he hsz h h1;simp only [aC,cB] at h2;refine lift (s:=Instr.indexAt t (a.eval y) (a.eval i)) ?_ rfl;rw [h2];exact .stay hi g1 g2
   · simp at hc
 case index t y i=>
   split at hc
   · rename_i hu;simp at hc;obtain ⟨rfl,rfl⟩:=hc;obtain ⟨x1,x2,rfl,h1,h2⟩:=dW (by simpa using hr);obtain ⟨s,k,i',rfl,rfl⟩:=Dx h;obtain ⟨u,g1,g2⟩:=wV (ns:=ns) (G:=G) (w:=w) hu h;simp only [aC,cB,jZ] at h1 h2;refine lift (s:=Instr.index t (a.eval y) (a.eval i)) ?_ rfl;rw [h1,h2];exact .stay hi g1 g2
   · simp at hc
 case build t ps=>
   split at hc
   · rename_i fs hu;split at hc
     · rename_i z pl hz hp;simp at hc;obtain ⟨rfl,rfl⟩:=hc;have hmap:(ps.map fun (i,x)=>(i,a.eval x))=((ps.toList.map (·.1)).zip ((ps.toList.map (·.2)).map a.eval)).toArray:=by
         apply Array.ext';rw [Array.toList_map];exact pE a.eval ps.toList
       refine lift (s:=Instr.build t (ps.map fun (i,x)=>(i,a.eval x))) ?_ rfl;rw [hmap];obtain ⟨u,g1,g2⟩:=wY (w:=w) hz hp hr (by simp) h;exact .stay hi g1 g2
     · simp at hc
   · simp at hc
 case buildSlice t n ps=>
   split at hc
   · rename_i e he;split at hc
     · rename_i sz z hsz hz;simp only [Option.ite_none_right_eq_some,Option.some.injEq,Prod.mk.injEq] at hc;obtain ⟨⟨hn,hord,h0,hb⟩,hvo,rfl⟩:=hc;simp at hvo;subst hvo;have hmap:(ps.map fun (i,x)=>(i,a.eval x))=((List.range' 0 ((ps.toList.map (·.2)).map a.eval).length).zip ((ps.toList.map (·.2)).map a.eval)).toArray:=by
         apply Array.ext';rw [Array.toList_map];exact pD a.eval ps.toList 0 hord
       refine lift (s:=Instr.buildSlice t n (ps.map fun (i,x)=>(i,a.eval x))) ?_ rfl;rw [hmap];obtain ⟨u,c,g1,g2⟩:=uZ he hsz hz (by simp [hn]) h0 hb hr hi h;exact ⟨u,_,_,g1,g2,hi.qY c e,Gh.qo hi c,cq.qY hi c e⟩
     · simp at hc
   · simp at hc
 case load t y=>
   split at hc
   · rename_i sz ag hsz hag;split at hc
     · rename_i tx;split at hc
       · simp at hc
       · split at hc
         · simp at hc
         · simp at hc;obtain ⟨rfl,rfl⟩:=hc;obtain ⟨x',rfl,h1⟩:=cM (by simpa using hr);obtain ⟨cs,rfl,h2⟩:=Dy h;simp only [aC] at h1;obtain ⟨b,o,vs,e,ha,hrl⟩:=h1;refine lift (s:=Instr.loadAt t (a.eval (.tmp tx))) ?_ rfl;rw [e];obtain ⟨u,g1,g2⟩:=mF (ns:=ns) (w:=w) hsz hag h2 hrl (fun j v hj=>hi.known _ _ _ (ha j v hj));exact .stay hi (by simp [Instr.loadAt,Instr.sureAddr,g1]) g2
     · simp at hc
   · simp at hc
 case nilCheck y=>
   simp at hc;obtain ⟨rfl,rfl⟩:=hc;obtain ⟨x',rfl,h1⟩:=cM (by simpa using hr);simp only [cf] at h;split at h
   · simp at h;subst h;have h1':=h1;simp only [aC] at h1;obtain ⟨b,e,hv⟩:=h1;exact ⟨a.eval y,w,G,by simp [execOp,hv],h1',hi,G.le_refl,cq.refl G w⟩
   · simp at h;subst h;have h1':=h1;simp only [aC] at h1;obtain ⟨b,e,hv⟩:=h1;exact ⟨a.eval y,w,G,by simp [execOp,hv],h1',hi,G.le_refl,cq.refl G w⟩
   · simp at h;subst h;have h1':=h1;simp only [aC] at h1;obtain ⟨b,o,vs,hv,_⟩:=h1;exact ⟨a.eval y,w,G,by simp [execOp,hv],h1',hi,G.le_refl,cq.refl G w⟩
   · simp at h;subst h;have h1':=h1;simp only [aC] at h1;obtain ⟨f,vs,_,hv,_⟩:=h1;exact ⟨a.eval y,w,G,by simp [execOp,hv],h1',hi,G.le_refl,cq.refl G w⟩
   · simp at h
 case makeFunc fn first cap=>
   split at hc
   · rename_i f;split at hc
     · rename_i hf;simp only [Option.map_eq_some_iff] at hc;obtain ⟨g,hg,hc⟩:=hc;simp at hc;obtain ⟨rfl,rfl⟩:=hc;simp [cf] at h;subst h;refine lift (s:=Instr.makeFunc (.func f) (first.map a.eval) (cap.map a.eval)) ?_ rfl;have hfirst:first=#[]:=by simpa using hf
       subst hfirst;refine .stay (v:=.func (.func f) #[] (cap.map a.eval)) hi (by simp [Instr.makeFunc]) ?_;simp only [aC];exact ⟨f,cap.toList.map a.eval,hg,by congr 1;apply Array.ext';simp,hr⟩
     · simp at hc
   · simp at hc
 case slice t y lo hi' mx=>
   split at hc
   · rename_i e hu;split at hc
     · rename_i hhot;simp only [Option.map_eq_some_iff] at hc;obtain ⟨sz,hsz,hc⟩:=hc;simp only [Prod.mk.injEq,AK.v.injEq] at hc;obtain ⟨rfl,rfl⟩:=hc;cases vals with
       | nil=>simp [aB] at hr
       | cons x0 rest=>
         simp only [List.map_cons,aB] at hr;obtain ⟨v,r,e1,h1,h2⟩:=hr;simp only [List.cons.injEq] at e1;obtain ⟨rfl,rfl⟩:=e1;simp only [cf] at h;obtain ⟨u,g1,g2⟩:=u_ (w:=w) hu hsz hhot.1 h2 h1 h;exact lift (s:=Instr.sliceAt t (a.eval y) (lo.map a.eval) (hi'.map a.eval) (mx.map a.eval)) (.stay hi g1 g2) rfl
     · simp only [Option.map_eq_some_iff] at hc;obtain ⟨sz,hsz,hc⟩:=hc;simp only [Prod.mk.injEq,AK.v.injEq] at hc;obtain ⟨rfl,rfl⟩:=hc;cases vals with
       | nil=>simp [aB] at hr
       | cons x0 rest=>
         simp only [List.map_cons,aB] at hr;obtain ⟨v,r,e1,h1,h2⟩:=hr;simp only [List.cons.injEq] at e1;obtain ⟨rfl,rfl⟩:=e1;simp only [cf] at h;obtain ⟨u,g1,g2⟩:=w6 (w:=w) hu hsz h2 h1 h;exact lift (s:=Instr.sliceAt t (a.eval y) (lo.map a.eval) (hi'.map a.eval) (mx.map a.eval)) (.stay hi g1 g2) rfl
   · rename_i hu;split at hc
     · simp at hc
     · rename_i hmx;simp only [Option.some.injEq,Prod.mk.injEq,AK.v.injEq] at hc;obtain ⟨rfl,rfl⟩:=hc;cases vals with
       | nil=>simp [aB] at hr
       | cons x0 rest=>
         simp only [List.map_cons,aB] at hr;obtain ⟨v,r,e1,h1,h2⟩:=hr;simp only [List.cons.injEq] at e1;obtain ⟨rfl,rfl⟩:=e1;simp only [cf] at h;obtain ⟨u,g1,g2⟩:=qe (w:=w) hu (by simpa using hmx) h2 h1 h;exact lift (s:=Instr.sliceAt t (a.eval y) (lo.map a.eval) (hi'.map a.eval) (mx.map a.eval)) (.stay hi g1 g2) rfl
   · simp at hc
 case call c=>
   obtain ⟨callee,cargs,ctypes⟩:=c;simp only at hc;split at hc
   · -- len
     split at hc
     · rename_i y e hcargs ht;simp only [Option.some.injEq,Prod.mk.injEq,AK.v.injEq] at hc;obtain ⟨rfl,rfl⟩:=hc;simp only [Option.bind_eq_some_iff] at ht;obtain ⟨t,ht1,ht2⟩:=ht;obtain ⟨x',rfl,h1⟩:=cM (by simpa using hr);have hca:cargs=#[y]:=by apply Array.ext';simpa using hcargs
       subst hca;have hrun:∀base n c,(Builtin.len_ ctypes type #[.slice base n c]).run P w=.ok (goInt n) w:=by
         intro base n c;simp [Builtin.len_,ht1,run_underlying ht2]
       refine lift (s:=Builtin.len_ ctypes type #[a.eval y]) ?_ ?_
       · simp only [cf] at h;split at h
         · simp at h;subst h;simp only [aC] at h1;obtain ⟨b,cap,_,hv,_⟩:=h1;rw [hv];exact .stay hi (hrun _ _ _) dK
         · rename_i x0 _;simp only [Option.map_eq_some_iff] at h;obtain ⟨l,hl,rfl⟩:=h;obtain ⟨b,len,cap,hv,_,hlen,_⟩:=cK.1 (ew hl h1);rw [hv];refine .stay hi (hrun _ _ _) ?_;rw [hlen];exact dK
       · simp [execOp,resolve,invoke,builtin]
     · rename_i y hcargs ht;simp only [Option.some.injEq,Prod.mk.injEq,AK.v.injEq] at hc;obtain ⟨rfl,rfl⟩:=hc;simp only [Option.bind_eq_some_iff] at ht;obtain ⟨t,ht1,ht2⟩:=ht;obtain ⟨x',rfl,h1⟩:=cM (by simpa using hr);have hca:cargs=#[y]:=by apply Array.ext';simpa using hcargs
       subst hca;obtain ⟨s,rfl,rfl⟩:=GD h;simp only [aC,jZ] at h1;refine lift (s:=Builtin.len_ ctypes type #[a.eval y]) ?_ ?_
       · rw [h1];refine .stay (v:=goInt (ByteArray.mk s.toArray).size) hi (by simp [Builtin.len_,ht1,run_underlying ht2]) ?_;have:(ByteArray.mk s.toArray).size=s.length:=by simp [ByteArray.size]
         rw [this];exact dK
       · simp [execOp,resolve,invoke,builtin]
     · simp at hc
   · split at hc
     · rename_i y z hcargs;simp only [Option.some.injEq,Prod.mk.injEq,AK.v.injEq] at hc;obtain ⟨rfl,rfl⟩:=hc;have hca:cargs=#[y,z]:=by apply Array.ext';simpa using hcargs
       subst hca;obtain ⟨x1,x2,rfl,h1,h2⟩:=dW (by simpa using hr);obtain ⟨k,p,q,rfl,rfl,rfl⟩:=Mv h;simp only [aC,cB] at h1 h2;refine lift (s:=Builtin.min_ ctypes type #[a.eval y,a.eval z]) ?_ ?_
       · rw [h1,h2];exact .stay hi (by simp [Builtin.min_,Builtin.min2]) dK
       · simp [execOp,resolve,invoke,builtin]
     · simp at hc
   · split at hc
     · rename_i y z hcargs;simp only [Option.some.injEq,Prod.mk.injEq,AK.v.injEq] at hc;obtain ⟨rfl,rfl⟩:=hc;have hca:cargs=#[y,z]:=by apply Array.ext';simpa using hcargs
       subst hca;obtain ⟨x1,x2,rfl,h1,h2⟩:=dW (by simpa using hr);obtain ⟨k,p,q,rfl,rfl,rfl⟩:=Mw h;simp only [aC,cB] at h1 h2;refine lift (s:=Builtin.max_ ctypes type #[a.eval y,a.eval z]) ?_ ?_
       · rw [h1,h2];exact .stay hi (by simp [Builtin.max_,Builtin.max2]) dK
       · simp [execOp,resolve,invoke,builtin]
     · simp at hc
   · split at hc
     · split at hc
       · split at hc
         · split at hc
           · simp at hc
           · split at hc<;>simp at hc
         · simp at hc
       · simp at hc
     · simp at hc
   · split at hc
     · split at hc
       · split at hc<;>simp at hc
       · simp at hc
     · simp at hc
   · split at hc
     · split at hc<;>simp at hc
     · simp at hc
   · split at hc
     · split at hc
       · rw [Option.ite_none_right_eq_some] at hc;obtain ⟨_,hc⟩:=hc;split at hc
         · split at hc
           · simp at hc
           · simp at hc
         · simp at hc
       · split at hc
         · simp at hc
         · split at hc
           · simp at hc
           · split at hc<;>simp at hc
     · simp at hc
   · split at hc<;>simp at hc
   · simp at hc
 case store t y v=>
   split at hc
   · split at hc
     · simp at hc
     · split at hc<;>simp at hc
   · simp at hc
 case alloc t=>
   split at hc
   · split at hc
     · split at hc<;>simp at hc
     · simp at hc
     · simp at hc
   · simp at hc
 case box t y=>
   split at hc
   · split at hc
     · split at hc<;>simp at hc
     · simp at hc
     · split at hc<;>simp at hc
   · simp at hc
 case makeSlice t l c=>
   split at hc
   · split at hc
     · split at hc
       · split at hc
         · split at hc<;>simp at hc
         · simp at hc
         · simp at hc
       · simp at hc
     · simp at hc
   · simp at hc
 case makeMap t r=>split at hc<;>simp at hc
 case lookup t y i ok=>
   split at hc
   · split at hc<;>simp at hc
   · simp at hc
 case mapUpdate t m i y=>
   split at hc<;>simp at hc
 case insert t m i y=>
   split at hc<;>simp at hc
 all_goals simp at hc
end
end Go.Ab
