import Derived.Test.YtfhhognolpjikaaAbOps5
/-
  The operations on values, all together.
-/
set_option linter.unusedVariables false
set_option linter.unusedSimpArgs false
set_option maxRecDepth 100000
set_option maxHeartbeats 8000000
namespace Go.Ab
section
variable {P:Program} {ns:Names} {G:Gh} {w:World}
def oB (ns:Names) (P:Program) (G:Gh) (w:World) (mem:List (Nat×List AV)) (sh:Sh) (aa:au) (s:Sem Value) (x:AV):Prop:=
 ∃v w' G',s.run P w=.ok v w'∧aq (num ns) G' x v∧Inv (num ns) G' w' mem sh aa∧G.le G'∧bJ G w G' w'
theorem oB.stay {mem:List (Nat×List AV)} {sh:Sh} {aa:au} (hi:Inv (num ns) G w mem sh aa) {s:Sem Value} {x:AV} {v:Value} (h:s.run P w=.ok v w) (hr:aq (num ns) G x v) :
   oB ns P G w mem sh aa s x:=⟨v,w,G,h,hr,hi,G.le_refl,bJ.refl G w⟩
theorem bY {ρ:bI} {vals:List AV} {v:Value} (h:al ρ G vals [v]):∃x,vals=[x]∧aq ρ G x v:=by
 cases vals with
 | nil=>simp [al] at h
 | cons x r=>
   simp only [al] at h
   obtain ⟨u,r',e,h1,h2⟩:=h
   cases e
   cases r with
   | nil=>exact ⟨x,rfl,h1⟩
   | cons _ _=>simp [al] at h2
theorem dc {ρ:bI} {vals:List AV} {u v:Value} (h:al ρ G vals [u,v]):∃x y,vals=[x,y]∧aq ρ G x u∧aq ρ G y v:=by
 cases vals with
 | nil=>simp [al] at h
 | cons x r=>
   simp only [al] at h
   obtain ⟨u',r',e,h1,h2⟩:=h
   cases e
   obtain ⟨y,rfl,h3⟩:=bY h2
   exact ⟨x,y,rfl,h1,h3⟩
theorem i5 {ρ:bI} {vals:List AV} {u v t:Value} (h:al ρ G vals [u,v,t]):∃x y z,vals=[x,y,z]∧aq ρ G x u∧aq ρ G y v∧aq ρ G z t:=by
 cases vals with
 | nil=>simp [al] at h
 | cons x r=>
   simp only [al] at h
   obtain ⟨u',r',e,h1,h2⟩:=h
   cases e
   obtain ⟨y,z,rfl,h3,h4⟩:=dc h2
   exact ⟨x,y,z,rfl,h1,h3,h4⟩
theorem AR {x1 x2 x3 x:AV} (h:bq .pick [x1,x2,x3]=some x):∃c,x1=.pv (.bool c)∧x=if c then x2 else x3:=by
 cases x1 with
 | pv p=>cases p with
   | bool c=>exact ⟨c,rfl,by simpa [bq] using h.symm⟩
   | _=>simp [bq] at h
 | _=>simp [bq] at h
theorem Dj {neg:Bool} {x1 x2 x:AV} (h:bq (.beq neg) [x1,x2]=some x):∃p q,x1=.pv (.bool p)∧x2=.pv (.bool q)∧x=.pv (.bool (if neg then !(p == q) else (p == q))):=by
 cases x1 with
 | pv p=>cases p with
   | bool c=>cases x2 with
     | pv q=>cases q with
       | bool d=>exact ⟨c,d,rfl,rfl,by simpa [bq] using h.symm⟩
       | _=>simp [bq] at h
     | _=>simp [bq] at h
   | _=>simp [bq] at h
 | _=>simp [bq] at h
theorem AS {k:IntKind} {x1 x:AV} (h:bq (.conv k) [x1]=some x):∃k' n,x1=.pv (.int k' n)∧x=.pv (.int k (k.wrap n)):=by
 cases x1 with
 | pv p=>cases p with
   | int k' n=>exact ⟨k',n,rfl,by simpa [bq] using h.symm⟩
   | _=>simp [bq] at h
 | _=>simp [bq] at h
theorem xF {sz:Nat} {x1 x2 x:AV} (h:bq (.aH sz) [x1,x2]=some x):∃k i,x2=.pv (.int k i):=by
 cases x2 with
 | pv p=>cases p with
   | int k n=>exact ⟨k,n,rfl⟩
   | _=>simp [bq] at h
 | _=>simp [bq] at h
theorem xG {x1 x2 x:AV} (h:bq .index [x1,x2]=some x):∃s k i,x1=.pv (.str s)∧x2=.pv (.int k i):=by
 cases x1 with
 | pv q=>cases q with
   | str s=>cases x2 with
     | pv p=>cases p with
       | int k n=>exact ⟨s,k,n,rfl,rfl⟩
       | _=>simp [bq] at h
     | _=>simp [bq] at h
   | _=>simp [bq] at h
 | _=>simp [bq] at h
theorem Dk {i:Nat} {x1 x:AV} (h:bq (.ext i) [x1]=some x):∃vs,x1=.jH vs∧vs[i]?=some x:=by
 cases x1 with
 | jH vs=>exact ⟨vs,rfl,by simpa [bq] using h⟩
 | _=>simp [bq] at h
theorem xH {sz:Nat} {ag:Bool} {x1 x:AV} (h:bq (.aS sz ag) [x1]=some x):∃cs,x1=.cQ cs∧ca ag sz cs=some x:=by
 cases x1 with
 | cQ vs=>exact ⟨vs,rfl,by simpa [bq] using h⟩
 | _=>simp [bq] at h
theorem AT {x1 x:AV} (h:bq .il [x1]=some x):∃s,x1=.pv (.str s)∧x=.pv (.int .i64 (s.length:Int)):=by
 cases x1 with
 | pv q=>cases q with
   | str s=>exact ⟨s,rfl,by simpa [bq] using h.symm⟩
   | _=>simp [bq] at h
 | _=>simp [bq] at h
theorem Dl {cs:List CK} {neg:Bool} {x1 x2 x:AV} (h:bq (.ES cs neg) [x1,x2]=some x):∃ps qs b,eM [] x1=some (.agg ps)∧eM [] x2=some (.agg qs)∧cJ cs ps qs=some b∧x=.pv (.bool (if neg then !b else b)):=by
 simp only [bq] at h
 split at h
 · rename_i ps qs h1 h2
   simp only [Option.map_eq_some_iff] at h
   obtain ⟨b,h3,rfl⟩:=h
   exact ⟨ps,qs,b,h1,h2,h3,rfl⟩
 · cases h
theorem Fy {x1 x2 x:AV} (h:bq .mn [x1,x2]=some x):∃k p q,x1=.pv (.int k p)∧x2=.pv (.int k q)∧x=.pv (.int k (if q<p then q else p)):=by
 cases x1 with
 | pv q=>cases q with
   | int k s=>cases x2 with
     | pv p=>cases p with
       | int k' n=>
         simp only [bq,Option.ite_none_right_eq_some,Option.some.injEq] at h
         obtain ⟨rfl,rfl⟩:=h
         exact ⟨k,s,n,rfl,rfl,rfl⟩
       | _=>simp [bq] at h
     | _=>simp [bq] at h
   | _=>simp [bq] at h
 | _=>simp [bq] at h
theorem Fz {x1 x2 x:AV} (h:bq .mx [x1,x2]=some x):∃k p q,x1=.pv (.int k p)∧x2=.pv (.int k q)∧x=.pv (.int k (if q > p then q else p)):=by
 cases x1 with
 | pv q=>cases q with
   | int k s=>cases x2 with
     | pv p=>cases p with
       | int k' n=>
         simp only [bq,Option.ite_none_right_eq_some,Option.some.injEq] at h
         obtain ⟨rfl,rfl⟩:=h
         exact ⟨k,s,n,rfl,rfl,rfl⟩
       | _=>simp [bq] at h
     | _=>simp [bq] at h
   | _=>simp [bq] at h
 | _=>simp [bq] at h
theorem qH {A:ki} {o:Oper} {vo:AH} {args:List Operand} (hc:bp P ns A o.dst o.op=some (.v vo,args)) {a:Act} {vals:List AV} {x:AV}
   {mem:List (Nat×List AV)} {sh:Sh} {aa:au} (hr:al (num ns) G vals (args.map a.eval)) (hi:Inv (num ns) G w mem sh aa) (h:bq vo vals=some x) :
   ∃v w' G',(execOp a.eval o).run P w=.ok (.value v) w'∧aq (num ns) G' x v∧Inv (num ns) G' w' mem sh aa∧G.le G'∧bJ G w G' w':=by
 obtain ⟨dst,op,type,pos,after,guard⟩:=o
 have lift:∀{s:Sem Value},oB ns P G w mem sh aa s x→(execOp a.eval ⟨dst,op,type,pos,after,guard⟩=(do pure (.value (←s)):Sem Next)) →
     ∃v w' G',(execOp a.eval ⟨dst,op,type,pos,after,guard⟩).run P w=.ok (.value v) w'∧aq (num ns) G' x v∧Inv (num ns) G' w' mem sh aa∧G.le G'∧bJ G w G' w':=by
   rintro s ⟨v,w',G',h1,h2,h3,h4,h5⟩ he
   exact ⟨v,w',G',by rw [he];simp only [Sem.run_bind,h1,Result.andThen_ok,Sem.run_pure],h2,h3,h4,h5⟩
 cases op<;>simp only [bp] at hc
 case move y=>
   simp at hc;obtain ⟨rfl,rfl⟩:=hc
   obtain ⟨x',rfl,h1⟩:=bY (by simpa using hr)
   simp [bq] at h;subst h
   exact ⟨_,w,G,by simp [execOp],h1,hi,G.le_refl,bJ.refl G w⟩
 case assign y=>
   simp at hc;obtain ⟨rfl,rfl⟩:=hc
   obtain ⟨x',rfl,h1⟩:=bY (by simpa using hr)
   simp [bq] at h;subst h
   exact ⟨_,w,G,by simp [execOp],h1,hi,G.le_refl,bJ.refl G w⟩
 case pick c y z=>
   simp at hc;obtain ⟨rfl,rfl⟩:=hc
   obtain ⟨x1,x2,x3,rfl,h1,h2,h3⟩:=i5 (by simpa using hr)
   obtain ⟨b,rfl,rfl⟩:=AR h
   simp only [aq,ed] at h1
   refine ⟨if b then a.eval y else a.eval z,w,G,by simp [execOp,h1,asBool],?_,hi,G.le_refl,bJ.refl G w⟩
   cases b<;>simp [h2,h3]
 case binOp op t y z ty=>
   simp only [Option.map_eq_some_iff] at hc
   obtain ⟨vo',h0,he⟩:=hc
   simp at he;obtain ⟨rfl,rfl⟩:=he
   obtain ⟨x1,x2,rfl,h1,h2⟩:=dc (by simpa using hr)
   unfold w8 at h0
   refine lift (s:=do eqGuard op t y z (a.eval y) (a.eval z);binOp op t (a.eval y) (a.eval z)) ?_ rfl
   split at h0
   · simp at h0;subst h0
     simp only [bq] at h
     obtain ⟨v,g1,g2⟩:=lG (P:=P) (w:=w) (t:=t) h1 h2 h y z
     exact .stay hi g1 g2
   · simp at h0;subst h0
     simp only [bq] at h
     obtain ⟨v,g1,g2⟩:=lG (P:=P) (w:=w) (t:=t) h1 h2 h y z
     exact .stay hi g1 g2
   · rename_i hu
     have key:∀neg,vo'=.beq neg→((op=.eql∧neg=false)∨(op=.neq∧neg=true))→oB ns P G w mem sh aa (do eqGuard op t y z (a.eval y) (a.eval z);binOp op t (a.eval y) (a.eval z)) x:=by
       intro neg hvo hop
       subst hvo
       obtain ⟨p,q,rfl,rfl,rfl⟩:=Dj h
       simp only [aq,ed] at h1 h2
       rw [h1,h2]
       exact .stay hi (qw hu hop p q y z) h_
     split at h0
     · simp at h0;exact key false h0.symm (.inl ⟨‹_›,rfl⟩)
     · split at h0
       · simp at h0;exact key true h0.symm (.inr ⟨‹_›,rfl⟩)
       · simp at h0
   · rename_i fs hu
     simp only [Option.ite_none_right_eq_some] at h0
     obtain ⟨⟨hs1,hs2⟩,h0⟩:=h0
     split at h0
     · rename_i cs hcs
       have key:∀neg,vo'=.ES cs neg→((op=.eql∧neg=false)∨(op=.neq∧neg=true))→oB ns P G w mem sh aa (do eqGuard op t y z (a.eval y) (a.eval z);binOp op t (a.eval y) (a.eval z)) x:=by
         intro neg hvo hop
         subst hvo
         obtain ⟨ps,qs,b,f1,f2,f3,rfl⟩:=Dl h
         exact .stay hi (xE hu hs1 hs2 hcs hop (jm f1 h1) (jm f2 h2) f3 y z) h_
       split at h0
       · simp at h0;exact key false h0.symm (.inl ⟨‹_›,rfl⟩)
       · split at h0
         · simp at h0;exact key true h0.symm (.inr ⟨‹_›,rfl⟩)
         · simp at h0
     · simp at h0
   · simp at h0
 case unOp op t y=>
   simp at hc;obtain ⟨rfl,rfl⟩:=hc
   obtain ⟨x',rfl,h1⟩:=bY (by simpa using hr)
   refine lift (s:=Op.unary op (a.eval y)) ?_ rfl
   simp only [bq] at h
   unfold GG at h
   split at h
   · split at h<;>simp at h
     subst h
     simp only [aq,ed] at h1
     rw [h1]
     exact .stay hi (by simp [Op.unary]) h_
   · split at h<;>simp at h
     subst h
     simp only [aq,en] at h1
     rw [h1]
     exact .stay hi (by simp [Op.unary,Op.intArith]) cS
   · simp at h
 case convert s d y=>
   split at hc
   · rename_i k1 k2 hs hd
     simp at hc;obtain ⟨rfl,rfl⟩:=hc
     obtain ⟨x',rfl,h1⟩:=bY (by simpa using hr)
     obtain ⟨k',n,rfl,rfl⟩:=AS h
     simp only [aq,en] at h1
     refine lift (s:=convert s d (a.eval y)) ?_ rfl
     rw [h1]
     exact .stay hi (by simp [convert,run_underlying hs,run_underlying hd,Conv.intToInt]) cS
   · simp at hc
 case extract y i=>
   simp at hc;obtain ⟨rfl,rfl⟩:=hc
   obtain ⟨x',rfl,h1⟩:=bY (by simpa using hr)
   obtain ⟨vs,rfl,h2⟩:=Dk h
   simp only [aq] at h1
   obtain ⟨us,h3,h4⟩:=h1
   obtain ⟨u,h5,h6⟩:=h4.get h2
   refine lift (s:=Instr.extract (a.eval y) i) ?_ rfl
   rw [h3]
   exact .stay hi (by simp [Instr.extract,h5]) h6
 case field t y f=>
   split at hc
   · rename_i fd hf
     split at hc
     · rename_i sz ag hsz hag
       simp at hc;obtain ⟨rfl,rfl⟩:=hc
       obtain ⟨x',rfl,h1⟩:=bY (by simpa using hr)
       obtain ⟨u,g1,g2⟩:=qy (w:=w) hf hsz hag h h1
       exact lift (s:=Instr.field t (a.eval y) f) (.stay hi g1 g2) rfl
     · simp at hc
   · simp at hc
 case fieldAddr t y f=>
   split at hc
   · rename_i fd hf
     split at hc
     · rename_i sz hsz
       split at hc
       · simp at hc
       · rename_i hs0
         simp at hc;obtain ⟨rfl,rfl⟩:=hc
         obtain ⟨x',rfl,h1⟩:=bY (by simpa using hr)
         obtain ⟨u,g1,g2⟩:=qz (w:=w) hf hsz hs0 h h1
         exact lift (s:=Instr.fieldAt t (a.eval y) f) (.stay hi g1 g2) rfl
     · simp at hc
   · simp at hc
 case indexAddr t y i=>
   split at hc
   · rename_i e he
     simp only [Option.map_eq_some_iff] at hc
     obtain ⟨sz,hsz,hc⟩:=hc
     simp at hc;obtain ⟨rfl,rfl⟩:=hc
     obtain ⟨x1,x2,rfl,h1,h2⟩:=dc (by simpa using hr)
     obtain ⟨k,i',rfl⟩:=xF h
     obtain ⟨u,g1,g2⟩:=qA (w:=w) he hsz h h1
     simp only [aq,en] at h2
     refine lift (s:=Instr.indexAt t (a.eval y) (a.eval i)) ?_ rfl
     rw [h2]
     exact .stay hi g1 g2
   · simp at hc
 case index t y i=>
   split at hc
   · rename_i hu
     simp at hc;obtain ⟨rfl,rfl⟩:=hc
     obtain ⟨x1,x2,rfl,h1,h2⟩:=dc (by simpa using hr)
     obtain ⟨s,k,i',rfl,rfl⟩:=xG h
     obtain ⟨u,g1,g2⟩:=qB (ns:=ns) (G:=G) (w:=w) hu h
     simp only [aq,en,gL] at h1 h2
     refine lift (s:=Instr.index t (a.eval y) (a.eval i)) ?_ rfl
     rw [h1,h2]
     exact .stay hi g1 g2
   · simp at hc
 case build t ps=>
   split at hc
   · rename_i fs hu
     split at hc
     · rename_i z pl hz hp
       simp at hc;obtain ⟨rfl,rfl⟩:=hc
       have hmap:(ps.map fun (i,x)=>(i,a.eval x))=((ps.toList.map (·.1)).zip ((ps.toList.map (·.2)).map a.eval)).toArray:=by
         apply Array.ext'
         rw [Array.toList_map]
         exact lQ a.eval ps.toList
       refine lift (s:=Instr.build t (ps.map fun (i,x)=>(i,a.eval x))) ?_ rfl
       rw [hmap]
       obtain ⟨u,g1,g2⟩:=qE (w:=w) hz hp hr (by simp) h
       exact .stay hi g1 g2
     · simp at hc
   · simp at hc
 case buildSlice t n ps=>
   split at hc
   · rename_i e he
     split at hc
     · rename_i sz z hsz hz
       simp only [Option.ite_none_right_eq_some,Option.some.injEq,Prod.mk.injEq] at hc
       obtain ⟨⟨hn,hord,h0,hb⟩,hvo,rfl⟩:=hc
       simp at hvo;subst hvo
       have hmap:(ps.map fun (i,x)=>(i,a.eval x))=((List.range' 0 ((ps.toList.map (·.2)).map a.eval).length).zip ((ps.toList.map (·.2)).map a.eval)).toArray:=by
         apply Array.ext'
         rw [Array.toList_map]
         exact lP a.eval ps.toList 0 hord
       refine lift (s:=Instr.buildSlice t n (ps.map fun (i,x)=>(i,a.eval x))) ?_ rfl
       rw [hmap]
       obtain ⟨u,c,g1,g2⟩:=pg he hsz hz (by simp [hn]) h0 hb hr hi h
       exact ⟨u,_,_,g1,g2,hi.i4 c e,Gh.jn hi c,bJ.i4 hi c e⟩
     · simp at hc
   · simp at hc
 case load t y=>
   split at hc
   · rename_i sz ag hsz hag
     split at hc
     · rename_i tx
       split at hc
       · simp at hc
       · split at hc
         · simp at hc
         · simp at hc;obtain ⟨rfl,rfl⟩:=hc
           obtain ⟨x',rfl,h1⟩:=bY (by simpa using hr)
           obtain ⟨cs,rfl,h2⟩:=xH h
           simp only [aq] at h1
           obtain ⟨b,o,vs,e,ha,hrl⟩:=h1
           refine lift (s:=Instr.loadAt t (a.eval (.tmp tx))) ?_ rfl
           rw [e]
           obtain ⟨u,g1,g2⟩:=jJ (ns:=ns) (w:=w) hsz hag h2 hrl (fun j v hj=>hi.known _ _ _ (ha j v hj))
           exact .stay hi (by simp [Instr.loadAt,Instr.sureAddr,g1]) g2
     · simp at hc
   · simp at hc
 case nilCheck y=>
   simp at hc;obtain ⟨rfl,rfl⟩:=hc
   obtain ⟨x',rfl,h1⟩:=bY (by simpa using hr)
   simp only [bq] at h
   split at h
   · simp at h;subst h
     have h1':=h1
     simp only [aq] at h1
     obtain ⟨b,e,hv⟩:=h1
     exact ⟨a.eval y,w,G,by simp [execOp,hv],h1',hi,G.le_refl,bJ.refl G w⟩
   · simp at h;subst h
     have h1':=h1
     simp only [aq] at h1
     obtain ⟨b,e,hv⟩:=h1
     exact ⟨a.eval y,w,G,by simp [execOp,hv],h1',hi,G.le_refl,bJ.refl G w⟩
   · simp at h;subst h
     have h1':=h1
     simp only [aq] at h1
     obtain ⟨b,o,vs,hv,_⟩:=h1
     exact ⟨a.eval y,w,G,by simp [execOp,hv],h1',hi,G.le_refl,bJ.refl G w⟩
   · simp at h;subst h
     have h1':=h1
     simp only [aq] at h1
     obtain ⟨f,vs,_,hv,_⟩:=h1
     exact ⟨a.eval y,w,G,by simp [execOp,hv],h1',hi,G.le_refl,bJ.refl G w⟩
   · simp at h
 case makeFunc fn first cap=>
   split at hc
   · rename_i f
     split at hc
     · rename_i hf
       simp only [Option.map_eq_some_iff] at hc
       obtain ⟨g,hg,hc⟩:=hc
       simp at hc;obtain ⟨rfl,rfl⟩:=hc
       simp [bq] at h;subst h
       refine lift (s:=Instr.makeFunc (.func f) (first.map a.eval) (cap.map a.eval)) ?_ rfl
       have hfirst:first=#[]:=by simpa using hf
       subst hfirst
       refine .stay (v:=.func (.func f) #[] (cap.map a.eval)) hi (by simp [Instr.makeFunc]) ?_
       simp only [aq]
       exact ⟨f,cap.toList.map a.eval,hg,by congr 1;apply Array.ext';simp,hr⟩
     · simp at hc
   · simp at hc
 case slice t y lo hi' mx=>
   split at hc
   · rename_i e hu
     split at hc
     · rename_i hhot
       simp only [Option.map_eq_some_iff] at hc
       obtain ⟨sz,hsz,hc⟩:=hc
       simp only [Prod.mk.injEq,AK.v.injEq] at hc
       obtain ⟨rfl,rfl⟩:=hc
       cases vals with
       | nil=>simp [al] at hr
       | cons x0 rest=>
         simp only [List.map_cons,al] at hr
         obtain ⟨v,r,e1,h1,h2⟩:=hr
         simp only [List.cons.injEq] at e1
         obtain ⟨rfl,rfl⟩:=e1
         simp only [bq] at h
         obtain ⟨u,g1,g2⟩:=ph (w:=w) hu hsz hhot.1 h2 h1 h
         exact lift (s:=Instr.sliceAt t (a.eval y) (lo.map a.eval) (hi'.map a.eval) (mx.map a.eval)) (.stay hi g1 g2) rfl
     · simp only [Option.map_eq_some_iff] at hc
       obtain ⟨sz,hsz,hc⟩:=hc
       simp only [Prod.mk.injEq,AK.v.injEq] at hc
       obtain ⟨rfl,rfl⟩:=hc
       cases vals with
       | nil=>simp [al] at hr
       | cons x0 rest=>
         simp only [List.map_cons,al] at hr
         obtain ⟨v,r,e1,h1,h2⟩:=hr
         simp only [List.cons.injEq] at e1
         obtain ⟨rfl,rfl⟩:=e1
         simp only [bq] at h
         obtain ⟨u,g1,g2⟩:=qG (w:=w) hu hsz h2 h1 h
         exact lift (s:=Instr.sliceAt t (a.eval y) (lo.map a.eval) (hi'.map a.eval) (mx.map a.eval)) (.stay hi g1 g2) rfl
   · rename_i hu
     split at hc
     · simp at hc
     · rename_i hmx
       simp only [Option.some.injEq,Prod.mk.injEq,AK.v.injEq] at hc
       obtain ⟨rfl,rfl⟩:=hc
       cases vals with
       | nil=>simp [al] at hr
       | cons x0 rest=>
         simp only [List.map_cons,al] at hr
         obtain ⟨v,r,e1,h1,h2⟩:=hr
         simp only [List.cons.injEq] at e1
         obtain ⟨rfl,rfl⟩:=e1
         simp only [bq] at h
         obtain ⟨u,g1,g2⟩:=mq (w:=w) hu (by simpa using hmx) h2 h1 h
         exact lift (s:=Instr.sliceAt t (a.eval y) (lo.map a.eval) (hi'.map a.eval) (mx.map a.eval)) (.stay hi g1 g2) rfl
   · simp at hc
 case call c=>
   obtain ⟨callee,cargs,ctypes⟩:=c
   simp only at hc
   split at hc
   · -- len
     split at hc
     · rename_i y e hcargs ht
       simp only [Option.some.injEq,Prod.mk.injEq,AK.v.injEq] at hc
       obtain ⟨rfl,rfl⟩:=hc
       simp only [Option.bind_eq_some_iff] at ht
       obtain ⟨t,ht1,ht2⟩:=ht
       obtain ⟨x',rfl,h1⟩:=bY (by simpa using hr)
       have hca:cargs=#[y]:=by apply Array.ext';simpa using hcargs
       subst hca
       have hrun:∀base n c,(Builtin.len_ ctypes type #[.slice base n c]).run P w=.ok (goInt n) w:=by
         intro base n c
         simp [Builtin.len_,ht1,run_underlying ht2]
       refine lift (s:=Builtin.len_ ctypes type #[a.eval y]) ?_ ?_
       · simp only [bq] at h
         split at h
         · simp at h;subst h
           simp only [aq] at h1
           obtain ⟨b,cap,_,hv,_⟩:=h1
           rw [hv]
           exact .stay hi (hrun _ _ _) cS
         · rename_i x0 _
           simp only [Option.map_eq_some_iff] at h
           obtain ⟨l,hl,rfl⟩:=h
           obtain ⟨b,len,cap,hv,_,hlen,_⟩:=bO.1 (dD hl h1)
           rw [hv]
           refine .stay hi (hrun _ _ _) ?_
           rw [hlen]
           exact cS
       · simp [execOp,resolve,invoke,builtin]
     · rename_i y hcargs ht
       simp only [Option.some.injEq,Prod.mk.injEq,AK.v.injEq] at hc
       obtain ⟨rfl,rfl⟩:=hc
       simp only [Option.bind_eq_some_iff] at ht
       obtain ⟨t,ht1,ht2⟩:=ht
       obtain ⟨x',rfl,h1⟩:=bY (by simpa using hr)
       have hca:cargs=#[y]:=by apply Array.ext';simpa using hcargs
       subst hca
       obtain ⟨s,rfl,rfl⟩:=AT h
       simp only [aq,gL] at h1
       refine lift (s:=Builtin.len_ ctypes type #[a.eval y]) ?_ ?_
       · rw [h1]
         refine .stay (v:=goInt (ByteArray.mk s.toArray).size) hi (by simp [Builtin.len_,ht1,run_underlying ht2]) ?_
         have:(ByteArray.mk s.toArray).size=s.length:=by simp [ByteArray.size]
         rw [this]
         exact cS
       · simp [execOp,resolve,invoke,builtin]
     · simp at hc
   · split at hc
     · rename_i y z hcargs
       simp only [Option.some.injEq,Prod.mk.injEq,AK.v.injEq] at hc
       obtain ⟨rfl,rfl⟩:=hc
       have hca:cargs=#[y,z]:=by apply Array.ext';simpa using hcargs
       subst hca
       obtain ⟨x1,x2,rfl,h1,h2⟩:=dc (by simpa using hr)
       obtain ⟨k,p,q,rfl,rfl,rfl⟩:=Fy h
       simp only [aq,en] at h1 h2
       refine lift (s:=Builtin.min_ ctypes type #[a.eval y,a.eval z]) ?_ ?_
       · rw [h1,h2]
         exact .stay hi (by simp [Builtin.min_,Builtin.min2]) cS
       · simp [execOp,resolve,invoke,builtin]
     · simp at hc
   · split at hc
     · rename_i y z hcargs
       simp only [Option.some.injEq,Prod.mk.injEq,AK.v.injEq] at hc
       obtain ⟨rfl,rfl⟩:=hc
       have hca:cargs=#[y,z]:=by apply Array.ext';simpa using hcargs
       subst hca
       obtain ⟨x1,x2,rfl,h1,h2⟩:=dc (by simpa using hr)
       obtain ⟨k,p,q,rfl,rfl,rfl⟩:=Fz h
       simp only [aq,en] at h1 h2
       refine lift (s:=Builtin.max_ ctypes type #[a.eval y,a.eval z]) ?_ ?_
       · rw [h1,h2]
         exact .stay hi (by simp [Builtin.max_,Builtin.max2]) cS
       · simp [execOp,resolve,invoke,builtin]
     · simp at hc
   · split at hc
     · split at hc
       · split at hc
         · split at hc
           · simp at hc
           · split at hc<;>simp at hc
         · simp at hc
       · simp at hc
     · simp at hc
   · split at hc
     · split at hc
       · split at hc<;>simp at hc
       · simp at hc
     · simp at hc
   · split at hc
     · split at hc<;>simp at hc
     · simp at hc
   · split at hc
     · split at hc
       · simp at hc
       · split at hc
         · simp at hc
         · split at hc
           · simp at hc
           · split at hc<;>simp at hc
     · simp at hc
   · simp at hc
   · simp at hc
 case store t y v=>
   split at hc
   · split at hc<;>simp at hc
   · simp at hc
 case alloc t=>
   split at hc
   · split at hc
     · split at hc<;>simp at hc
     · simp at hc
     · simp at hc
   · simp at hc
 case box t y=>
   split at hc
   · split at hc
     · split at hc<;>simp at hc
     · simp at hc
     · simp at hc
   · simp at hc
 case makeSlice t l c=>
   split at hc
   · split at hc
     · split at hc<;>simp at hc
     · simp at hc
   · simp at hc
 case makeMap t r=>split at hc<;>simp at hc
 case lookup t y i ok=>
   split at hc
   · split at hc<;>simp at hc
   · simp at hc
 case mapUpdate t m i y=>
   split at hc<;>simp at hc
 case insert t m i y=>
   split at hc<;>simp at hc
 all_goals simp at hc
end
end Go.Ab
