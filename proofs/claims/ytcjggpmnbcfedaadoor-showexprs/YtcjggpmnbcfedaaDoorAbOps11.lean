import Derived.Test.YtcjggpmnbcfedaaDoorAbCopy
import Derived.Test.YtcjggpmnbcfedaaDoorAbDup
/-
  What an operation Fa compiled from, and what its run looked at.
-/
set_option linter.unusedVariables false
set_option linter.unusedSimpArgs false
set_option maxRecDepth 100000
set_option maxHeartbeats 8000000
namespace Go.Ab
section
variable {P:Program} {ns:Names} {A:jL} {dst:Option Nat} {op:Op} {args:List Operand}
theorem qf {k o sz:Nat} {ag:Bool} (h:a9 P ns A dst op=some (.cD k o sz ag,args)) :
   ∃t tx,op=.load t (.tmp tx)∧args=[.tmp tx]∧cu P t=some sz∧er P t=some ag:=by
 cases op<;>simp only [a9] at h
 all_goals (repeat' (split at h))
 all_goals (try (simp at h;done))
 all_goals
   simp only [Option.some.injEq,Prod.mk.injEq,AK.cD.injEq] at h
   obtain ⟨⟨rfl,rfl,rfl,rfl⟩,rfl⟩:=h
   exact ⟨_,_,rfl,rfl,by assumption,by assumption⟩
theorem qg {sz:Nat} {ag:Bool} (h:a9 P ns A dst op=some (.aJ sz ag,args)) :
   ∃t tx,op=.load t (.tmp tx)∧args=[.tmp tx]∧cu P t=some sz∧er P t=some ag:=by
 cases op<;>simp only [a9] at h
 all_goals (repeat' (split at h))
 all_goals (try (simp at h;done))
 all_goals
   simp only [Option.some.injEq,Prod.mk.injEq,AK.aJ.injEq] at h
   obtain ⟨⟨rfl,rfl⟩,rfl⟩:=h
   exact ⟨_,_,rfl,rfl,by assumption,by assumption⟩
theorem oF {k o sz:Nat} (h:a9 P ns A dst op=some (.ee k o sz,args)) :
   ∃t tx v,op=.store t (.tmp tx) v∧args=[.tmp tx,v]∧cu P t=some sz:=by
 cases op<;>simp only [a9] at h
 all_goals (repeat' (split at h))
 all_goals (try (simp at h;done))
 all_goals
   simp only [Option.some.injEq,Prod.mk.injEq,AK.ee.injEq] at h
   obtain ⟨⟨rfl,rfl,rfl⟩,rfl⟩:=h
   exact ⟨_,_,_,rfl,rfl,by assumption⟩
theorem oG {sz:Nat} (h:a9 P ns A dst op=some (.dE sz,args)) :
   ∃t tx v,op=.store t (.tmp tx) v∧args=[.tmp tx,v]∧cu P t=some sz:=by
 cases op<;>simp only [a9] at h
 all_goals (repeat' (split at h))
 all_goals (try (simp at h;done))
 all_goals
   simp only [Option.some.injEq,Prod.mk.injEq,AK.dE.injEq] at h
   obtain ⟨rfl,rfl⟩:=h
   exact ⟨_,_,_,rfl,rfl,by assumption⟩
theorem qh {k:Nat} {z:List PV} (h:a9 P ns A dst op=some (.alloc k z,args)) :
   ∃t,op=.alloc t∧args=[]∧bU P t=some z∧dst=some k:=by
 cases op<;>simp only [a9] at h
 all_goals (repeat' (split at h))
 all_goals (try (simp at h;done))
 all_goals
   simp only [Option.some.injEq,Prod.mk.injEq,AK.alloc.injEq] at h
   obtain ⟨⟨rfl,rfl⟩,rfl⟩:=h
   exact ⟨_,rfl,rfl,by assumption,rfl⟩
theorem oH {z:List PV} (h:a9 P ns A dst op=some (.gz z,args)) :
   ∃t,op=.alloc t∧args=[]∧bU P t=some z:=by
 cases op<;>simp only [a9] at h
 all_goals (repeat' (split at h))
 all_goals (try (simp at h;done))
 all_goals
   simp only [Option.some.injEq,Prod.mk.injEq,AK.gz.injEq] at h
   obtain ⟨rfl,rfl⟩:=h
   exact ⟨_,rfl,rfl,by assumption⟩
theorem wW {k sz:Nat} (h:a9 P ns A dst op=some (.box k sz,args)) :
   ∃t x,op=.box t x∧args=[x]∧cu P t=some sz∧dst=some k:=by
 cases op<;>simp only [a9] at h
 all_goals (repeat' (split at h))
 all_goals (try (simp at h;done))
 all_goals
   simp only [Option.some.injEq,Prod.mk.injEq,AK.box.injEq] at h
   obtain ⟨⟨rfl,rfl⟩,rfl⟩:=h
   exact ⟨_,_,rfl,rfl,by assumption,rfl⟩
theorem sH {sz:Nat} (h:a9 P ns A dst op=some (.kr sz,args)) :
   ∃t x,op=.box t x∧args=[x]∧cu P t=some sz:=by
 cases op<;>simp only [a9] at h
 all_goals (repeat' (split at h))
 all_goals (try (simp at h;done))
 all_goals
   simp only [Option.some.injEq,Prod.mk.injEq,AK.kr.injEq] at h
   obtain ⟨rfl,rfl⟩:=h
   exact ⟨_,_,rfl,rfl,by assumption⟩
theorem qi {sz by_:Nat} {ag:Bool} {z:List PV} (h:a9 P ns A dst op=some (.iw sz by_ ag z,args)) :
   ∃t e l c,op=.makeSlice t l c∧args=[l,c]∧P.underlying t=some (.slice e)∧cu P e=some sz∧dR P e=some by_∧bU P e=some z∧z.length=sz∧0<sz:=by
 cases op<;>simp only [a9] at h
 all_goals (repeat' (split at h))
 all_goals (try (simp at h;done))
 all_goals
   simp only [Option.some.injEq,Prod.mk.injEq,AK.iw.injEq] at h
   obtain ⟨⟨rfl,rfl,rfl,rfl⟩,rfl⟩:=h
   rename_i hc
   exact ⟨_,_,_,_,rfl,rfl,cA (by assumption),by assumption,by assumption,by assumption,hc.1,hc.2⟩
theorem oI {sz by_:Nat} (h:a9 P ns A dst op=some (.append sz by_,args)):∃c,op=.call c:=by
 cases op<;>simp only [a9] at h
 all_goals (repeat' (split at h))
 all_goals (try (simp at h;done))
 all_goals exact ⟨_,rfl⟩
theorem ni {sz by_:Nat} {ag:Bool} (h:a9 P ns A dst op=some (.di sz by_ ag,args)):∃c,op=.call c:=by
 cases op<;>simp only [a9] at h
 all_goals (repeat' (split at h))
 all_goals (try (simp at h;done))
 all_goals exact ⟨_,rfl⟩
theorem nj {sz by_:Nat} (h:a9 P ns A dst op=some (.d9 sz by_,args)):∃c,op=.call c:=by
 cases op<;>simp only [a9] at h
 all_goals (repeat' (split at h))
 all_goals (try (simp at h;done))
 all_goals exact ⟨_,rfl⟩
theorem qj {sz:Nat} (h:a9 P ns A dst op=some (.ij sz,args)):∃c,op=.call c:=by
 cases op<;>simp only [a9] at h
 all_goals (repeat' (split at h))
 all_goals (try (simp at h;done))
 all_goals exact ⟨_,rfl⟩
theorem oJ {sz:Nat} {z:List PV} (h:a9 P ns A dst op=some (.ft sz z,args)):∃c,op=.call c:=by
 cases op<;>simp only [a9] at h
 all_goals (repeat' (split at h))
 all_goals (try (simp at h;done))
 all_goals exact ⟨_,rfl⟩
theorem qk (h:a9 P ns A dst op=some (.jN,args)):∃t,op=.makeMap t none∧args=[]:=by
 cases op<;>simp only [a9] at h
 case makeMap t r=>
   split at h
   · rename_i hr
     cases r with
     | none=>simp only [Option.some.injEq,Prod.mk.injEq,true_and] at h;exact ⟨_,rfl,h.symm⟩
     | some _=>simp at hr
   · simp at h
 all_goals (repeat' (split at h))
 all_goals (try (simp at h;done))
theorem ql {c:CK} {ok:Bool} {z:PV} (h:a9 P ns A dst op=some (.gF c ok z,args)) :
   ∃t x i k e,op=.lookup t x i ok∧args=[x,i]∧P.underlying t=some (.map k e)∧eu P k=some c∧zeroOf P e=some z:=by
 cases op<;>simp only [a9] at h
 all_goals (repeat' (split at h))
 all_goals (try (simp at h;done))
 all_goals
   simp only [Option.some.injEq,Prod.mk.injEq,AK.gF.injEq] at h
   obtain ⟨⟨rfl,rfl,rfl⟩,rfl⟩:=h
   exact ⟨_,_,_,_,_,rfl,rfl,by assumption,by assumption,by assumption⟩
theorem sI {c:CK} (h:a9 P ns A dst op=some (.lX c,args)) :
   ∃t m i x k e,(op=.mapUpdate t m i x∨op=.insert t m i x)∧args=[m,i,x]∧P.underlying t=some (.map k e)∧eu P k=some c:=by
 cases op<;>simp only [a9] at h
 case mapUpdate t m i x=>
   split at h
   · rename_i k e hu
     simp only [Option.map_eq_some_iff,Prod.mk.injEq,AK.lX.injEq] at h
     obtain ⟨c',h1,rfl,rfl⟩:=h
     exact ⟨_,_,_,_,_,_,.inl rfl,rfl,hu,h1⟩
   · simp at h
 case insert t m i x=>
   split at h
   · rename_i k e hu
     simp only [Option.map_eq_some_iff,Prod.mk.injEq,AK.lX.injEq] at h
     obtain ⟨c',h1,rfl,rfl⟩:=h
     exact ⟨_,_,_,_,_,_,.inr rfl,rfl,hu,h1⟩
   · simp at h
 all_goals (repeat' (split at h))
 all_goals (try (simp at h;done))
theorem sJ {k:AK} (hk:(match k with | .aA _ | .eK _ | .az .. | .gG _ | .gf | .b_ | .clone ..=>true | _=>false)=true) (h:a9 P ns A dst op=some (k,args)):∃c,op=.call c:=by
 cases op<;>simp only [a9] at h
 all_goals (repeat' (split at h))
 all_goals (try (simp at h;done))
 all_goals (first | exact ⟨_,rfl⟩ | skip)
 all_goals (simp at h;first | (obtain ⟨rfl,_⟩:=h;simp at hk;done) | (obtain ⟨_,_,rfl,_⟩:=h;simp at hk;done))
end
section
variable {orc:dC} {vals:List AV} {cells:Option (List AV)} {sh:Sh} {aa:au} {out:Out}
theorem eP {key off sz:Nat} {ag:Bool} (h:exec orc (.cD key off sz ag) vals cells sh aa=some out) :
   ∃cs x,vals=[.bt key off]∧cells=some cs∧bD ag sz cs off=some x∧out=⟨x,none,sh,aa⟩:=by
 rcases vals with _ | ⟨v,_ | ⟨u,r⟩⟩
 · simp [exec] at h
 · cases v with
   | bt d o=>
     simp only [exec,Option.ite_none_right_eq_some] at h
     obtain ⟨⟨rfl,rfl⟩,h⟩:=h
     cases cells with
     | none=>simp at h
     | some cs=>
       simp only [Option.map_eq_some_iff] at h
       obtain ⟨x,h1,rfl⟩:=h
       exact ⟨cs,x,rfl,rfl,h1,rfl⟩
   | _=>simp [exec] at h
 · cases v<;>simp [exec] at h
theorem eX {key off sz:Nat} (h:exec orc (.ee key off sz) vals cells sh aa=some out) :
   ∃cs v,vals=[.bt key off,v]∧cells=some cs∧(aL v).length=sz∧(aL v).all aG=true∧off+sz≤cs.length∧out=⟨.un,some (aN cs off (aL v)),sh,aa⟩:=by
 rcases vals with _ | ⟨v,_ | ⟨u,_ | ⟨_,_⟩⟩⟩
 · simp [exec] at h
 · cases v<;>simp [exec] at h
 · cases v with
   | bt d o=>
     simp only [exec,Option.ite_none_right_eq_some] at h
     obtain ⟨⟨rfl,rfl,h1,h2⟩,h⟩:=h
     cases cells with
     | none=>simp at h
     | some cs=>
       simp only [Option.ite_none_right_eq_some,Option.some.injEq] at h
       obtain ⟨h3,rfl⟩:=h
       exact ⟨cs,u,rfl,rfl,h1,h2,h3,rfl⟩
   | _=>simp [exec] at h
 · cases v<;>simp [exec] at h
theorem fM {key:Nat} {z:List PV} (h:exec orc (.alloc key z) vals cells sh aa=some out) :
   vals=[]∧cells=none∧out=⟨.bt key 0,some (z.map a_.zeroCell),sh,aa⟩:=by
 cases vals with
 | nil=>cases cells with
   | none=>simp [exec] at h;exact ⟨rfl,rfl,h.symm⟩
   | some _=>simp [exec] at h
 | cons _ _=>simp [exec] at h
theorem iG {key sz:Nat} (h:exec orc (.box key sz) vals cells sh aa=some out) :
   ∃v,vals=[v]∧cells=none∧(aL v).length=sz∧(aL v).all aG=true∧out=⟨.bt key 0,some (aL v),sh,aa⟩:=by
 rcases vals with _ | ⟨v,_ | ⟨u,r⟩⟩
 · simp [exec] at h
 · cases cells with
   | none=>
     simp only [exec,Option.ite_none_right_eq_some,Option.some.injEq] at h
     obtain ⟨⟨h1,h2⟩,rfl⟩:=h
     exact ⟨v,rfl,rfl,h1,h2,rfl⟩
   | some _=>simp [exec] at h
 · simp [exec] at h
theorem jt {sz:Nat} {ag:Bool} (h:exec orc (.aJ sz ag) vals cells sh aa=some out) :
   ∃p x,vals=[p]∧out=⟨x,none,sh,aa⟩∧((∃cs,p=.cC cs∧bS ag sz cs=some x)∨∃b off cs,p=.aT b off∧sh[b]?=some (some cs)∧cV cs=false∧bD ag sz cs off=some x):=by
 rcases vals with _ | ⟨v,_ | ⟨u,r⟩⟩
 · simp [exec] at h
 · simp only [exec] at h
   split at h
   · rename_i cs
     simp only [Option.map_eq_some_iff] at h
     obtain ⟨x,h1,rfl⟩:=h
     exact ⟨_,x,rfl,rfl,.inl ⟨cs,rfl,h1⟩⟩
   · rename_i b off
     split at h
     · rename_i cs hcs
       split at h
       · cases h
       · rename_i hm
         simp only [Option.map_eq_some_iff] at h
         obtain ⟨x,h1,rfl⟩:=h
         exact ⟨_,x,rfl,rfl,.inr ⟨b,off,cs,rfl,hcs,by simpa using hm,h1⟩⟩
     · simp at h
   · simp at h
 · simp [exec] at h
theorem gp {sz:Nat} (h:exec orc (.dE sz) vals cells sh aa=some out) :
   ∃b off v cs,vals=[.aT b off,v]∧sh[b]?=some (some cs)∧cV cs=false∧(bA v).length=sz∧off+sz≤cs.length∧(bA v).all cZ=true∧(bA v).all (aw (b+1))=true ∧
     out=⟨.un,none,sh.set b (some (aN cs off (bA v))),aa⟩:=by
 rcases vals with _ | ⟨v,_ | ⟨u,_ | ⟨_,_⟩⟩⟩
 · simp [exec] at h
 · cases v<;>simp [exec] at h
 · cases v with
   | aT b off=>
     simp only [exec] at h
     split at h
     · rename_i cs hcs
       simp only [Option.ite_none_right_eq_some,Option.some.injEq] at h
       obtain ⟨⟨h0,h1,h2,h3,h4⟩,rfl⟩:=h
       exact ⟨b,off,u,cs,rfl,hcs,h0,h1,h2,h3,h4,rfl⟩
     · simp at h
   | _=>simp [exec] at h
 · cases v<;>simp [exec] at h
theorem iX {sz:Nat} (h:exec orc (.kr sz) vals cells sh aa=some out) :
   ∃v,vals=[v]∧(bA v).length=sz∧(bA v).all cZ=true∧(bA v).all (aw sh.length)=true∧out=⟨.aT sh.length 0,none,sh++[some (bA v)],aa⟩:=by
 rcases vals with _ | ⟨v,_ | ⟨u,r⟩⟩
 · simp [exec] at h
 · simp only [exec,Option.ite_none_right_eq_some,Option.some.injEq] at h
   obtain ⟨⟨h1,h2,h3⟩,rfl⟩:=h
   exact ⟨v,rfl,h1,h2,h3,rfl⟩
 · simp [exec] at h
theorem gq {z:List PV} (h:exec orc (.gz z) vals cells sh aa=some out):vals=[]∧out=⟨.aT sh.length 0,none,sh++[some (z.map a_.zeroCell)],aa⟩:=by
 cases vals with
 | nil=>simp [exec] at h;exact ⟨rfl,h.symm⟩
 | cons _ _=>simp [exec] at h
theorem gW {sz by_:Nat} {ag:Bool} {z:List PV} (h:exec orc (.iw sz by_ ag z) vals cells sh aa=some out) :
   ∃k k' n,vals=[.pv (.int k n),.pv (.int k' n)]∧0≤n∧n≤9223372036854775807∧n*by_≤140737488355328∧z.length=sz ∧
     out=⟨.bh sh.length sz n.toNat ag,none,sh++[some ((List.replicate n.toNat (z.map .pv)).flatten)],aa⟩:=by
 rcases vals with _ | ⟨v,_ | ⟨u,_ | ⟨_,_⟩⟩⟩
 · simp [exec] at h
 · simp [exec] at h
 · cases v with
   | pv p=>cases p with
     | int k n=>cases u with
       | pv q=>cases q with
         | int k' n'=>
           simp only [exec,Option.ite_none_right_eq_some,Option.some.injEq] at h
           obtain ⟨⟨rfl,h1,h2,h3,h4⟩,rfl⟩:=h
           exact ⟨k,k',n,rfl,h1,h2,h3,h4,rfl⟩
         | _=>simp [exec] at h
       | _=>simp [exec] at h
     | _=>simp [exec] at h
   | _=>simp [exec] at h
 · simp [exec] at h
theorem gX (h:exec orc .jN vals cells sh aa=some out):vals=[]∧out=⟨.bY sh.length,none,sh++[some [.cN []]],aa⟩:=by
 cases vals with
 | nil=>simp [exec] at h;exact ⟨rfl,h.symm⟩
 | cons _ _=>simp [exec] at h
theorem fQ {c:CK} {ok:Bool} {z:PV} (h:exec orc (.gF c ok z) vals cells sh aa=some out) :
   ∃s k kvs r,vals=[.bY s,.pv k]∧sh[s]?=some (some [.cN kvs])∧gB c kvs k=some r∧out=⟨e_ ok z r,none,sh,aa⟩:=by
 rcases vals with _ | ⟨v,_ | ⟨u,_ | ⟨_,_⟩⟩⟩
 · simp [exec] at h
 · simp [exec] at h
 · simp only [exec] at h
   split at h
   · rename_i s k
     split at h
     · rename_i kvs hs
       simp only [Option.map_eq_some_iff] at h
       obtain ⟨r,h1,rfl⟩:=h
       exact ⟨s,k,kvs,r,rfl,hs,h1,rfl⟩
     · cases h
   · cases h
 · simp [exec] at h
theorem iY {c:CK} (h:exec orc (.lX c) vals cells sh aa=some out) :
   ∃s k v kvs p kvs',vals=[.bY s,.pv k,v]∧sh[s]?=some (some [.cN kvs])∧eF [] v=some p∧iy c kvs k p=some kvs'∧out=⟨.un,none,sh.set s (some [.cN kvs']),aa⟩:=by
 rcases vals with _ | ⟨v,_ | ⟨u,_ | ⟨t,_ | ⟨_,_⟩⟩⟩⟩
 · simp [exec] at h
 · simp [exec] at h
 · simp [exec] at h
 · simp only [exec] at h
   split at h
   · rename_i s k
     split at h
     · rename_i kvs p hs hp
       simp only [Option.map_eq_some_iff] at h
       obtain ⟨r,h1,rfl⟩:=h
       exact ⟨s,k,t,kvs,p,r,rfl,hs,hp,h1,rfl⟩
     · cases h
   · cases h
 · simp [exec] at h
theorem ju {sz by_:Nat} (h:exec orc (.clone sz by_) vals cells sh aa=some out) :
   ∃x y ts,vals=[x]∧bB sz by_ (.cg []) x aa=some (y,ts)∧out=⟨y,none,sh,ts⟩:=by
 rcases vals with _ | ⟨v,_ | ⟨_,_⟩⟩
 · simp [exec] at h
 · simp only [exec,Option.map_eq_some_iff] at h
   obtain ⟨⟨y,ts⟩,h1,rfl⟩:=h
   exact ⟨v,y,ts,rfl,h1,rfl⟩
 · simp [exec] at h
theorem gr {sz by_:Nat} (h:exec orc (.append sz by_) vals cells sh aa=some out) :
   ∃s x y ts,vals=[s,x]∧bB sz by_ s x aa=some (y,ts)∧out=⟨y,none,sh,ts⟩:=by
 rcases vals with _ | ⟨v,_ | ⟨u,_ | ⟨_,_⟩⟩⟩
 · simp [exec] at h
 · simp [exec] at h
 · simp only [exec,Option.map_eq_some_iff] at h
   obtain ⟨⟨y,ts⟩,h1,rfl⟩:=h
   exact ⟨v,u,y,ts,rfl,h1,rfl⟩
 · simp [exec] at h
theorem fl {sz by_:Nat} (h:exec orc (.d9 sz by_) vals cells sh aa=some out) :
   ∃s x e xs p,vals=[s,x,e]∧ck x=some xs∧pP sz by_ xs s e aa=some p∧out=⟨.pv p,none,sh,aa⟩:=by
 rcases vals with _ | ⟨v,_ | ⟨u,_ | ⟨e,_ | ⟨_,_⟩⟩⟩⟩
 · simp [exec] at h
 · simp [exec] at h
 · simp [exec] at h
 · simp only [exec] at h
   cases hx:ck u with
   | none=>rw [hx] at h;simp at h
   | some xs=>
     rw [hx] at h
     simp only [Option.map_eq_some_iff] at h
     obtain ⟨p,h1,rfl⟩:=h
     exact ⟨v,u,e,xs,p,rfl,hx,h1,rfl⟩
 · simp [exec] at h
theorem gY {sz:Nat} (h:exec orc (.ij sz) vals cells sh aa=some out) :
   ∃x y xs k sh',vals=[x,y]∧ck y=some xs∧l3 sz sh xs x=some (k,sh')∧out=⟨.pv (.int .i64 (k:Int)),none,sh',aa⟩:=by
 rcases vals with _ | ⟨v,_ | ⟨u,_ | ⟨_,_⟩⟩⟩
 · simp [exec] at h
 · simp [exec] at h
 · simp only [exec] at h
   cases hx:ck u with
   | none=>rw [hx] at h;simp at h
   | some xs=>
     rw [hx] at h
     simp only [Option.map_eq_some_iff] at h
     obtain ⟨⟨k,sh'⟩,h1,rfl⟩:=h
     exact ⟨v,u,xs,k,sh',rfl,hx,h1,rfl⟩
 · simp [exec] at h
theorem lf {sz:Nat} {z:List PV} (h:exec orc (.ft sz z) vals cells sh aa=some out) :
   ∃x sh',vals=[x]∧l0 sz z sh (pO sz x)=some sh'∧out=⟨.jg [],none,sh',aa⟩:=by
 rcases vals with _ | ⟨v,_ | ⟨u,_⟩⟩
 · simp [exec] at h
 · simp only [exec,Option.map_eq_some_iff] at h
   obtain ⟨sh',h1,rfl⟩:=h
   exact ⟨v,sh',rfl,h1,rfl⟩
 · simp [exec] at h
theorem gZ {sz by_:Nat} {ag:Bool} (h:exec orc (.di sz by_ ag) vals cells sh aa=some out) :
   ∃s x xs y sh',vals=[s,x]∧ck x=some xs∧bj sz xs=true∧oo sz by_ ag s xs sh aa=some (y,sh')∧out=⟨y,none,sh',aa⟩:=by
 rcases vals with _ | ⟨v,_ | ⟨u,_ | ⟨_,_⟩⟩⟩
 · simp [exec] at h
 · simp [exec] at h
 · simp only [exec] at h
   split at h
   · rename_i xs hxs
     simp only [Option.ite_none_right_eq_some,Option.map_eq_some_iff] at h
     obtain ⟨h0,⟨y,sh'⟩,h1,rfl⟩:=h
     exact ⟨v,u,xs,y,sh',rfl,hxs,h0,h1,rfl⟩
   · simp at h
 · simp [exec] at h
end
end Go.Ab
