import Derived.Test.YtfhhognolpjikaaAbCopy
import Derived.Test.YtfhhognolpjikaaAbDup
/-
  What an operation GH compiled from, and what its run looked at.
-/
set_option linter.unusedVariables false
set_option linter.unusedSimpArgs false
set_option maxRecDepth 100000
set_option maxHeartbeats 8000000
namespace Go.Ab
section
variable {P:Program} {ns:Names} {A:ki} {dst:Option Nat} {op:Op} {args:List Operand}
theorem qO {k o sz:Nat} {ag:Bool} (h:bp P ns A dst op=some (.de k o sz ag,args)) :
   ∃t tx,op=.load t (.tmp tx)∧args=[.tmp tx]∧cD P t=some sz∧eV P t=some ag:=by
 cases op<;>simp only [bp] at h
 all_goals (repeat' (split at h))
 all_goals (try (simp at h;done))
 all_goals
   simp only [Option.some.injEq,Prod.mk.injEq,AK.de.injEq] at h
   obtain ⟨⟨rfl,rfl,rfl,rfl⟩,rfl⟩:=h
   exact ⟨_,_,rfl,rfl,by assumption,by assumption⟩
theorem qP {sz:Nat} {ag:Bool} (h:bp P ns A dst op=some (.aR sz ag,args)) :
   ∃t tx,op=.load t (.tmp tx)∧args=[.tmp tx]∧cD P t=some sz∧eV P t=some ag:=by
 cases op<;>simp only [bp] at h
 all_goals (repeat' (split at h))
 all_goals (try (simp at h;done))
 all_goals
   simp only [Option.some.injEq,Prod.mk.injEq,AK.aR.injEq] at h
   obtain ⟨⟨rfl,rfl⟩,rfl⟩:=h
   exact ⟨_,_,rfl,rfl,by assumption,by assumption⟩
theorem po {k o sz:Nat} (h:bp P ns A dst op=some (.d4 k o sz,args)) :
   ∃t tx v,op=.store t (.tmp tx) v∧args=[.tmp tx,v]∧cD P t=some sz:=by
 cases op<;>simp only [bp] at h
 all_goals (repeat' (split at h))
 all_goals (try (simp at h;done))
 all_goals
   simp only [Option.some.injEq,Prod.mk.injEq,AK.d4.injEq] at h
   obtain ⟨⟨rfl,rfl,rfl⟩,rfl⟩:=h
   exact ⟨_,_,_,rfl,rfl,by assumption⟩
theorem pq {sz:Nat} (h:bp P ns A dst op=some (.cz sz,args)) :
   ∃t tx v,op=.store t (.tmp tx) v∧args=[.tmp tx,v]∧cD P t=some sz:=by
 cases op<;>simp only [bp] at h
 all_goals (repeat' (split at h))
 all_goals (try (simp at h;done))
 all_goals
   simp only [Option.some.injEq,Prod.mk.injEq,AK.cz.injEq] at h
   obtain ⟨rfl,rfl⟩:=h
   exact ⟨_,_,_,rfl,rfl,by assumption⟩
theorem qQ {k:Nat} {z:List PV} (h:bp P ns A dst op=some (.alloc k z,args)) :
   ∃t,op=.alloc t∧args=[]∧cd P t=some z∧dst=some k:=by
 cases op<;>simp only [bp] at h
 all_goals (repeat' (split at h))
 all_goals (try (simp at h;done))
 all_goals
   simp only [Option.some.injEq,Prod.mk.injEq,AK.alloc.injEq] at h
   obtain ⟨⟨rfl,rfl⟩,rfl⟩:=h
   exact ⟨_,rfl,rfl,by assumption,rfl⟩
theorem pr {z:List PV} (h:bp P ns A dst op=some (.gl z,args)) :
   ∃t,op=.alloc t∧args=[]∧cd P t=some z:=by
 cases op<;>simp only [bp] at h
 all_goals (repeat' (split at h))
 all_goals (try (simp at h;done))
 all_goals
   simp only [Option.some.injEq,Prod.mk.injEq,AK.gl.injEq] at h
   obtain ⟨rfl,rfl⟩:=h
   exact ⟨_,rfl,rfl,by assumption⟩
theorem xQ {k sz:Nat} (h:bp P ns A dst op=some (.box k sz,args)) :
   ∃t x,op=.box t x∧args=[x]∧cD P t=some sz∧dst=some k:=by
 cases op<;>simp only [bp] at h
 all_goals (repeat' (split at h))
 all_goals (try (simp at h;done))
 all_goals
   simp only [Option.some.injEq,Prod.mk.injEq,AK.box.injEq] at h
   obtain ⟨⟨rfl,rfl⟩,rfl⟩:=h
   exact ⟨_,_,rfl,rfl,by assumption,rfl⟩
theorem tD {sz:Nat} (h:bp P ns A dst op=some (.kX sz,args)) :
   ∃t x,op=.box t x∧args=[x]∧cD P t=some sz:=by
 cases op<;>simp only [bp] at h
 all_goals (repeat' (split at h))
 all_goals (try (simp at h;done))
 all_goals
   simp only [Option.some.injEq,Prod.mk.injEq,AK.kX.injEq] at h
   obtain ⟨rfl,rfl⟩:=h
   exact ⟨_,_,rfl,rfl,by assumption⟩
theorem qR {sz by_:Nat} {ag:Bool} {z:List PV} (h:bp P ns A dst op=some (.jI sz by_ ag z,args)) :
   ∃t e l c,op=.makeSlice t l c∧args=[l,c]∧P.underlying t=some (.slice e)∧cD P e=some sz∧ei P e=some by_∧cd P e=some z∧z.length=sz∧0<sz:=by
 cases op<;>simp only [bp] at h
 all_goals (repeat' (split at h))
 all_goals (try (simp at h;done))
 all_goals
   simp only [Option.some.injEq,Prod.mk.injEq,AK.jI.injEq] at h
   obtain ⟨⟨rfl,rfl,rfl,rfl⟩,rfl⟩:=h
   rename_i hc
   exact ⟨_,_,_,_,rfl,rfl,cN (by assumption),by assumption,by assumption,by assumption,hc.1,hc.2⟩
theorem pw {sz by_:Nat} (h:bp P ns A dst op=some (.append sz by_,args)):∃c,op=.call c:=by
 cases op<;>simp only [bp] at h
 all_goals (repeat' (split at h))
 all_goals (try (simp at h;done))
 all_goals exact ⟨_,rfl⟩
theorem nY {sz by_:Nat} {ag:Bool} (h:bp P ns A dst op=some (.cI sz by_ ag,args)):∃c,op=.call c:=by
 cases op<;>simp only [bp] at h
 all_goals (repeat' (split at h))
 all_goals (try (simp at h;done))
 all_goals exact ⟨_,rfl⟩
theorem nZ {sz by_:Nat} (h:bp P ns A dst op=some (.eg sz by_,args)):∃c,op=.call c:=by
 cases op<;>simp only [bp] at h
 all_goals (repeat' (split at h))
 all_goals (try (simp at h;done))
 all_goals exact ⟨_,rfl⟩
theorem qS {sz:Nat} (h:bp P ns A dst op=some (.iP sz,args)):∃c,op=.call c:=by
 cases op<;>simp only [bp] at h
 all_goals (repeat' (split at h))
 all_goals (try (simp at h;done))
 all_goals exact ⟨_,rfl⟩
theorem pz {sz:Nat} {z:List PV} (h:bp P ns A dst op=some (.fR sz z,args)):∃c,op=.call c:=by
 cases op<;>simp only [bp] at h
 all_goals (repeat' (split at h))
 all_goals (try (simp at h;done))
 all_goals exact ⟨_,rfl⟩
theorem qT (h:bp P ns A dst op=some (.kj,args)):∃t,op=.makeMap t none∧args=[]:=by
 cases op<;>simp only [bp] at h
 case makeMap t r=>
   split at h
   · rename_i hr
     cases r with
     | none=>simp only [Option.some.injEq,Prod.mk.injEq,true_and] at h;exact ⟨_,rfl,h.symm⟩
     | some _=>simp at hr
   · simp at h
 all_goals (repeat' (split at h))
 all_goals (try (simp at h;done))
theorem qU {c:CK} {ok:Bool} {z:PV} (h:bp P ns A dst op=some (.hH c ok z,args)) :
   ∃t x i k e,op=.lookup t x i ok∧args=[x,i]∧P.underlying t=some (.map k e)∧eW P k=some c∧zeroOf P e=some z:=by
 cases op<;>simp only [bp] at h
 all_goals (repeat' (split at h))
 all_goals (try (simp at h;done))
 all_goals
   simp only [Option.some.injEq,Prod.mk.injEq,AK.hH.injEq] at h
   obtain ⟨⟨rfl,rfl,rfl⟩,rfl⟩:=h
   exact ⟨_,_,_,_,_,rfl,rfl,by assumption,by assumption,by assumption⟩
theorem tE {c:CK} (h:bp P ns A dst op=some (.mG c,args)) :
   ∃t m i x k e,(op=.mapUpdate t m i x∨op=.insert t m i x)∧args=[m,i,x]∧P.underlying t=some (.map k e)∧eW P k=some c:=by
 cases op<;>simp only [bp] at h
 case mapUpdate t m i x=>
   split at h
   · rename_i k e hu
     simp only [Option.map_eq_some_iff,Prod.mk.injEq,AK.mG.injEq] at h
     obtain ⟨c',h1,rfl,rfl⟩:=h
     exact ⟨_,_,_,_,_,_,.inl rfl,rfl,hu,h1⟩
   · simp at h
 case insert t m i x=>
   split at h
   · rename_i k e hu
     simp only [Option.map_eq_some_iff,Prod.mk.injEq,AK.mG.injEq] at h
     obtain ⟨c',h1,rfl,rfl⟩:=h
     exact ⟨_,_,_,_,_,_,.inr rfl,rfl,hu,h1⟩
   · simp at h
 all_goals (repeat' (split at h))
 all_goals (try (simp at h;done))
theorem tF {k:AK} (hk:(match k with | .aB _ | .eI _ | .aA .. | .hP _ | .eB | .clone ..=>true | _=>false)=true) (h:bp P ns A dst op=some (k,args)):∃c,op=.call c:=by
 cases op<;>simp only [bp] at h
 all_goals (repeat' (split at h))
 all_goals (try (simp at h;done))
 all_goals (first | exact ⟨_,rfl⟩ | skip)
 all_goals (simp at h;first | (obtain ⟨rfl,_⟩:=h;simp at hk;done) | (obtain ⟨_,_,rfl,_⟩:=h;simp at hk;done))
end
section
variable {orc:d0} {vals:List AV} {cells:Option (List AV)} {sh:Sh} {aa:au} {out:Out}
theorem ft {key off sz:Nat} {ag:Bool} (h:exec orc (.de key off sz ag) vals cells sh aa=some out) :
   ∃cs x,vals=[.aT key off]∧cells=some cs∧bN ag sz cs off=some x∧out=⟨x,none,sh,aa⟩:=by
 rcases vals with _ | ⟨v,_ | ⟨u,r⟩⟩
 · simp [exec] at h
 · cases v with
   | aT d o=>
     simp only [exec,Option.ite_none_right_eq_some] at h
     obtain ⟨⟨rfl,rfl⟩,h⟩:=h
     cases cells with
     | none=>simp at h
     | some cs=>
       simp only [Option.map_eq_some_iff] at h
       obtain ⟨x,h1,rfl⟩:=h
       exact ⟨cs,x,rfl,rfl,h1,rfl⟩
   | _=>simp [exec] at h
 · cases v<;>simp [exec] at h
theorem fK {key off sz:Nat} (h:exec orc (.d4 key off sz) vals cells sh aa=some out) :
   ∃cs v,vals=[.aT key off,v]∧cells=some cs∧(aX v).length=sz∧(aX v).all aP=true∧off+sz≤cs.length∧out=⟨.un,some (aN cs off (aX v)),sh,aa⟩:=by
 rcases vals with _ | ⟨v,_ | ⟨u,_ | ⟨_,_⟩⟩⟩
 · simp [exec] at h
 · cases v<;>simp [exec] at h
 · cases v with
   | aT d o=>
     simp only [exec,Option.ite_none_right_eq_some] at h
     obtain ⟨⟨rfl,rfl,h1,h2⟩,h⟩:=h
     cases cells with
     | none=>simp at h
     | some cs=>
       simp only [Option.ite_none_right_eq_some,Option.some.injEq] at h
       obtain ⟨h3,rfl⟩:=h
       exact ⟨cs,u,rfl,rfl,h1,h2,h3,rfl⟩
   | _=>simp [exec] at h
 · cases v<;>simp [exec] at h
theorem gB {key:Nat} {z:List PV} (h:exec orc (.alloc key z) vals cells sh aa=some out) :
   vals=[]∧cells=none∧out=⟨.aT key 0,some (z.map bq.zeroCell),sh,aa⟩:=by
 cases vals with
 | nil=>cases cells with
   | none=>simp [exec] at h;exact ⟨rfl,rfl,h.symm⟩
   | some _=>simp [exec] at h
 | cons _ _=>simp [exec] at h
theorem i6 {key sz:Nat} (h:exec orc (.box key sz) vals cells sh aa=some out) :
   ∃v,vals=[v]∧cells=none∧(aX v).length=sz∧(aX v).all aP=true∧out=⟨.aT key 0,some (aX v),sh,aa⟩:=by
 rcases vals with _ | ⟨v,_ | ⟨u,r⟩⟩
 · simp [exec] at h
 · cases cells with
   | none=>
     simp only [exec,Option.ite_none_right_eq_some,Option.some.injEq] at h
     obtain ⟨⟨h1,h2⟩,rfl⟩:=h
     exact ⟨v,rfl,rfl,h1,h2,rfl⟩
   | some _=>simp [exec] at h
 · simp [exec] at h
theorem jX {sz:Nat} {ag:Bool} (h:exec orc (.aR sz ag) vals cells sh aa=some out) :
   ∃p x,vals=[p]∧out=⟨x,none,sh,aa⟩∧((∃cs,p=.cQ cs∧ca ag sz cs=some x)∨∃b off cs,p=.ba b off∧sh[b]?=some (some cs)∧cA cs=false∧bN ag sz cs off=some x):=by
 rcases vals with _ | ⟨v,_ | ⟨u,r⟩⟩
 · simp [exec] at h
 · simp only [exec] at h
   split at h
   · rename_i cs
     simp only [Option.map_eq_some_iff] at h
     obtain ⟨x,h1,rfl⟩:=h
     exact ⟨_,x,rfl,rfl,.inl ⟨cs,rfl,h1⟩⟩
   · rename_i b off
     split at h
     · rename_i cs hcs
       split at h
       · cases h
       · rename_i hm
         simp only [Option.map_eq_some_iff] at h
         obtain ⟨x,h1,rfl⟩:=h
         exact ⟨_,x,rfl,rfl,.inr ⟨b,off,cs,rfl,hcs,by simpa using hm,h1⟩⟩
     · simp at h
   · simp at h
 · simp [exec] at h
theorem gS {sz:Nat} (h:exec orc (.cz sz) vals cells sh aa=some out) :
   ∃b off v cs,vals=[.ba b off,v]∧sh[b]?=some (some cs)∧cA cs=false∧(bK v).length=sz∧off+sz≤cs.length∧(bK v).all dq=true∧(bK v).all (az (b+1))=true ∧
     out=⟨.un,none,sh.set b (some (aN cs off (bK v))),aa⟩:=by
 rcases vals with _ | ⟨v,_ | ⟨u,_ | ⟨_,_⟩⟩⟩
 · simp [exec] at h
 · cases v<;>simp [exec] at h
 · cases v with
   | ba b off=>
     simp only [exec] at h
     split at h
     · rename_i cs hcs
       simp only [Option.ite_none_right_eq_some,Option.some.injEq] at h
       obtain ⟨⟨h0,h1,h2,h3,h4⟩,rfl⟩:=h
       exact ⟨b,off,u,cs,rfl,hcs,h0,h1,h2,h3,h4,rfl⟩
     · simp at h
   | _=>simp [exec] at h
 · cases v<;>simp [exec] at h
theorem jr {sz:Nat} (h:exec orc (.kX sz) vals cells sh aa=some out) :
   ∃v,vals=[v]∧(bK v).length=sz∧(bK v).all dq=true∧(bK v).all (az sh.length)=true∧out=⟨.ba sh.length 0,none,sh++[some (bK v)],aa⟩:=by
 rcases vals with _ | ⟨v,_ | ⟨u,r⟩⟩
 · simp [exec] at h
 · simp only [exec,Option.ite_none_right_eq_some,Option.some.injEq] at h
   obtain ⟨⟨h1,h2,h3⟩,rfl⟩:=h
   exact ⟨v,rfl,h1,h2,h3,rfl⟩
 · simp [exec] at h
theorem gT {z:List PV} (h:exec orc (.gl z) vals cells sh aa=some out):vals=[]∧out=⟨.ba sh.length 0,none,sh++[some (z.map bq.zeroCell)],aa⟩:=by
 cases vals with
 | nil=>simp [exec] at h;exact ⟨rfl,h.symm⟩
 | cons _ _=>simp [exec] at h
theorem ix {sz by_:Nat} {ag:Bool} {z:List PV} (h:exec orc (.jI sz by_ ag z) vals cells sh aa=some out) :
   ∃k k' n,vals=[.pv (.int k n),.pv (.int k' n)]∧0≤n∧n≤9223372036854775807∧n*by_≤140737488355328∧z.length=sz ∧
     out=⟨.bd sh.length sz n.toNat ag,none,sh++[some ((List.replicate n.toNat (z.map .pv)).flatten)],aa⟩:=by
 rcases vals with _ | ⟨v,_ | ⟨u,_ | ⟨_,_⟩⟩⟩
 · simp [exec] at h
 · simp [exec] at h
 · cases v with
   | pv p=>cases p with
     | int k n=>cases u with
       | pv q=>cases q with
         | int k' n'=>
           simp only [exec,Option.ite_none_right_eq_some,Option.some.injEq] at h
           obtain ⟨⟨rfl,h1,h2,h3,h4⟩,rfl⟩:=h
           exact ⟨k,k',n,rfl,h1,h2,h3,h4,rfl⟩
         | _=>simp [exec] at h
       | _=>simp [exec] at h
     | _=>simp [exec] at h
   | _=>simp [exec] at h
 · simp [exec] at h
theorem iy (h:exec orc .kj vals cells sh aa=some out):vals=[]∧out=⟨.ck sh.length,none,sh++[some [.da []]],aa⟩:=by
 cases vals with
 | nil=>simp [exec] at h;exact ⟨rfl,h.symm⟩
 | cons _ _=>simp [exec] at h
theorem gC {c:CK} {ok:Bool} {z:PV} (h:exec orc (.hH c ok z) vals cells sh aa=some out) :
   ∃s k kvs r,vals=[.ck s,.pv k]∧sh[s]?=some (some [.da kvs])∧gX c kvs k=some r∧out=⟨fY ok z r,none,sh,aa⟩:=by
 rcases vals with _ | ⟨v,_ | ⟨u,_ | ⟨_,_⟩⟩⟩
 · simp [exec] at h
 · simp [exec] at h
 · simp only [exec] at h
   split at h
   · rename_i s k
     split at h
     · rename_i kvs hs
       simp only [Option.map_eq_some_iff] at h
       obtain ⟨r,h1,rfl⟩:=h
       exact ⟨s,k,kvs,r,rfl,hs,h1,rfl⟩
     · cases h
   · cases h
 · simp [exec] at h
theorem js {c:CK} (h:exec orc (.mG c) vals cells sh aa=some out) :
   ∃s k v kvs p kvs',vals=[.ck s,.pv k,v]∧sh[s]?=some (some [.da kvs])∧eM [] v=some p∧iU c kvs k p=some kvs'∧out=⟨.un,none,sh.set s (some [.da kvs']),aa⟩:=by
 rcases vals with _ | ⟨v,_ | ⟨u,_ | ⟨t,_ | ⟨_,_⟩⟩⟩⟩
 · simp [exec] at h
 · simp [exec] at h
 · simp [exec] at h
 · simp only [exec] at h
   split at h
   · rename_i s k
     split at h
     · rename_i kvs p hs hp
       simp only [Option.map_eq_some_iff] at h
       obtain ⟨r,h1,rfl⟩:=h
       exact ⟨s,k,t,kvs,p,r,rfl,hs,hp,h1,rfl⟩
     · cases h
   · cases h
 · simp [exec] at h
theorem jY {sz by_:Nat} (h:exec orc (.clone sz by_) vals cells sh aa=some out) :
   ∃x y ts,vals=[x]∧bL sz by_ (.bR []) x aa=some (y,ts)∧out=⟨y,none,sh,ts⟩:=by
 rcases vals with _ | ⟨v,_ | ⟨_,_⟩⟩
 · simp [exec] at h
 · simp only [exec,Option.map_eq_some_iff] at h
   obtain ⟨⟨y,ts⟩,h1,rfl⟩:=h
   exact ⟨v,y,ts,rfl,h1,rfl⟩
 · simp [exec] at h
theorem gU {sz by_:Nat} (h:exec orc (.append sz by_) vals cells sh aa=some out) :
   ∃s x y ts,vals=[s,x]∧bL sz by_ s x aa=some (y,ts)∧out=⟨y,none,sh,ts⟩:=by
 rcases vals with _ | ⟨v,_ | ⟨u,_ | ⟨_,_⟩⟩⟩
 · simp [exec] at h
 · simp [exec] at h
 · simp only [exec,Option.map_eq_some_iff] at h
   obtain ⟨⟨y,ts⟩,h1,rfl⟩:=h
   exact ⟨v,u,y,ts,rfl,h1,rfl⟩
 · simp [exec] at h
theorem gi {sz by_:Nat} (h:exec orc (.eg sz by_) vals cells sh aa=some out) :
   ∃s x e xs p,vals=[s,x,e]∧cC x=some xs∧qt sz by_ xs s e aa=some p∧out=⟨.pv p,none,sh,aa⟩:=by
 rcases vals with _ | ⟨v,_ | ⟨u,_ | ⟨e,_ | ⟨_,_⟩⟩⟩⟩
 · simp [exec] at h
 · simp [exec] at h
 · simp [exec] at h
 · simp only [exec] at h
   cases hx:cC u with
   | none=>rw [hx] at h;simp at h
   | some xs=>
     rw [hx] at h
     simp only [Option.map_eq_some_iff] at h
     obtain ⟨p,h1,rfl⟩:=h
     exact ⟨v,u,e,xs,p,rfl,hx,h1,rfl⟩
 · simp [exec] at h
theorem iz {sz:Nat} (h:exec orc (.iP sz) vals cells sh aa=some out) :
   ∃x y xs k sh',vals=[x,y]∧cC y=some xs∧mK sz sh xs x=some (k,sh')∧out=⟨.pv (.int .i64 (k:Int)),none,sh',aa⟩:=by
 rcases vals with _ | ⟨v,_ | ⟨u,_ | ⟨_,_⟩⟩⟩
 · simp [exec] at h
 · simp [exec] at h
 · simp only [exec] at h
   cases hx:cC u with
   | none=>rw [hx] at h;simp at h
   | some xs=>
     rw [hx] at h
     simp only [Option.map_eq_some_iff] at h
     obtain ⟨⟨k,sh'⟩,h1,rfl⟩:=h
     exact ⟨v,u,xs,k,sh',rfl,hx,h1,rfl⟩
 · simp [exec] at h
theorem lT {sz:Nat} {z:List PV} (h:exec orc (.fR sz z) vals cells sh aa=some out) :
   ∃x sh',vals=[x]∧mJ sz z sh (qq sz x)=some sh'∧out=⟨.jH [],none,sh',aa⟩:=by
 rcases vals with _ | ⟨v,_ | ⟨u,_⟩⟩
 · simp [exec] at h
 · simp only [exec,Option.map_eq_some_iff] at h
   obtain ⟨sh',h1,rfl⟩:=h
   exact ⟨v,sh',rfl,h1,rfl⟩
 · simp [exec] at h
theorem iA {sz by_:Nat} {ag:Bool} (h:exec orc (.cI sz by_ ag) vals cells sh aa=some out) :
   ∃s x xs y sh',vals=[s,x]∧cC x=some xs∧bu sz xs=true∧mL sz by_ ag s xs sh aa=some (y,sh')∧out=⟨y,none,sh',aa⟩:=by
 rcases vals with _ | ⟨v,_ | ⟨u,_ | ⟨_,_⟩⟩⟩
 · simp [exec] at h
 · simp [exec] at h
 · simp only [exec] at h
   split at h
   · rename_i xs hxs
     simp only [Option.ite_none_right_eq_some,Option.map_eq_some_iff] at h
     obtain ⟨h0,⟨y,sh'⟩,h1,rfl⟩:=h
     exact ⟨v,u,xs,y,sh',rfl,hxs,h0,h1,rfl⟩
   · simp at h
 · simp [exec] at h
end
end Go.Ab
