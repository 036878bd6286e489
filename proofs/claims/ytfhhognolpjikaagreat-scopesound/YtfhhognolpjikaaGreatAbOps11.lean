import Derived.Test.YtfhhognolpjikaaGreatAbHot
/-
  What an operation was compiled from, and what its run looked at.
-/
set_option linter.unusedVariables false
set_option linter.unusedSimpArgs false
set_option maxRecDepth 100000
set_option maxHeartbeats 8000000
namespace Go.Ab
section
variable {P:Program} {ns:Names} {A:nD} {dst:Option Nat} {op:Op} {args:List Operand}
theorem vD {k o sz:Nat} {ag:Bool} (h:bY P ns A dst op=some (.bj k o sz ag,args)) :
   ∃t tx,op=.load t (.tmp tx)∧args=[.tmp tx]∧dD P t=some sz∧fZ P t=some ag:=by
 cases op<;>simp only [bY] at h
 all_goals (repeat' (split at h))
 all_goals (try (simp at h;done))
 all_goals
   simp only [Option.some.injEq,Prod.mk.injEq,AK.bj.injEq] at h
   obtain ⟨⟨rfl,rfl,rfl,rfl⟩,rfl⟩:=h
   exact ⟨_,_,rfl,rfl,by assumption,by assumption⟩
theorem vE {sz:Nat} {ag:Bool} (h:bY P ns A dst op=some (.aZ sz ag,args)) :
   ∃t tx,op=.load t (.tmp tx)∧args=[.tmp tx]∧dD P t=some sz∧fZ P t=some ag:=by
 cases op<;>simp only [bY] at h
 all_goals (repeat' (split at h))
 all_goals (try (simp at h;done))
 all_goals
   simp only [Option.some.injEq,Prod.mk.injEq,AK.aZ.injEq] at h
   obtain ⟨⟨rfl,rfl⟩,rfl⟩:=h
   exact ⟨_,_,rfl,rfl,by assumption,by assumption⟩
theorem tN {k o sz:Nat} (h:bY P ns A dst op=some (.cT k o sz,args)) :
   ∃t tx v,op=.store t (.tmp tx) v∧args=[.tmp tx,v]∧dD P t=some sz:=by
 cases op<;>simp only [bY] at h
 all_goals (repeat' (split at h))
 all_goals (try (simp at h;done))
 all_goals
   simp only [Option.some.injEq,Prod.mk.injEq,AK.cT.injEq] at h
   obtain ⟨⟨rfl,rfl,rfl⟩,rfl⟩:=h
   exact ⟨_,_,_,rfl,rfl,by assumption⟩
theorem tO {sz:Nat} (h:bY P ns A dst op=some (.cU sz,args)) :
   ∃t tx v,op=.store t (.tmp tx) v∧args=[.tmp tx,v]∧dD P t=some sz:=by
 cases op<;>simp only [bY] at h
 all_goals (repeat' (split at h))
 all_goals (try (simp at h;done))
 all_goals
   simp only [Option.some.injEq,Prod.mk.injEq,AK.cU.injEq] at h
   obtain ⟨rfl,rfl⟩:=h
   exact ⟨_,_,_,rfl,rfl,by assumption⟩
theorem vF {k:Nat} {z:List PV} (h:bY P ns A dst op=some (.alloc k z,args)) :
   ∃t,op=.alloc t∧args=[]∧db P t=some z∧dst=some k:=by
 cases op<;>simp only [bY] at h
 all_goals (repeat' (split at h))
 all_goals (try (simp at h;done))
 all_goals
   simp only [Option.some.injEq,Prod.mk.injEq,AK.alloc.injEq] at h
   obtain ⟨⟨rfl,rfl⟩,rfl⟩:=h
   exact ⟨_,rfl,rfl,by assumption,rfl⟩
theorem tP {z:List PV} (h:bY P ns A dst op=some (.hH z,args)) :
   ∃t,op=.alloc t∧args=[]∧db P t=some z:=by
 cases op<;>simp only [bY] at h
 all_goals (repeat' (split at h))
 all_goals (try (simp at h;done))
 all_goals
   simp only [Option.some.injEq,Prod.mk.injEq,AK.hH.injEq] at h
   obtain ⟨rfl,rfl⟩:=h
   exact ⟨_,rfl,rfl,by assumption⟩
theorem CS {k sz:Nat} (h:bY P ns A dst op=some (.box k sz,args)) :
   ∃t x,op=.box t x∧args=[x]∧dD P t=some sz∧dst=some k:=by
 cases op<;>simp only [bY] at h
 all_goals (repeat' (split at h))
 all_goals (try (simp at h;done))
 all_goals
   simp only [Option.some.injEq,Prod.mk.injEq,AK.box.injEq] at h
   obtain ⟨⟨rfl,rfl⟩,rfl⟩:=h
   exact ⟨_,_,rfl,rfl,by assumption,rfl⟩
theorem yE {sz:Nat} (h:bY P ns A dst op=some (.lS sz,args)) :
   ∃t x,op=.box t x∧args=[x]∧dD P t=some sz:=by
 cases op<;>simp only [bY] at h
 all_goals (repeat' (split at h))
 all_goals (try (simp at h;done))
 all_goals
   simp only [Option.some.injEq,Prod.mk.injEq,AK.lS.injEq] at h
   obtain ⟨rfl,rfl⟩:=h
   exact ⟨_,_,rfl,rfl,by assumption⟩
theorem vG {sz by_:Nat} {ag:Bool} {z:List PV} (h:bY P ns A dst op=some (.jg sz by_ ag z,args)) :
   ∃t e l c,op=.makeSlice t l c∧args=[l,c]∧P.underlying t=some (.slice e)∧dD P e=some sz∧fY P e=some by_∧db P e=some z∧z.length=sz∧0<sz:=by
 cases op<;>simp only [bY] at h
 all_goals (repeat' (split at h))
 all_goals (try (simp at h;done))
 all_goals
   simp only [Option.some.injEq,Prod.mk.injEq,AK.jg.injEq] at h
   obtain ⟨⟨rfl,rfl,rfl,rfl⟩,rfl⟩:=h
   rename_i hc
   exact ⟨_,_,_,_,rfl,rfl,eT (by assumption),by assumption,by assumption,by assumption,hc.1,hc.2⟩
theorem tQ {sz by_:Nat} (h:bY P ns A dst op=some (.append sz by_,args)):∃c,op=.call c:=by
 cases op<;>simp only [bY] at h
 all_goals (repeat' (split at h))
 all_goals (try (simp at h;done))
 all_goals exact ⟨_,rfl⟩
theorem rT {sz by_:Nat} {ag:Bool} (h:bY P ns A dst op=some (.c_ sz by_ ag,args)):∃c,op=.call c:=by
 cases op<;>simp only [bY] at h
 all_goals (repeat' (split at h))
 all_goals (try (simp at h;done))
 all_goals exact ⟨_,rfl⟩
theorem tR {sz:Nat} {z:List PV} (h:bY P ns A dst op=some (.fR sz z,args)):∃c,op=.call c:=by
 cases op<;>simp only [bY] at h
 all_goals (repeat' (split at h))
 all_goals (try (simp at h;done))
 all_goals exact ⟨_,rfl⟩
theorem vH (h:bY P ns A dst op=some (.ki,args)):∃t,op=.makeMap t none∧args=[]:=by
 cases op<;>simp only [bY] at h
 case makeMap t r=>
   split at h
   · rename_i hr
     cases r with
     | none=>simp only [Option.some.injEq,Prod.mk.injEq,true_and] at h;exact ⟨_,rfl,h.symm⟩
     | some _=>simp at hr
   · simp at h
 all_goals (repeat' (split at h))
 all_goals (try (simp at h;done))
theorem vJ {c:CK} {ok:Bool} {z:PV} (h:bY P ns A dst op=some (.ix c ok z,args)) :
   ∃t x i k e,op=.lookup t x i ok∧args=[x,i]∧P.underlying t=some (.map k e)∧ga P k=some c∧zeroOf P e=some z:=by
 cases op<;>simp only [bY] at h
 all_goals (repeat' (split at h))
 all_goals (try (simp at h;done))
 all_goals
   simp only [Option.some.injEq,Prod.mk.injEq,AK.ix.injEq] at h
   obtain ⟨⟨rfl,rfl,rfl⟩,rfl⟩:=h
   exact ⟨_,_,_,_,_,rfl,rfl,by assumption,by assumption,by assumption⟩
theorem yF {c:CK} (h:bY P ns A dst op=some (.mC c,args)) :
   ∃t m i x k e,(op=.mapUpdate t m i x∨op=.insert t m i x)∧args=[m,i,x]∧P.underlying t=some (.map k e)∧ga P k=some c:=by
 cases op<;>simp only [bY] at h
 case mapUpdate t m i x=>
   split at h
   · rename_i k e hu
     simp only [Option.map_eq_some_iff,Prod.mk.injEq,AK.mC.injEq] at h
     obtain ⟨c',h1,rfl,rfl⟩:=h
     exact ⟨_,_,_,_,_,_,.inl rfl,rfl,hu,h1⟩
   · simp at h
 case insert t m i x=>
   split at h
   · rename_i k e hu
     simp only [Option.map_eq_some_iff,Prod.mk.injEq,AK.mC.injEq] at h
     obtain ⟨c',h1,rfl,rfl⟩:=h
     exact ⟨_,_,_,_,_,_,.inr rfl,rfl,hu,h1⟩
   · simp at h
 all_goals (repeat' (split at h))
 all_goals (try (simp at h;done))
theorem yG {k:AK} (hk:(match k with | .aB _ | .dW _ | .aI .. | .jh _ | .eK | .clone ..=>true | _=>false)=true) (h:bY P ns A dst op=some (k,args)):∃c,op=.call c:=by
 cases op<;>simp only [bY] at h
 all_goals (repeat' (split at h))
 all_goals (try (simp at h;done))
 all_goals (first | exact ⟨_,rfl⟩ | skip)
 all_goals (simp at h;first | (obtain ⟨rfl,_⟩:=h;simp at hk;done) | (obtain ⟨_,_,rfl,_⟩:=h;simp at hk;done))
end
section
variable {orc:eI} {vals:List AV} {cells:Option (List AV)} {sh:Sh} {ah:aL} {out:Out}
theorem gN {key off sz:Nat} {ag:Bool} (h:exec orc (.bj key off sz ag) vals cells sh ah=some out) :
   ∃cs x,vals=[.az key off]∧cells=some cs∧b_ ag sz cs off=some x∧out=⟨x,none,sh,ah⟩:=by
 rcases vals with _ | ⟨v,_ | ⟨u,r⟩⟩
 · simp [exec] at h
 · cases v with
   | az d o=>
     simp only [exec,Option.ite_none_right_eq_some] at h
     obtain ⟨⟨rfl,rfl⟩,h⟩:=h
     cases cells with
     | none=>simp at h
     | some cs=>
       simp only [Option.map_eq_some_iff] at h
       obtain ⟨x,h1,rfl⟩:=h
       exact ⟨cs,x,rfl,rfl,h1,rfl⟩
   | _=>simp [exec] at h
 · cases v<;>simp [exec] at h
theorem gW {key off sz:Nat} (h:exec orc (.cT key off sz) vals cells sh ah=some out) :
   ∃cs v,vals=[.az key off,v]∧cells=some cs∧(bn v).length=sz∧(bn v).all bf=true∧off+sz≤cs.length∧out=⟨.un,some (bu cs off (bn v)),sh,ah⟩:=by
 rcases vals with _ | ⟨v,_ | ⟨u,_ | ⟨_,_⟩⟩⟩
 · simp [exec] at h
 · cases v<;>simp [exec] at h
 · cases v with
   | az d o=>
     simp only [exec,Option.ite_none_right_eq_some] at h
     obtain ⟨⟨rfl,rfl,h1,h2⟩,h⟩:=h
     cases cells with
     | none=>simp at h
     | some cs=>
       simp only [Option.ite_none_right_eq_some,Option.some.injEq] at h
       obtain ⟨h3,rfl⟩:=h
       exact ⟨cs,u,rfl,rfl,h1,h2,h3,rfl⟩
   | _=>simp [exec] at h
 · cases v<;>simp [exec] at h
theorem iI {key:Nat} {z:List PV} (h:exec orc (.alloc key z) vals cells sh ah=some out) :
   vals=[]∧cells=none∧out=⟨.az key 0,some (z.map bM.zeroCell),sh,ah⟩:=by
 cases vals with
 | nil=>cases cells with
   | none=>simp [exec] at h;exact ⟨rfl,rfl,h.symm⟩
   | some _=>simp [exec] at h
 | cons _ _=>simp [exec] at h
theorem kx {key sz:Nat} (h:exec orc (.box key sz) vals cells sh ah=some out) :
   ∃v,vals=[v]∧cells=none∧(bn v).length=sz∧(bn v).all bf=true∧out=⟨.az key 0,some (bn v),sh,ah⟩:=by
 rcases vals with _ | ⟨v,_ | ⟨u,r⟩⟩
 · simp [exec] at h
 · cases cells with
   | none=>
     simp only [exec,Option.ite_none_right_eq_some,Option.some.injEq] at h
     obtain ⟨⟨h1,h2⟩,rfl⟩:=h
     exact ⟨v,rfl,rfl,h1,h2,rfl⟩
   | some _=>simp [exec] at h
 · simp [exec] at h
theorem lY {sz:Nat} {ag:Bool} (h:exec orc (.aZ sz ag) vals cells sh ah=some out) :
   ∃p x,vals=[p]∧out=⟨x,none,sh,ah⟩∧((∃cs,p=.dm cs∧cK ag sz cs=some x)∨∃b off cs,p=.aX b off∧sh[b]?=some (some cs)∧cQ cs=false∧b_ ag sz cs off=some x):=by
 rcases vals with _ | ⟨v,_ | ⟨u,r⟩⟩
 · simp [exec] at h
 · simp only [exec] at h
   split at h
   · rename_i cs
     simp only [Option.map_eq_some_iff] at h
     obtain ⟨x,h1,rfl⟩:=h
     exact ⟨_,x,rfl,rfl,.inl ⟨cs,rfl,h1⟩⟩
   · rename_i b off
     split at h
     · rename_i cs hcs
       split at h
       · cases h
       · rename_i hm
         simp only [Option.map_eq_some_iff] at h
         obtain ⟨x,h1,rfl⟩:=h
         exact ⟨_,x,rfl,rfl,.inr ⟨b,off,cs,rfl,hcs,by simpa using hm,h1⟩⟩
     · simp at h
   · simp at h
 · simp [exec] at h
theorem iZ {sz:Nat} (h:exec orc (.cU sz) vals cells sh ah=some out) :
   ∃b off v cs,vals=[.aX b off,v]∧sh[b]?=some (some cs)∧cQ cs=false∧(cf v).length=sz∧off+sz≤cs.length∧(cf v).all d4=true∧(cf v).all (aR (b+1))=true ∧
     out=⟨.un,none,sh.set b (some (bu cs off (cf v))),ah⟩:=by
 rcases vals with _ | ⟨v,_ | ⟨u,_ | ⟨_,_⟩⟩⟩
 · simp [exec] at h
 · cases v<;>simp [exec] at h
 · cases v with
   | aX b off=>
     simp only [exec] at h
     split at h
     · rename_i cs hcs
       simp only [Option.ite_none_right_eq_some,Option.some.injEq] at h
       obtain ⟨⟨h0,h1,h2,h3,h4⟩,rfl⟩:=h
       exact ⟨b,off,u,cs,rfl,hcs,h0,h1,h2,h3,h4,rfl⟩
     · simp at h
   | _=>simp [exec] at h
 · cases v<;>simp [exec] at h
theorem kZ {sz:Nat} (h:exec orc (.lS sz) vals cells sh ah=some out) :
   ∃v,vals=[v]∧(cf v).length=sz∧(cf v).all d4=true∧(cf v).all (aR sh.length)=true∧out=⟨.aX sh.length 0,none,sh++[some (cf v)],ah⟩:=by
 rcases vals with _ | ⟨v,_ | ⟨u,r⟩⟩
 · simp [exec] at h
 · simp only [exec,Option.ite_none_right_eq_some,Option.some.injEq] at h
   obtain ⟨⟨h1,h2,h3⟩,rfl⟩:=h
   exact ⟨v,rfl,h1,h2,h3,rfl⟩
 · simp [exec] at h
theorem i4 {z:List PV} (h:exec orc (.hH z) vals cells sh ah=some out):vals=[]∧out=⟨.aX sh.length 0,none,sh++[some (z.map bM.zeroCell)],ah⟩:=by
 cases vals with
 | nil=>simp [exec] at h;exact ⟨rfl,h.symm⟩
 | cons _ _=>simp [exec] at h
theorem jF {sz by_:Nat} {ag:Bool} {z:List PV} (h:exec orc (.jg sz by_ ag z) vals cells sh ah=some out) :
   ∃k k' n,vals=[.pv (.int k n),.pv (.int k' n)]∧0≤n∧n≤9223372036854775807∧n*by_≤140737488355328∧z.length=sz ∧
     out=⟨.bq sh.length sz n.toNat ag,none,sh++[some ((List.replicate n.toNat (z.map .pv)).flatten)],ah⟩:=by
 rcases vals with _ | ⟨v,_ | ⟨u,_ | ⟨_,_⟩⟩⟩
 · simp [exec] at h
 · simp [exec] at h
 · cases v with
   | pv p=>cases p with
     | int k n=>cases u with
       | pv q=>cases q with
         | int k' n'=>
           simp only [exec,Option.ite_none_right_eq_some,Option.some.injEq] at h
           obtain ⟨⟨rfl,h1,h2,h3,h4⟩,rfl⟩:=h
           exact ⟨k,k',n,rfl,h1,h2,h3,h4,rfl⟩
         | _=>simp [exec] at h
       | _=>simp [exec] at h
     | _=>simp [exec] at h
   | _=>simp [exec] at h
 · simp [exec] at h
theorem jG (h:exec orc .ki vals cells sh ah=some out):vals=[]∧out=⟨.cp sh.length,none,sh++[some [.dj []]],ah⟩:=by
 cases vals with
 | nil=>simp [exec] at h;exact ⟨rfl,h.symm⟩
 | cons _ _=>simp [exec] at h
theorem iJ {c:CK} {ok:Bool} {z:PV} (h:exec orc (.ix c ok z) vals cells sh ah=some out) :
   ∃s k kvs r,vals=[.cp s,.pv k]∧sh[s]?=some (some [.dj kvs])∧hU c kvs k=some r∧out=⟨ie ok z r,none,sh,ah⟩:=by
 rcases vals with _ | ⟨v,_ | ⟨u,_ | ⟨_,_⟩⟩⟩
 · simp [exec] at h
 · simp [exec] at h
 · simp only [exec] at h
   split at h
   · rename_i s k
     split at h
     · rename_i kvs hs
       simp only [Option.map_eq_some_iff] at h
       obtain ⟨r,h1,rfl⟩:=h
       exact ⟨s,k,kvs,r,rfl,hs,h1,rfl⟩
     · cases h
   · cases h
 · simp [exec] at h
theorem la {c:CK} (h:exec orc (.mC c) vals cells sh ah=some out) :
   ∃s k v kvs p kvs',vals=[.cp s,.pv k,v]∧sh[s]?=some (some [.dj kvs])∧de [] v=some p∧iQ c kvs k p=some kvs'∧out=⟨.un,none,sh.set s (some [.dj kvs']),ah⟩:=by
 rcases vals with _ | ⟨v,_ | ⟨u,_ | ⟨t,_ | ⟨_,_⟩⟩⟩⟩
 · simp [exec] at h
 · simp [exec] at h
 · simp [exec] at h
 · simp only [exec] at h
   split at h
   · rename_i s k
     split at h
     · rename_i kvs p hs hp
       simp only [Option.map_eq_some_iff] at h
       obtain ⟨r,h1,rfl⟩:=h
       exact ⟨s,k,t,kvs,p,r,rfl,hs,hp,h1,rfl⟩
     · cases h
   · cases h
 · simp [exec] at h
theorem lZ {sz by_:Nat} (h:exec orc (.clone sz by_) vals cells sh ah=some out) :
   ∃x y ts,vals=[x]∧cg sz by_ (.bB []) x ah=some (y,ts)∧out=⟨y,none,sh,ts⟩:=by
 rcases vals with _ | ⟨v,_ | ⟨_,_⟩⟩
 · simp [exec] at h
 · simp only [exec,Option.map_eq_some_iff] at h
   obtain ⟨⟨y,ts⟩,h1,rfl⟩:=h
   exact ⟨v,y,ts,rfl,h1,rfl⟩
 · simp [exec] at h
theorem i5 {sz by_:Nat} (h:exec orc (.append sz by_) vals cells sh ah=some out) :
   ∃s x y ts,vals=[s,x]∧cg sz by_ s x ah=some (y,ts)∧out=⟨y,none,sh,ts⟩:=by
 rcases vals with _ | ⟨v,_ | ⟨u,_ | ⟨_,_⟩⟩⟩
 · simp [exec] at h
 · simp [exec] at h
 · simp only [exec,Option.map_eq_some_iff] at h
   obtain ⟨⟨y,ts⟩,h1,rfl⟩:=h
   exact ⟨v,u,y,ts,rfl,h1,rfl⟩
 · simp [exec] at h
theorem oS {sz:Nat} {z:List PV} (h:exec orc (.fR sz z) vals cells sh ah=some out) :
   ∃x sh',vals=[x]∧lT sz z sh (p9 sz x)=some sh'∧out=⟨.lI [],none,sh',ah⟩:=by
 rcases vals with _ | ⟨v,_ | ⟨u,_⟩⟩
 · simp [exec] at h
 · simp only [exec,Option.map_eq_some_iff] at h
   obtain ⟨sh',h1,rfl⟩:=h
   exact ⟨v,sh',rfl,h1,rfl⟩
 · simp [exec] at h
theorem jH {sz by_:Nat} {ag:Bool} (h:exec orc (.c_ sz by_ ag) vals cells sh ah=some out) :
   ∃s x xs y sh',vals=[s,x]∧dS x=some xs∧bH sz xs=true∧p_ sz by_ ag s xs sh ah=some (y,sh')∧out=⟨y,none,sh',ah⟩:=by
 rcases vals with _ | ⟨v,_ | ⟨u,_ | ⟨_,_⟩⟩⟩
 · simp [exec] at h
 · simp [exec] at h
 · simp only [exec] at h
   split at h
   · rename_i xs hxs
     simp only [Option.ite_none_right_eq_some,Option.map_eq_some_iff] at h
     obtain ⟨h0,⟨y,sh'⟩,h1,rfl⟩:=h
     exact ⟨v,u,xs,y,sh',rfl,hxs,h0,h1,rfl⟩
   · simp at h
 · simp [exec] at h
end
end Go.Ab
