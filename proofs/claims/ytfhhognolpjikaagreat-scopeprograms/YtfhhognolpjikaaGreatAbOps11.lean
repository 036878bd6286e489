import Derived.Test.YtfhhognolpjikaaGreatAbHot
/-
  What an operation was compiled from, and what its run looked at.
-/
set_option linter.unusedVariables false
set_option linter.unusedSimpArgs false
set_option maxRecDepth 100000
set_option maxHeartbeats 8000000
namespace Go.Ab
section
variable {P:Program} {ns:Names} {A:nO} {dst:Option Nat} {op:Op} {args:List Operand}
theorem vN {k o sz:Nat} {ag:Bool} (h:cb P ns A dst op=some (.bl k o sz ag,args)) :
   ∃t tx,op=.load t (.tmp tx)∧args=[.tmp tx]∧dM P t=some sz∧gi P t=some ag:=by
 cases op<;>simp only [cb] at h
 all_goals (repeat' (split at h))
 all_goals (try (simp at h;done))
 all_goals
   simp only [Option.some.injEq,Prod.mk.injEq,AK.bl.injEq] at h
   obtain ⟨⟨rfl,rfl,rfl,rfl⟩,rfl⟩:=h
   exact ⟨_,_,rfl,rfl,by assumption,by assumption⟩
theorem vO {sz:Nat} {ag:Bool} (h:cb P ns A dst op=some (.a6 sz ag,args)) :
   ∃t tx,op=.load t (.tmp tx)∧args=[.tmp tx]∧dM P t=some sz∧gi P t=some ag:=by
 cases op<;>simp only [cb] at h
 all_goals (repeat' (split at h))
 all_goals (try (simp at h;done))
 all_goals
   simp only [Option.some.injEq,Prod.mk.injEq,AK.a6.injEq] at h
   obtain ⟨⟨rfl,rfl⟩,rfl⟩:=h
   exact ⟨_,_,rfl,rfl,by assumption,by assumption⟩
theorem tU {k o sz:Nat} (h:cb P ns A dst op=some (.dc k o sz,args)) :
   ∃t tx v,op=.store t (.tmp tx) v∧args=[.tmp tx,v]∧dM P t=some sz:=by
 cases op<;>simp only [cb] at h
 all_goals (repeat' (split at h))
 all_goals (try (simp at h;done))
 all_goals
   simp only [Option.some.injEq,Prod.mk.injEq,AK.dc.injEq] at h
   obtain ⟨⟨rfl,rfl,rfl⟩,rfl⟩:=h
   exact ⟨_,_,_,rfl,rfl,by assumption⟩
theorem tV {sz:Nat} (h:cb P ns A dst op=some (.cz sz,args)) :
   ∃t tx v,op=.store t (.tmp tx) v∧args=[.tmp tx,v]∧dM P t=some sz:=by
 cases op<;>simp only [cb] at h
 all_goals (repeat' (split at h))
 all_goals (try (simp at h;done))
 all_goals
   simp only [Option.some.injEq,Prod.mk.injEq,AK.cz.injEq] at h
   obtain ⟨rfl,rfl⟩:=h
   exact ⟨_,_,_,rfl,rfl,by assumption⟩
theorem vP {k:Nat} {z:List PV} (h:cb P ns A dst op=some (.alloc k z,args)) :
   ∃t,op=.alloc t∧args=[]∧dj P t=some z∧dst=some k:=by
 cases op<;>simp only [cb] at h
 all_goals (repeat' (split at h))
 all_goals (try (simp at h;done))
 all_goals
   simp only [Option.some.injEq,Prod.mk.injEq,AK.alloc.injEq] at h
   obtain ⟨⟨rfl,rfl⟩,rfl⟩:=h
   exact ⟨_,rfl,rfl,by assumption,rfl⟩
theorem tW {z:List PV} (h:cb P ns A dst op=some (.ia z,args)) :
   ∃t,op=.alloc t∧args=[]∧dj P t=some z:=by
 cases op<;>simp only [cb] at h
 all_goals (repeat' (split at h))
 all_goals (try (simp at h;done))
 all_goals
   simp only [Option.some.injEq,Prod.mk.injEq,AK.ia.injEq] at h
   obtain ⟨rfl,rfl⟩:=h
   exact ⟨_,rfl,rfl,by assumption⟩
theorem CR {k sz:Nat} (h:cb P ns A dst op=some (.box k sz,args)) :
   ∃t x,op=.box t x∧args=[x]∧dM P t=some sz∧dst=some k:=by
 cases op<;>simp only [cb] at h
 all_goals (repeat' (split at h))
 all_goals (try (simp at h;done))
 all_goals
   simp only [Option.some.injEq,Prod.mk.injEq,AK.box.injEq] at h
   obtain ⟨⟨rfl,rfl⟩,rfl⟩:=h
   exact ⟨_,_,rfl,rfl,by assumption,rfl⟩
theorem yI {sz:Nat} (h:cb P ns A dst op=some (.l4 sz,args)) :
   ∃t x,op=.box t x∧args=[x]∧dM P t=some sz:=by
 cases op<;>simp only [cb] at h
 all_goals (repeat' (split at h))
 all_goals (try (simp at h;done))
 all_goals
   simp only [Option.some.injEq,Prod.mk.injEq,AK.l4.injEq] at h
   obtain ⟨rfl,rfl⟩:=h
   exact ⟨_,_,rfl,rfl,by assumption⟩
theorem vQ {sz by_:Nat} {ag:Bool} {z:List PV} (h:cb P ns A dst op=some (.jm sz by_ ag z,args)) :
   ∃t e l c,op=.makeSlice t l c∧args=[l,c]∧P.underlying t=some (.slice e)∧dM P e=some sz∧gh P e=some by_∧dj P e=some z∧z.length=sz∧0<sz:=by
 cases op<;>simp only [cb] at h
 all_goals (repeat' (split at h))
 all_goals (try (simp at h;done))
 all_goals
   simp only [Option.some.injEq,Prod.mk.injEq,AK.jm.injEq] at h
   obtain ⟨⟨rfl,rfl,rfl,rfl⟩,rfl⟩:=h
   rename_i hc
   exact ⟨_,_,_,_,rfl,rfl,eV (by assumption),by assumption,by assumption,by assumption,hc.1,hc.2⟩
theorem tX {sz by_:Nat} (h:cb P ns A dst op=some (.append sz by_,args)):∃c,op=.call c:=by
 cases op<;>simp only [cb] at h
 all_goals (repeat' (split at h))
 all_goals (try (simp at h;done))
 all_goals exact ⟨_,rfl⟩
theorem r5 {sz by_:Nat} {ag:Bool} (h:cb P ns A dst op=some (.cZ sz by_ ag,args)):∃c,op=.call c:=by
 cases op<;>simp only [cb] at h
 all_goals (repeat' (split at h))
 all_goals (try (simp at h;done))
 all_goals exact ⟨_,rfl⟩
theorem tY {sz:Nat} {z:List PV} (h:cb P ns A dst op=some (.ib sz z,args)):∃c,op=.call c:=by
 cases op<;>simp only [cb] at h
 all_goals (repeat' (split at h))
 all_goals (try (simp at h;done))
 all_goals exact ⟨_,rfl⟩
theorem vR (h:cb P ns A dst op=some (.ko,args)):∃t,op=.makeMap t none∧args=[]:=by
 cases op<;>simp only [cb] at h
 case makeMap t r=>
   split at h
   · rename_i hr
     cases r with
     | none=>simp only [Option.some.injEq,Prod.mk.injEq,true_and] at h;exact ⟨_,rfl,h.symm⟩
     | some _=>simp at hr
   · simp at h
 all_goals (repeat' (split at h))
 all_goals (try (simp at h;done))
theorem vS {c:CK} {ok:Bool} {z:PV} (h:cb P ns A dst op=some (.iB c ok z,args)) :
   ∃t x i k e,op=.lookup t x i ok∧args=[x,i]∧P.underlying t=some (.map k e)∧gk P k=some c∧zeroOf P e=some z:=by
 cases op<;>simp only [cb] at h
 all_goals (repeat' (split at h))
 all_goals (try (simp at h;done))
 all_goals
   simp only [Option.some.injEq,Prod.mk.injEq,AK.iB.injEq] at h
   obtain ⟨⟨rfl,rfl,rfl⟩,rfl⟩:=h
   exact ⟨_,_,_,_,_,rfl,rfl,by assumption,by assumption,by assumption⟩
theorem yJ {c:CK} (h:cb P ns A dst op=some (.mM c,args)) :
   ∃t m i x k e,(op=.mapUpdate t m i x∨op=.insert t m i x)∧args=[m,i,x]∧P.underlying t=some (.map k e)∧gk P k=some c:=by
 cases op<;>simp only [cb] at h
 case mapUpdate t m i x=>
   split at h
   · rename_i k e hu
     simp only [Option.map_eq_some_iff,Prod.mk.injEq,AK.mM.injEq] at h
     obtain ⟨c',h1,rfl,rfl⟩:=h
     exact ⟨_,_,_,_,_,_,.inl rfl,rfl,hu,h1⟩
   · simp at h
 case insert t m i x=>
   split at h
   · rename_i k e hu
     simp only [Option.map_eq_some_iff,Prod.mk.injEq,AK.mM.injEq] at h
     obtain ⟨c',h1,rfl,rfl⟩:=h
     exact ⟨_,_,_,_,_,_,.inr rfl,rfl,hu,h1⟩
   · simp at h
 all_goals (repeat' (split at h))
 all_goals (try (simp at h;done))
theorem yK {k:AK} (hk:(match k with | .aA _ | .dG _ | .aL .. | .jn _ | .ff | .clone ..=>true | _=>false)=true) (h:cb P ns A dst op=some (k,args)):∃c,op=.call c:=by
 cases op<;>simp only [cb] at h
 all_goals (repeat' (split at h))
 all_goals (try (simp at h;done))
 all_goals (first | exact ⟨_,rfl⟩ | skip)
 all_goals (simp at h;first | (obtain ⟨rfl,_⟩:=h;simp at hk;done) | (obtain ⟨_,_,rfl,_⟩:=h;simp at hk;done))
end
section
variable {orc:eM} {vals:List AV} {cells:Option (List AV)} {sh:Sh} {ah:aM} {out:Out}
theorem gP {key off sz:Nat} {ag:Bool} (h:exec orc (.bl key off sz ag) vals cells sh ah=some out) :
   ∃cs x,vals=[.az key off]∧cells=some cs∧cf ag sz cs off=some x∧out=⟨x,none,sh,ah⟩:=by
 rcases vals with _ | ⟨v,_ | ⟨u,r⟩⟩
 · simp [exec] at h
 · cases v with
   | az d o=>
     simp only [exec,Option.ite_none_right_eq_some] at h
     obtain ⟨⟨rfl,rfl⟩,h⟩:=h
     cases cells with
     | none=>simp at h
     | some cs=>
       simp only [Option.map_eq_some_iff] at h
       obtain ⟨x,h1,rfl⟩:=h
       exact ⟨cs,x,rfl,rfl,h1,rfl⟩
   | _=>simp [exec] at h
 · cases v<;>simp [exec] at h
theorem gZ {key off sz:Nat} (h:exec orc (.dc key off sz) vals cells sh ah=some out) :
   ∃cs v,vals=[.az key off,v]∧cells=some cs∧(br v).length=sz∧(br v).all bm=true∧off+sz≤cs.length∧out=⟨.un,some (bA cs off (br v)),sh,ah⟩:=by
 rcases vals with _ | ⟨v,_ | ⟨u,_ | ⟨_,_⟩⟩⟩
 · simp [exec] at h
 · cases v<;>simp [exec] at h
 · cases v with
   | az d o=>
     simp only [exec,Option.ite_none_right_eq_some] at h
     obtain ⟨⟨rfl,rfl,h1,h2⟩,h⟩:=h
     cases cells with
     | none=>simp at h
     | some cs=>
       simp only [Option.ite_none_right_eq_some,Option.some.injEq] at h
       obtain ⟨h3,rfl⟩:=h
       exact ⟨cs,u,rfl,rfl,h1,h2,h3,rfl⟩
   | _=>simp [exec] at h
 · cases v<;>simp [exec] at h
theorem iM {key:Nat} {z:List PV} (h:exec orc (.alloc key z) vals cells sh ah=some out) :
   vals=[]∧cells=none∧out=⟨.az key 0,some (z.map bP.zeroCell),sh,ah⟩:=by
 cases vals with
 | nil=>cases cells with
   | none=>simp [exec] at h;exact ⟨rfl,rfl,h.symm⟩
   | some _=>simp [exec] at h
 | cons _ _=>simp [exec] at h
theorem kB {key sz:Nat} (h:exec orc (.box key sz) vals cells sh ah=some out) :
   ∃v,vals=[v]∧cells=none∧(br v).length=sz∧(br v).all bm=true∧out=⟨.az key 0,some (br v),sh,ah⟩:=by
 rcases vals with _ | ⟨v,_ | ⟨u,r⟩⟩
 · simp [exec] at h
 · cases cells with
   | none=>
     simp only [exec,Option.ite_none_right_eq_some,Option.some.injEq] at h
     obtain ⟨⟨h1,h2⟩,rfl⟩:=h
     exact ⟨v,rfl,rfl,h1,h2,rfl⟩
   | some _=>simp [exec] at h
 · simp [exec] at h
theorem l9 {sz:Nat} {ag:Bool} (h:exec orc (.a6 sz ag) vals cells sh ah=some out) :
   ∃p x,vals=[p]∧out=⟨x,none,sh,ah⟩∧((∃cs,p=.dz cs∧cS ag sz cs=some x)∨∃b off cs,p=.a_ b off∧sh[b]?=some (some cs)∧cR cs=false∧cf ag sz cs off=some x):=by
 rcases vals with _ | ⟨v,_ | ⟨u,r⟩⟩
 · simp [exec] at h
 · simp only [exec] at h
   split at h
   · rename_i cs
     simp only [Option.map_eq_some_iff] at h
     obtain ⟨x,h1,rfl⟩:=h
     exact ⟨_,x,rfl,rfl,.inl ⟨cs,rfl,h1⟩⟩
   · rename_i b off
     split at h
     · rename_i cs hcs
       split at h
       · cases h
       · rename_i hm
         simp only [Option.map_eq_some_iff] at h
         obtain ⟨x,h1,rfl⟩:=h
         exact ⟨_,x,rfl,rfl,.inr ⟨b,off,cs,rfl,hcs,by simpa using hm,h1⟩⟩
     · simp at h
   · simp at h
 · simp [exec] at h
theorem i_ {sz:Nat} (h:exec orc (.cz sz) vals cells sh ah=some out) :
   ∃b off v cs,vals=[.a_ b off,v]∧sh[b]?=some (some cs)∧cR cs=false∧(cp v).length=sz∧off+sz≤cs.length∧(cp v).all d_=true∧(cp v).all (aS (b+1))=true ∧
     out=⟨.un,none,sh.set b (some (bA cs off (cp v))),ah⟩:=by
 rcases vals with _ | ⟨v,_ | ⟨u,_ | ⟨_,_⟩⟩⟩
 · simp [exec] at h
 · cases v<;>simp [exec] at h
 · cases v with
   | a_ b off=>
     simp only [exec] at h
     split at h
     · rename_i cs hcs
       simp only [Option.ite_none_right_eq_some,Option.some.injEq] at h
       obtain ⟨⟨h0,h1,h2,h3,h4⟩,rfl⟩:=h
       exact ⟨b,off,u,cs,rfl,hcs,h0,h1,h2,h3,h4,rfl⟩
     · simp at h
   | _=>simp [exec] at h
 · cases v<;>simp [exec] at h
theorem lh {sz:Nat} (h:exec orc (.l4 sz) vals cells sh ah=some out) :
   ∃v,vals=[v]∧(cp v).length=sz∧(cp v).all d_=true∧(cp v).all (aS sh.length)=true∧out=⟨.a_ sh.length 0,none,sh++[some (cp v)],ah⟩:=by
 rcases vals with _ | ⟨v,_ | ⟨u,r⟩⟩
 · simp [exec] at h
 · simp only [exec,Option.ite_none_right_eq_some,Option.some.injEq] at h
   obtain ⟨⟨h1,h2,h3⟩,rfl⟩:=h
   exact ⟨v,rfl,h1,h2,h3,rfl⟩
 · simp [exec] at h
theorem ja {z:List PV} (h:exec orc (.ia z) vals cells sh ah=some out):vals=[]∧out=⟨.a_ sh.length 0,none,sh++[some (z.map bP.zeroCell)],ah⟩:=by
 cases vals with
 | nil=>simp [exec] at h;exact ⟨rfl,h.symm⟩
 | cons _ _=>simp [exec] at h
theorem jK {sz by_:Nat} {ag:Bool} {z:List PV} (h:exec orc (.jm sz by_ ag z) vals cells sh ah=some out) :
   ∃k k' n,vals=[.pv (.int k n),.pv (.int k' n)]∧0≤n∧n≤9223372036854775807∧n*by_≤140737488355328∧z.length=sz ∧
     out=⟨.bu sh.length sz n.toNat ag,none,sh++[some ((List.replicate n.toNat (z.map .pv)).flatten)],ah⟩:=by
 rcases vals with _ | ⟨v,_ | ⟨u,_ | ⟨_,_⟩⟩⟩
 · simp [exec] at h
 · simp [exec] at h
 · cases v with
   | pv p=>cases p with
     | int k n=>cases u with
       | pv q=>cases q with
         | int k' n'=>
           simp only [exec,Option.ite_none_right_eq_some,Option.some.injEq] at h
           obtain ⟨⟨rfl,h1,h2,h3,h4⟩,rfl⟩:=h
           exact ⟨k,k',n,rfl,h1,h2,h3,h4,rfl⟩
         | _=>simp [exec] at h
       | _=>simp [exec] at h
     | _=>simp [exec] at h
   | _=>simp [exec] at h
 · simp [exec] at h
theorem jL (h:exec orc .ko vals cells sh ah=some out):vals=[]∧out=⟨.cv sh.length,none,sh++[some [.du []]],ah⟩:=by
 cases vals with
 | nil=>simp [exec] at h;exact ⟨rfl,h.symm⟩
 | cons _ _=>simp [exec] at h
theorem iN {c:CK} {ok:Bool} {z:PV} (h:exec orc (.iB c ok z) vals cells sh ah=some out) :
   ∃s k kvs r,vals=[.cv s,.pv k]∧sh[s]?=some (some [.du kvs])∧ic c kvs k=some r∧out=⟨il ok z r,none,sh,ah⟩:=by
 rcases vals with _ | ⟨v,_ | ⟨u,_ | ⟨_,_⟩⟩⟩
 · simp [exec] at h
 · simp [exec] at h
 · simp only [exec] at h
   split at h
   · rename_i s k
     split at h
     · rename_i kvs hs
       simp only [Option.map_eq_some_iff] at h
       obtain ⟨r,h1,rfl⟩:=h
       exact ⟨s,k,kvs,r,rfl,hs,h1,rfl⟩
     · cases h
   · cases h
 · simp [exec] at h
theorem lj {c:CK} (h:exec orc (.mM c) vals cells sh ah=some out) :
   ∃s k v kvs p kvs',vals=[.cv s,.pv k,v]∧sh[s]?=some (some [.du kvs])∧c_ [] v=some p∧iV c kvs k p=some kvs'∧out=⟨.un,none,sh.set s (some [.du kvs']),ah⟩:=by
 rcases vals with _ | ⟨v,_ | ⟨u,_ | ⟨t,_ | ⟨_,_⟩⟩⟩⟩
 · simp [exec] at h
 · simp [exec] at h
 · simp [exec] at h
 · simp only [exec] at h
   split at h
   · rename_i s k
     split at h
     · rename_i kvs p hs hp
       simp only [Option.map_eq_some_iff] at h
       obtain ⟨r,h1,rfl⟩:=h
       exact ⟨s,k,t,kvs,p,r,rfl,hs,hp,h1,rfl⟩
     · cases h
   · cases h
 · simp [exec] at h
theorem l_ {sz by_:Nat} (h:exec orc (.clone sz by_) vals cells sh ah=some out) :
   ∃x y ts,vals=[x]∧cq sz by_ (.bD []) x ah=some (y,ts)∧out=⟨y,none,sh,ts⟩:=by
 rcases vals with _ | ⟨v,_ | ⟨_,_⟩⟩
 · simp [exec] at h
 · simp only [exec,Option.map_eq_some_iff] at h
   obtain ⟨⟨y,ts⟩,h1,rfl⟩:=h
   exact ⟨v,y,ts,rfl,h1,rfl⟩
 · simp [exec] at h
theorem jb {sz by_:Nat} (h:exec orc (.append sz by_) vals cells sh ah=some out) :
   ∃s x y ts,vals=[s,x]∧cq sz by_ s x ah=some (y,ts)∧out=⟨y,none,sh,ts⟩:=by
 rcases vals with _ | ⟨v,_ | ⟨u,_ | ⟨_,_⟩⟩⟩
 · simp [exec] at h
 · simp [exec] at h
 · simp only [exec,Option.map_eq_some_iff] at h
   obtain ⟨⟨y,ts⟩,h1,rfl⟩:=h
   exact ⟨v,u,y,ts,rfl,h1,rfl⟩
 · simp [exec] at h
theorem o5 {sz:Nat} {z:List PV} (h:exec orc (.ib sz z) vals cells sh ah=some out) :
   ∃x sh',vals=[x]∧qh sz z sh (vq sz x)=some sh'∧out=⟨.lL [],none,sh',ah⟩:=by
 rcases vals with _ | ⟨v,_ | ⟨u,_⟩⟩
 · simp [exec] at h
 · simp only [exec,Option.map_eq_some_iff] at h
   obtain ⟨sh',h1,rfl⟩:=h
   exact ⟨v,sh',rfl,h1,rfl⟩
 · simp [exec] at h
theorem jM {sz by_:Nat} {ag:Bool} (h:exec orc (.cZ sz by_ ag) vals cells sh ah=some out) :
   ∃s x xs y sh',vals=[s,x]∧dY x=some xs∧bI sz xs=true∧qi sz by_ ag s xs sh ah=some (y,sh')∧out=⟨y,none,sh',ah⟩:=by
 rcases vals with _ | ⟨v,_ | ⟨u,_ | ⟨_,_⟩⟩⟩
 · simp [exec] at h
 · simp [exec] at h
 · simp only [exec] at h
   split at h
   · rename_i xs hxs
     simp only [Option.ite_none_right_eq_some,Option.map_eq_some_iff] at h
     obtain ⟨h0,⟨y,sh'⟩,h1,rfl⟩:=h
     exact ⟨v,u,xs,y,sh',rfl,hxs,h0,h1,rfl⟩
   · simp at h
 · simp [exec] at h
end
end Go.Ab
