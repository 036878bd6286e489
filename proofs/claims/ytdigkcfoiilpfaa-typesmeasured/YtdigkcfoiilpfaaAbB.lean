import Derived.Test.YtdigkcfoiilpfaaAbA
import Derived.Orders
import Derived.Tactics
import Derived.OrdersIn
import Derived.TacticsIn
import Derived.LoopNIn
import Derived.RangeFuncCalls
/-
  What an operation HE compiled from, and what its run looked at.
  Each operation that calls nothing.
  Calls: the contracts of the callees, and what they Cm the caller.
  Shared arrays that are frozen: from then on they are known for IH.
  Forgetting what is no longer wanted; tokens named anew at the head of a loop.
  Tokens named anew.
  Handing over to a callee and taking back.
  One operation of a region: what the evaluator gives is what the model does.
  A region: in the order of the text, and in whatever order the tape picks.
  A region that draws its order: whatever order is picked, the end is that of the text's order.
  Two operations that have nothing to do with one another may change places; so the order of the text serves every order.
  Operations and regions inside the fence that asks nothing, in a round of a range over a function or not.
  Without fuel: the limit of the evaluator.
-/
set_option linter.unusedVariables false
set_option linter.unusedSimpArgs false
set_option linter.unnecessarySimpa false
set_option maxRecDepth 100000
set_option maxHeartbeats 8000000
namespace Go.Ab
section
variable {P:Program} {ns:Names} {A:gm} {dst:Option Nat} {op:Op} {args:List Operand}
theorem sJ {k o sz:Nat} {ag:Bool} (h:aU P ns A dst op=some (.cq k o sz ag,args)) :
   ∃t tx,op=.load t (.tmp tx)∧args=[.tmp tx]∧bw P t=some sz∧eD P t=some ag:=by
 cases op<;>simp only [aU] at h
 all_goals (repeat' (split at h))
 all_goals (try (simp at h;done))
 all_goals
   simp only [Option.some.injEq,Prod.mk.injEq,AK.cq.injEq] at h
   obtain ⟨⟨rfl,rfl,rfl,rfl⟩,rfl⟩:=h
   exact ⟨_,_,rfl,rfl,by assumption,by assumption⟩
theorem sK {sz:Nat} {ag:Bool} (h:aU P ns A dst op=some (.dt sz ag,args)) :
   ∃t tx,op=.load t (.tmp tx)∧args=[.tmp tx]∧bw P t=some sz∧eD P t=some ag:=by
 cases op<;>simp only [aU] at h
 all_goals (repeat' (split at h))
 all_goals (try (simp at h;done))
 all_goals
   simp only [Option.some.injEq,Prod.mk.injEq,AK.dt.injEq] at h
   obtain ⟨⟨rfl,rfl⟩,rfl⟩:=h
   exact ⟨_,_,rfl,rfl,by assumption,by assumption⟩
theorem qU {k o sz:Nat} (h:aU P ns A dst op=some (.bC k o sz,args)) :
   ∃t tx v,op=.store t (.tmp tx) v∧args=[.tmp tx,v]∧bw P t=some sz:=by
 cases op<;>simp only [aU] at h
 all_goals (repeat' (split at h))
 all_goals (try (simp at h;done))
 all_goals
   simp only [Option.some.injEq,Prod.mk.injEq,AK.bC.injEq] at h
   obtain ⟨⟨rfl,rfl,rfl⟩,rfl⟩:=h
   exact ⟨_,_,_,rfl,rfl,by assumption⟩
theorem kN {sz:Nat} (h:aU P ns A dst op=some (.df sz,args)) :
   ∃t tx v,op=.store t (.tmp tx) v∧args=[.tmp tx,v]∧bw P t=some sz:=by
 cases op<;>simp only [aU] at h
 all_goals (repeat' (split at h))
 all_goals (try (simp at h;done))
 all_goals
   simp only [Option.some.injEq,Prod.mk.injEq,AK.df.injEq] at h
   obtain ⟨rfl,rfl⟩:=h
   exact ⟨_,_,_,rfl,rfl,by assumption⟩
theorem qV {sz:Nat} (h:aU P ns A dst op=some (.iC sz,args)) :
   ∃t tx v,op=.store t (.tmp tx) v∧args=[.tmp tx,v]∧bw P t=some sz:=by
 cases op<;>simp only [aU] at h
 all_goals (repeat' (split at h))
 all_goals (try (simp at h;done))
 all_goals
   simp only [Option.some.injEq,Prod.mk.injEq,AK.iC.injEq] at h
   obtain ⟨rfl,rfl⟩:=h
   exact ⟨_,_,_,rfl,rfl,by assumption⟩
theorem sL {k:Nat} {z:List PV} (h:aU P ns A dst op=some (.alloc k z,args)) :
   ∃t,op=.alloc t∧args=[]∧bn P t=some z∧dst=some k:=by
 cases op<;>simp only [aU] at h
 all_goals (repeat' (split at h))
 all_goals (try (simp at h;done))
 all_goals
   simp only [Option.some.injEq,Prod.mk.injEq,AK.alloc.injEq] at h
   obtain ⟨⟨rfl,rfl⟩,rfl⟩:=h
   exact ⟨_,rfl,rfl,by assumption,rfl⟩
theorem qW {z:List PV} (h:aU P ns A dst op=some (.gn z,args)) :
   ∃t,op=.alloc t∧args=[]∧bn P t=some z:=by
 cases op<;>simp only [aU] at h
 all_goals (repeat' (split at h))
 all_goals (try (simp at h;done))
 all_goals
   simp only [Option.some.injEq,Prod.mk.injEq,AK.gn.injEq] at h
   obtain ⟨rfl,rfl⟩:=h
   exact ⟨_,rfl,rfl,by assumption⟩
theorem zg {k sz:Nat} (h:aU P ns A dst op=some (.box k sz,args)) :
   ∃t x,op=.box t x∧args=[x]∧bw P t=some sz∧dst=some k:=by
 cases op<;>simp only [aU] at h
 all_goals (repeat' (split at h))
 all_goals (try (simp at h;done))
 all_goals
   simp only [Option.some.injEq,Prod.mk.injEq,AK.box.injEq] at h
   obtain ⟨⟨rfl,rfl⟩,rfl⟩:=h
   exact ⟨_,_,rfl,rfl,by assumption,rfl⟩
theorem vg {sz:Nat} (h:aU P ns A dst op=some (.kA sz,args)) :
   ∃t x,op=.box t x∧args=[x]∧bw P t=some sz:=by
 cases op<;>simp only [aU] at h
 all_goals (repeat' (split at h))
 all_goals (try (simp at h;done))
 all_goals
   simp only [Option.some.injEq,Prod.mk.injEq,AK.kA.injEq] at h
   obtain ⟨rfl,rfl⟩:=h
   exact ⟨_,_,rfl,rfl,by assumption⟩
theorem vh {sz:Nat} (h:aU P ns A dst op=some (.ph sz,args)) :
   ∃t x,op=.box t x∧args=[x]∧bw P t=some sz:=by
 cases op<;>simp only [aU] at h
 all_goals (repeat' (split at h))
 all_goals (try (simp at h;done))
 all_goals
   simp only [Option.some.injEq,Prod.mk.injEq,AK.ph.injEq] at h
   obtain ⟨rfl,rfl⟩:=h
   exact ⟨_,_,rfl,rfl,by assumption⟩
theorem nH {k:AK} (h:aU P ns A dst op=some (k,args)) (hk:(∃sz by_ ag z,k=.i_ sz by_ ag z)∨∃d sz by_ z,k=.fW d sz by_ z) :
   ∃t e l c sz by_ ag z,op=.makeSlice t l c∧args=[l,c]∧P.underlying t=some (.slice e)∧bw P e=some sz∧cN P e=some by_∧bn P e=some z∧z.length=sz∧0<sz ∧
     (k=.i_ sz by_ ag z∨∃d,dst=some d∧k=.fW d sz by_ z):=by
 have hno:∀{o:ED},k≠.v o:=by rintro o rfl;rcases hk with ⟨_,_,_,_,e⟩ | ⟨_,_,_,_,e⟩<;>cases e
 cases op with
 | makeSlice t l c=>
   simp only [aU] at h
   split at h
   · rename_i e he
     split at h
     · rename_i sz by_ ag z h1 h2 h3 h4
       rw [Option.ite_none_right_eq_some] at h
       obtain ⟨⟨h5,h6⟩,h⟩:=h
       split at h
       · rename_i k' d hd
         rw [Option.ite_none_right_eq_some] at h
         obtain ⟨_,h⟩:=h
         simp only [Option.some.injEq,Prod.mk.injEq] at h
         exact ⟨t,e,l,c,sz,by_,ag,z,rfl,h.2.symm,ca he,h1,h2,h4,h5,h6,.inr ⟨d,rfl,h.1.symm⟩⟩
       · simp at h
       · simp only [Option.some.injEq,Prod.mk.injEq] at h
         exact ⟨t,e,l,c,sz,by_,ag,z,rfl,h.2.symm,ca he,h1,h2,h4,h5,h6,.inl h.1.symm⟩
     · simp at h
   · simp at h
 | _=>
   exfalso
   simp only [aU] at h
   (repeat' (split at h))
   all_goals (try (simp at h;done))
   all_goals (try simp only [Option.some.injEq,Prod.mk.injEq,Option.map_eq_some_iff,Option.ite_none_right_eq_some] at h)
   all_goals (rcases hk with ⟨_,_,_,_,rfl⟩ | ⟨_,_,_,_,rfl⟩<;>simp at h)
theorem sM {sz by_:Nat} {ag:Bool} {z:List PV} (h:aU P ns A dst op=some (.i_ sz by_ ag z,args)) :
   ∃t e l c,op=.makeSlice t l c∧args=[l,c]∧P.underlying t=some (.slice e)∧bw P e=some sz∧cN P e=some by_∧bn P e=some z∧z.length=sz∧0<sz:=by
 obtain ⟨t,e,l,c,sz',by',ag',z',h1,h2,h3,h4,h5,h6,h7,h8,h9⟩:=nH h (.inl ⟨_,_,_,_,rfl⟩)
 rcases h9 with h9 | ⟨d,_,h9⟩<;>cases h9
 exact ⟨t,e,l,c,h1,h2,h3,h4,h5,h6,h7,h8⟩
theorem sN {d sz by_:Nat} {z:List PV} (h:aU P ns A dst op=some (.fW d sz by_ z,args)) :
   ∃t e l c,op=.makeSlice t l c∧args=[l,c]∧P.underlying t=some (.slice e)∧bw P e=some sz∧cN P e=some by_∧bn P e=some z∧z.length=sz∧0<sz∧dst=some d:=by
 obtain ⟨t,e,l,c,sz',by',ag',z',h1,h2,h3,h4,h5,h6,h7,h8,h9⟩:=nH h (.inr ⟨_,_,_,_,rfl⟩)
 rcases h9 with h9 | ⟨d',h0,h9⟩<;>cases h9
 exact ⟨t,e,l,c,h1,h2,h3,h4,h5,h6,h7,h8,h0⟩
theorem kO {sz by_:Nat} (h:aU P ns A dst op=some (.append sz by_,args)):∃c,op=.call c:=by
 cases op<;>simp only [aU] at h
 all_goals (repeat' (split at h))
 all_goals (try (simp at h;done))
 all_goals exact ⟨_,rfl⟩
theorem pA {sz by_:Nat} {ag:Bool} (h:aU P ns A dst op=some (.dw sz by_ ag,args)):∃c,op=.call c:=by
 cases op<;>simp only [aU] at h
 all_goals (repeat' (split at h))
 all_goals (try (simp at h;done))
 all_goals exact ⟨_,rfl⟩
theorem pB {sz by_:Nat} (h:aU P ns A dst op=some (.ek sz by_,args)):∃c,op=.call c:=by
 cases op<;>simp only [aU] at h
 all_goals (repeat' (split at h))
 all_goals (try (simp at h;done))
 all_goals exact ⟨_,rfl⟩
theorem sO {sz:Nat} (h:aU P ns A dst op=some (.ja sz,args)):∃c,op=.call c:=by
 cases op<;>simp only [aU] at h
 all_goals (repeat' (split at h))
 all_goals (try (simp at h;done))
 all_goals exact ⟨_,rfl⟩
theorem qX {sz:Nat} {z:List PV} (h:aU P ns A dst op=some (.gp sz z,args)):∃c,op=.call c:=by
 cases op<;>simp only [aU] at h
 all_goals (repeat' (split at h))
 all_goals (try (simp at h;done))
 all_goals exact ⟨_,rfl⟩
theorem sP (h:aU P ns A dst op=some (.kB,args)):∃t,op=.makeMap t none∧args=[]:=by
 cases op<;>simp only [aU] at h
 case makeMap t r=>
   split at h
   · rename_i hr
     cases r with
     | none=>simp only [Option.some.injEq,Prod.mk.injEq,true_and] at h;exact ⟨_,rfl,h.symm⟩
     | some _=>simp at hr
   · simp at h
 all_goals (repeat' (split at h))
 all_goals (try (simp at h;done))
theorem sQ {c:CK} {ok:Bool} {z:PV} (h:aU P ns A dst op=some (.ij c ok z,args)) :
   ∃t x i k e,op=.lookup t x i ok∧args=[x,i]∧P.underlying t=some (.map k e)∧eP P k=some c∧zeroOf P e=some z:=by
 cases op<;>simp only [aU] at h
 all_goals (repeat' (split at h))
 all_goals (try (simp at h;done))
 all_goals
   simp only [Option.some.injEq,Prod.mk.injEq,AK.ij.injEq] at h
   obtain ⟨⟨rfl,rfl,rfl⟩,rfl⟩:=h
   exact ⟨_,_,_,_,_,rfl,rfl,by assumption,by assumption,by assumption⟩
theorem vi {c:CK} (h:aU P ns A dst op=some (.nf c,args)) :
   ∃t m i x k e,(op=.mapUpdate t m i x∨op=.insert t m i x)∧args=[m,i,x]∧P.underlying t=some (.map k e)∧eP P k=some c:=by
 cases op<;>simp only [aU] at h
 case mapUpdate t m i x=>
   split at h
   · rename_i k e hu
     simp only [Option.map_eq_some_iff,Prod.mk.injEq,AK.nf.injEq] at h
     obtain ⟨c',h1,rfl,rfl⟩:=h
     exact ⟨_,_,_,_,_,_,.inl rfl,rfl,hu,h1⟩
   · simp at h
 case insert t m i x=>
   split at h
   · rename_i k e hu
     simp only [Option.map_eq_some_iff,Prod.mk.injEq,AK.nf.injEq] at h
     obtain ⟨c',h1,rfl,rfl⟩:=h
     exact ⟨_,_,_,_,_,_,.inr rfl,rfl,hu,h1⟩
   · simp at h
 all_goals (repeat' (split at h))
 all_goals (try (simp at h;done))
theorem vj {k:AK} (hk:(match k with | .aN _ | .gq _ | .bJ .. | .ik _ | .fC | .dN | .clone .. | .iD ..=>true | _=>false)=true) (h:aU P ns A dst op=some (k,args)):∃c,op=.call c:=by
 cases op<;>simp only [aU] at h
 all_goals (repeat' (split at h))
 all_goals (try (simp at h;done))
 all_goals (first | exact ⟨_,rfl⟩ | skip)
 all_goals (simp at h;first | (obtain ⟨rfl,_⟩:=h;simp at hk;done) | (obtain ⟨_,_,rfl,_⟩:=h;simp at hk;done))
end
section
variable {orc:dh} {vals:List AV} {cells:Option (List AV)} {sh:Sh} {aa:al} {out:Out}
theorem fl {key off sz:Nat} {ag:Bool} (h:exec orc (.cq key off sz ag) vals cells sh aa=some out) :
   ∃cs x,vals=[.bg key off]∧cells=some cs∧bz ag sz cs off=some x∧out=⟨x,none,sh,aa⟩:=by
 rcases vals with _ | ⟨v,_ | ⟨u,r⟩⟩
 · simp [exec] at h
 · cases v with
   | bg d o=>
     simp only [exec,Option.ite_none_right_eq_some] at h
     obtain ⟨⟨rfl,rfl⟩,h⟩:=h
     cases cells with
     | none=>simp at h
     | some cs=>
       simp only [Option.map_eq_some_iff] at h
       obtain ⟨x,h1,rfl⟩:=h
       exact ⟨cs,x,rfl,rfl,h1,rfl⟩
   | _=>simp [exec] at h
 · cases v<;>simp [exec] at h
theorem fF {key off sz:Nat} (h:exec orc (.bC key off sz) vals cells sh aa=some out) :
   ∃cs v,vals=[.bg key off,v]∧cells=some cs∧(aE v).length=sz∧(aE v).all aJ=true∧off+sz≤cs.length∧out=⟨.un,some (aM cs off (aE v)),sh,aa⟩:=by
 rcases vals with _ | ⟨v,_ | ⟨u,_ | ⟨_,_⟩⟩⟩
 · simp [exec] at h
 · cases v<;>simp [exec] at h
 · cases v with
   | bg d o=>
     simp only [exec,Option.ite_none_right_eq_some] at h
     obtain ⟨⟨rfl,rfl,h1,h2⟩,h⟩:=h
     cases cells with
     | none=>simp at h
     | some cs=>
       simp only [Option.ite_none_right_eq_some,Option.some.injEq] at h
       obtain ⟨h3,rfl⟩:=h
       exact ⟨cs,u,rfl,rfl,h1,h2,h3,rfl⟩
   | _=>simp [exec] at h
 · cases v<;>simp [exec] at h
theorem gH {key:Nat} {z:List PV} (h:exec orc (.alloc key z) vals cells sh aa=some out) :
   vals=[]∧cells=none∧out=⟨.bg key 0,some (z.map a6.zeroCell),sh,aa⟩:=by
 cases vals with
 | nil=>cases cells with
   | none=>simp [exec] at h;exact ⟨rfl,rfl,h.symm⟩
   | some _=>simp [exec] at h
 | cons _ _=>simp [exec] at h
theorem jz {key sz:Nat} (h:exec orc (.box key sz) vals cells sh aa=some out) :
   ∃v,vals=[v]∧cells=none∧(aE v).length=sz∧(aE v).all aJ=true∧out=⟨.bg key 0,some (aE v),sh,aa⟩:=by
 rcases vals with _ | ⟨v,_ | ⟨u,r⟩⟩
 · simp [exec] at h
 · cases cells with
   | none=>
     simp only [exec,Option.ite_none_right_eq_some,Option.some.injEq] at h
     obtain ⟨⟨h1,h2⟩,rfl⟩:=h
     exact ⟨v,rfl,rfl,h1,h2,rfl⟩
   | some _=>simp [exec] at h
 · simp [exec] at h
theorem gI {sz:Nat} {ag:Bool} (h:exec orc (.dt sz ag) vals cells sh aa=some out) :
   ∃p x,vals=[p]∧out=⟨x,none,sh,aa⟩∧((∃cs,p=.cS cs∧bQ ag sz cs=some x)∨∃b off cs,p=.aO b off∧sh[b]?=some (some cs)∧cK cs=false∧bz ag sz cs off=some x):=by
 rcases vals with _ | ⟨v,_ | ⟨u,r⟩⟩
 · simp [exec] at h
 · simp only [exec] at h
   split at h
   · rename_i cs
     simp only [Option.map_eq_some_iff] at h
     obtain ⟨x,h1,rfl⟩:=h
     exact ⟨_,x,rfl,rfl,.inl ⟨cs,rfl,h1⟩⟩
   · rename_i b off
     split at h
     · rename_i cs hcs
       split at h
       · cases h
       · rename_i hm
         simp only [Option.map_eq_some_iff] at h
         obtain ⟨x,h1,rfl⟩:=h
         exact ⟨_,x,rfl,rfl,.inr ⟨b,off,cs,rfl,hcs,by simpa using hm,h1⟩⟩
     · simp at h
   · simp at h
 · simp [exec] at h
theorem eJ {sz:Nat} (h:exec orc (.df sz) vals cells sh aa=some out) :
   ∃b off v cs,vals=[.aO b off,v]∧sh[b]?=some (some cs)∧cK cs=false∧(bA v).length=sz∧off+sz≤cs.length∧(bA v).all bO=true∧(bA v).all (au (b+1))=true ∧
     out=⟨.un,none,sh.set b (some (aM cs off (bA v))),aa⟩:=by
 rcases vals with _ | ⟨v,_ | ⟨u,_ | ⟨_,_⟩⟩⟩
 · simp [exec] at h
 · cases v<;>simp [exec] at h
 · cases v with
   | aO b off=>
     simp only [exec] at h
     split at h
     · rename_i cs hcs
       simp only [Option.ite_none_right_eq_some,Option.some.injEq] at h
       obtain ⟨⟨h0,h1,h2,h3,h4⟩,rfl⟩:=h
       exact ⟨b,off,u,cs,rfl,hcs,h0,h1,h2,h3,h4,rfl⟩
     · simp at h
   | _=>simp [exec] at h
 · cases v<;>simp [exec] at h
theorem g_ {sz:Nat} (h:exec orc (.iC sz) vals cells sh aa=some out) :
   ∃b off v cs,vals=[.aO b off,v]∧sh[b]?=some (some cs)∧cK cs=false∧(aE v).length=sz∧off+sz≤cs.length∧(aE v).all bO=true∧(aE v).all (au (b+1))=true ∧
     out=⟨.un,none,sh.set b (some (aM cs off (aE v))),aa⟩:=by
 rcases vals with _ | ⟨v,_ | ⟨u,_ | ⟨_,_⟩⟩⟩
 · simp [exec] at h
 · cases v<;>simp [exec] at h
 · cases v with
   | aO b off=>
     simp only [exec] at h
     split at h
     · rename_i cs hcs
       simp only [Option.ite_none_right_eq_some,Option.some.injEq] at h
       obtain ⟨⟨h0,h1,h2,h3,h4⟩,rfl⟩:=h
       exact ⟨b,off,u,cs,rfl,hcs,h0,h1,h2,h3,h4,rfl⟩
     · simp at h
   | _=>simp [exec] at h
 · cases v<;>simp [exec] at h
theorem jM {sz:Nat} (h:exec orc (.kA sz) vals cells sh aa=some out) :
   ∃v,vals=[v]∧(bA v).length=sz∧(bA v).all bO=true∧(bA v).all (au sh.length)=true∧out=⟨.aO sh.length 0,none,sh++[some (bA v)],aa⟩:=by
 rcases vals with _ | ⟨v,_ | ⟨u,r⟩⟩
 · simp [exec] at h
 · simp only [exec,Option.ite_none_right_eq_some,Option.some.injEq] at h
   obtain ⟨⟨h1,h2,h3⟩,rfl⟩:=h
   exact ⟨v,rfl,h1,h2,h3,rfl⟩
 · simp [exec] at h
theorem jN {sz:Nat} (h:exec orc (.ph sz) vals cells sh aa=some out) :
   ∃v,vals=[v]∧(aE v).length=sz∧(aE v).all bO=true∧(aE v).all (au sh.length)=true∧out=⟨.aO sh.length 0,none,sh++[some (aE v)],aa⟩:=by
 rcases vals with _ | ⟨v,_ | ⟨u,r⟩⟩
 · simp [exec] at h
 · simp only [exec,Option.ite_none_right_eq_some,Option.some.injEq] at h
   obtain ⟨⟨h1,h2,h3⟩,rfl⟩:=h
   exact ⟨v,rfl,h1,h2,h3,rfl⟩
 · simp [exec] at h
theorem hG {z:List PV} (h:exec orc (.gn z) vals cells sh aa=some out):vals=[]∧out=⟨.aO sh.length 0,none,sh++[some (z.map a6.zeroCell)],aa⟩:=by
 cases vals with
 | nil=>simp [exec] at h;exact ⟨rfl,h.symm⟩
 | cons _ _=>simp [exec] at h
theorem iJ {sz by_:Nat} {ag:Bool} {z:List PV} (h:exec orc (.i_ sz by_ ag z) vals cells sh aa=some out) :
   ∃k k' n,vals=[.pv (.int k n),.pv (.int k' n)]∧0≤n∧n≤9223372036854775807∧n*by_≤140737488355328∧z.length=sz ∧
     out=⟨.aY sh.length sz n.toNat ag,none,sh++[some ((List.replicate n.toNat (z.map .pv)).flatten)],aa⟩:=by
 rcases vals with _ | ⟨v,_ | ⟨u,_ | ⟨_,_⟩⟩⟩
 · simp [exec] at h
 · simp [exec] at h
 · cases v with
   | pv p=>cases p with
     | int k n=>cases u with
       | pv q=>cases q with
         | int k' n'=>
           simp only [exec,Option.ite_none_right_eq_some,Option.some.injEq] at h
           obtain ⟨⟨rfl,h1,h2,h3,h4⟩,rfl⟩:=h
           exact ⟨k,k',n,rfl,h1,h2,h3,h4,rfl⟩
         | _=>simp [exec] at h
       | _=>simp [exec] at h
     | _=>simp [exec] at h
   | _=>simp [exec] at h
 · simp [exec] at h
theorem gJ {d sz by_:Nat} {z:List PV} (h:exec orc (.fW d sz by_ z) vals cells sh aa=some out) :
   ∃k k' n,vals=[.pv (.int k n),.pv (.int k' n)]∧0≤n∧n≤9223372036854775807∧n*by_≤140737488355328∧z.length=sz∧cells=none ∧
     out=⟨.gR d n.toNat,some ((List.replicate n.toNat (z.map .pv)).flatten),sh,aa⟩:=by
 rcases vals with _ | ⟨v,_ | ⟨u,_ | ⟨_,_⟩⟩⟩
 · simp [exec] at h
 · simp [exec] at h
 · cases v with
   | pv p=>cases p with
     | int k n=>cases u with
       | pv q=>cases q with
         | int k' n'=>
           cases cells with
           | some _=>simp [exec] at h
           | none=>
           simp only [exec,Option.ite_none_right_eq_some,Option.some.injEq] at h
           obtain ⟨⟨rfl,h1,h2,h3,h4⟩,rfl⟩:=h
           exact ⟨k,k',n,rfl,h1,h2,h3,h4,rfl,rfl⟩
         | _=>simp [exec] at h
       | _=>simp [exec] at h
     | _=>simp [exec] at h
   | _=>simp [exec] at h
 · simp [exec] at h
theorem iK (h:exec orc .kB vals cells sh aa=some out):vals=[]∧out=⟨.d_ sh.length,none,sh++[some [.cT []]],aa⟩:=by
 cases vals with
 | nil=>simp [exec] at h;exact ⟨rfl,h.symm⟩
 | cons _ _=>simp [exec] at h
theorem gK {c:CK} {ok:Bool} {z:PV} (h:exec orc (.ij c ok z) vals cells sh aa=some out) :
   ∃s k kvs r,vals=[.d_ s,.pv k]∧sh[s]?=some (some [.cT kvs])∧h_ c kvs k=some r∧out=⟨fY ok z r,none,sh,aa⟩:=by
 rcases vals with _ | ⟨v,_ | ⟨u,_ | ⟨_,_⟩⟩⟩
 · simp [exec] at h
 · simp [exec] at h
 · simp only [exec] at h
   split at h
   · rename_i s k
     split at h
     · rename_i kvs hs
       simp only [Option.map_eq_some_iff] at h
       obtain ⟨r,h1,rfl⟩:=h
       exact ⟨s,k,kvs,r,rfl,hs,h1,rfl⟩
     · cases h
   · cases h
 · simp [exec] at h
theorem jO {c:CK} (h:exec orc (.nf c) vals cells sh aa=some out) :
   ∃s k v kvs p kvs',vals=[.d_ s,.pv k,v]∧sh[s]?=some (some [.cT kvs])∧gQ [] v=some p∧jm c kvs k p=some kvs'∧out=⟨.un,none,sh.set s (some [.cT kvs']),aa⟩:=by
 rcases vals with _ | ⟨v,_ | ⟨u,_ | ⟨t,_ | ⟨_,_⟩⟩⟩⟩
 · simp [exec] at h
 · simp [exec] at h
 · simp [exec] at h
 · simp only [exec] at h
   split at h
   · rename_i s k
     split at h
     · rename_i kvs p hs hp
       simp only [Option.map_eq_some_iff] at h
       obtain ⟨r,h1,rfl⟩:=h
       exact ⟨s,k,t,kvs,p,r,rfl,hs,hp,h1,rfl⟩
     · cases h
   · cases h
 · simp [exec] at h
theorem kf {sz by_:Nat} (h:exec orc (.clone sz by_) vals cells sh aa=some out) :
   ∃x y ts,vals=[x]∧aS sz by_ (.cz []) x aa=some (y,ts)∧out=⟨y,none,sh,ts⟩:=by
 rcases vals with _ | ⟨v,_ | ⟨_,_⟩⟩
 · simp [exec] at h
 · simp only [exec,Option.map_eq_some_iff] at h
   obtain ⟨⟨y,ts⟩,h1,rfl⟩:=h
   exact ⟨v,y,ts,rfl,h1,rfl⟩
 · simp [exec] at h
theorem hH {sz by_:Nat} (h:exec orc (.append sz by_) vals cells sh aa=some out) :
   ∃s x y ts,vals=[s,x]∧aS sz by_ s x aa=some (y,ts)∧out=⟨y,none,sh,ts⟩:=by
 rcases vals with _ | ⟨v,_ | ⟨u,_ | ⟨_,_⟩⟩⟩
 · simp [exec] at h
 · simp [exec] at h
 · simp only [exec,Option.map_eq_some_iff] at h
   obtain ⟨⟨y,ts⟩,h1,rfl⟩:=h
   exact ⟨v,u,y,ts,rfl,h1,rfl⟩
 · simp [exec] at h
theorem gg {sz by_:Nat} (h:exec orc (.ek sz by_) vals cells sh aa=some out) :
   ∃s x e xs p,vals=[s,x,e]∧bF x=some xs∧sd sz by_ xs s e aa=some p∧out=⟨.pv p,none,sh,aa⟩:=by
 rcases vals with _ | ⟨v,_ | ⟨u,_ | ⟨e,_ | ⟨_,_⟩⟩⟩⟩
 · simp [exec] at h
 · simp [exec] at h
 · simp [exec] at h
 · simp only [exec] at h
   cases hx:bF u with
   | none=>rw [hx] at h;simp at h
   | some xs=>
     rw [hx] at h
     simp only [Option.map_eq_some_iff] at h
     obtain ⟨p,h1,rfl⟩:=h
     exact ⟨v,u,e,xs,p,rfl,hx,h1,rfl⟩
 · simp [exec] at h
theorem iL {sz:Nat} (h:exec orc (.ja sz) vals cells sh aa=some out) :
   ∃x y xs k sh',vals=[x,y]∧bF y=some xs∧nj sz sh xs x=some (k,sh')∧out=⟨.pv (.int .i64 (k:Int)),none,sh',aa⟩:=by
 rcases vals with _ | ⟨v,_ | ⟨u,_ | ⟨_,_⟩⟩⟩
 · simp [exec] at h
 · simp [exec] at h
 · simp only [exec] at h
   cases hx:bF u with
   | none=>rw [hx] at h;simp at h
   | some xs=>
     rw [hx] at h
     simp only [Option.map_eq_some_iff] at h
     obtain ⟨⟨k,sh'⟩,h1,rfl⟩:=h
     exact ⟨v,u,xs,k,sh',rfl,hx,h1,rfl⟩
 · simp [exec] at h
theorem mg {sz:Nat} {z:List PV} (h:exec orc (.gp sz z) vals cells sh aa=some out) :
   ∃x sh',vals=[x]∧ni sz z sh (r_ sz x)=some sh'∧out=⟨.lr [],none,sh',aa⟩:=by
 rcases vals with _ | ⟨v,_ | ⟨u,_⟩⟩
 · simp [exec] at h
 · simp only [exec,Option.map_eq_some_iff] at h
   obtain ⟨sh',h1,rfl⟩:=h
   exact ⟨v,sh',rfl,h1,rfl⟩
 · simp [exec] at h
theorem iM {sz by_:Nat} {ag:Bool} (h:exec orc (.dw sz by_ ag) vals cells sh aa=some out) :
   ∃s x xs y sh',vals=[s,x]∧bF x=some xs∧aQ sz xs=true∧pj sz by_ ag s xs sh aa=some (y,sh')∧out=⟨y,none,sh',aa⟩:=by
 rcases vals with _ | ⟨v,_ | ⟨u,_ | ⟨_,_⟩⟩⟩
 · simp [exec] at h
 · simp [exec] at h
 · simp only [exec] at h
   split at h
   · rename_i xs hxs
     simp only [Option.ite_none_right_eq_some,Option.map_eq_some_iff] at h
     obtain ⟨h0,⟨y,sh'⟩,h1,rfl⟩:=h
     exact ⟨v,u,xs,y,sh',rfl,hxs,h0,h1,rfl⟩
   · simp at h
 · simp [exec] at h
end
end Go.Ab
namespace Go.Ab
section
variable {P:Program} {ns:Names} {G:Gh} {w:World}
def AK.calls:AK→Bool
 | .aN _ | .gq _ | .bJ .. | .ik _ | .fC | .dN | .clone .. | .iD ..=>true
 | _=>false
theorem cG {mem:List (Nat×List AV)} (k:Option Nat):dr mem k none=mem:=by cases k<;>rfl
theorem mh {v:AV} {rv:Value} (h:ah (num ns) G v rv) (hl:(bA v).all aJ=true):ae (num ns) G (bA v) rv.cells.toList:=by
 cases v with
 | cz l=>exact ah.cells (x:=.cz l) h hl
 | own l τ=>exact ah.cells (x:=.own l τ) h hl
 | _=>
   simp only [bA] at hl ⊢
   split
   · rename_i p hp
     simp only [hp] at hl
     exact ah.cells (by simp only [ah];exact iF hp h) hl
   · rename_i hp
     simp only [hp] at hl
     exact h.cells hl
theorem bp {mem:List (Nat×List AV)} {sh:Sh} {aa:al} {s:Sem Value} {s':Sem Next} {x:AV} {v:Value} {w':World} {G':Gh} (hs:s'=(do pure (.value (←s)))) (h1:s.run P w=.ok v w') (h2:ah (num ns) G' x v)
   (h3:Inv (num ns) G' w' mem sh aa) (h4:G.le G') (h5:aZ G w G' w'):HH ns P G w mem sh aa s' x:=
 ⟨.value v,v,w',G',by rw [hs];simp only [Sem.run_bind,h1,Result.andThen_ok,Sem.run_pure],.inl rfl,h2,h3,h4,h5⟩
theorem mi {A:gm} {o:Oper} {k:AK} {args:List Operand} {orc:dh} (hc:aU P ns A o.dst o.op=some (k,args)) (hk:k.calls=false) {a:Act} {vals:List AV} {out:Out}
   {mem:List (Nat×List AV)} {sh:Sh} {aa:al} (hr:ae (num ns) G vals (args.map a.eval)) (hi:Inv (num ns) G w mem sh aa)
   (h:exec orc k vals (k.key.bind (look mem)) sh aa=some out) :
   HH ns P G w (dr mem k.key out.cells) out.sh out.aa (execOp a.eval o) out.val:=by
 obtain ⟨dst,op,type,pos,after,guard⟩:=o
 cases k with
 | v vo=>
   simp only [exec,Option.map_eq_some_iff] at h
   obtain ⟨x,h1,rfl⟩:=h
   obtain ⟨v,w',G',g1,g2,g3,g4,g5⟩:=sB hc hr hi h1
   exact ⟨.value v,v,w',G',g1,.inl rfl,g2,by simpa [cG] using g3,g4,g5⟩
 | aN g=>simp [AK.calls] at hk
 | gq g=>simp [AK.calls] at hk
 | bJ g own=>simp [AK.calls] at hk
 | ik g=>simp [AK.calls] at hk
 | fC=>simp [AK.calls] at hk
 | dN=>simp [AK.calls] at hk
 | clone sz by_=>simp [AK.calls] at hk
 | iD sz by_ ag=>simp [AK.calls] at hk
 | kB=>
   obtain ⟨t,rfl,rfl⟩:=sP hc
   obtain ⟨rfl,rfl⟩:=iK h
   obtain ⟨g1,g2,g3⟩:=hi.allocMap
   refine bp (s:=Instr.makeMap t none) (v:=.map (some w.heap.size)) rfl ?_ ?_ g1 g2 g3
   · rfl
   · simp only [ah];exact ⟨(w.heap.size,0),by simp [Gh.bV],rfl⟩
 | ij c ok z=>
   obtain ⟨t,x,i,kt,et,rfl,rfl,hu,hk1,hz⟩:=sQ hc
   obtain ⟨s,k,kvs,r,rfl,hs,hf,rfl⟩:=gK h
   obtain ⟨x1,x2,e,h1,h2⟩:=cb (by simpa using hr)
   cases e
   simp only [ah] at h1 h2
   obtain ⟨b,hp,hv⟩:=h1
   obtain ⟨b',hp',hblk,_⟩:=hi.bS _ _ hs
   rw [hp] at hp';cases hp'
   obtain ⟨_,o,hh,hold⟩:=hblk
   rcases hold with ⟨_,_,_,_,_,_,_,hbad⟩ | ⟨es,clock,kvs',rfl,e,hm⟩
   · exact absurd (nu hbad) (by simp [cK])
   · cases e
     obtain ⟨zv,hz1,hz2⟩:=vd (P:=P) (w:=w) (K:=G.K) hz
     obtain ⟨d,hd⟩:=kK hk1
     have hget:(getObj b.1).run P w=.ok (.map es clock) w:=by simp [getObj,Sem.run,hh]
     have key:∃u,(Instr.lookup t (a.eval x) (a.eval i) ok).run P w=.ok u w∧ah (num ns) G (fY ok z r) u:=by
       rcases l8 hk1 hd h2 0 hm hf with ⟨rfl,hfn⟩ | ⟨p,v,j,rfl,hfn,hpv⟩
       · refine ⟨if ok then .tuple #[zv,.bool false] else zv,?_,?_⟩
         · rw [hv]
           simp only [Instr.lookup,Sem.run_bind,run_underlying hu,Result.andThen_ok,hget,Sem.run_pure,eT hk1,gY hd hfn,hz1]
         · unfold fY
           cases ok
           · simpa [ah] using hz2
           · simp only [if_true,ah]
             exact ⟨[zv,.bool false],by simp,by simp only [ae,ah];exact ⟨_,_,rfl,by simpa using hz2,_,_,rfl,dS.2 rfl,rfl⟩⟩
       · refine ⟨if ok then .tuple #[v,.bool true] else v,?_,?_⟩
         · rw [hv]
           simp only [Instr.lookup,Sem.run_bind,run_underlying hu,Result.andThen_ok,hget,Sem.run_pure,eT hk1,gY hd hfn]
         · unfold fY
           cases ok
           · simpa [ah] using hpv
           · simp only [if_true,ah]
             exact ⟨[v,.bool true],by simp,by simp only [ae,ah];exact ⟨_,_,rfl,by simpa using hpv,_,_,rfl,dS.2 rfl,rfl⟩⟩
     obtain ⟨u,g1,g2⟩:=key
     exact bp (s:=Instr.lookup t (a.eval x) (a.eval i) ok) (v:=u) (w':=w) rfl g1 g2 (by simpa [cG] using hi) G.le_refl (aZ.refl G w)
 | nf c=>
   obtain ⟨t,m,i,x,kt,et,hop,rfl,hu,hk1⟩:=vi hc
   obtain ⟨s,k,v,kvs,p,kvs',rfl,hs,hfz,hput,rfl⟩:=jO h
   obtain ⟨x1,x2,x3,e,h1,h2,h3⟩:=jy (by simpa using hr)
   cases e
   have h3:=iF hfz h3
   simp only [ah] at h1 h2
   obtain ⟨b,hp,hv⟩:=h1
   obtain ⟨b',hp',hblk,_⟩:=hi.bS _ _ hs
   rw [hp] at hp';cases hp'
   obtain ⟨_,o,hh,hold⟩:=hblk
   rcases hold with ⟨_,_,_,_,_,_,_,hbad⟩ | ⟨es,clock,kvs0,rfl,e,hm⟩
   · exact absurd (nu hbad) (by simp [cK])
   · cases e
     obtain ⟨d,hd⟩:=kK hk1
     obtain ⟨es',clock',hrun,hm'⟩:=pq (P:=P) (w:=w) hu hk1 hd hh h2 h3 hm hput
     obtain ⟨g1,g2⟩:=hi.Ck (es:=es') (clock:=clock') hs hp hm'
     have:(execOp a.eval ⟨dst,op,type,pos,after,guard⟩).run P w=.ok .skip (w.putObj b.1 (.map es' clock')):=by
       rcases hop with rfl | rfl<;>simp [execOp,hv,hrun]
     exact ⟨.skip,undef,_,G,this,.inr ⟨rfl,rfl⟩,by simp [ah],by simpa [AK.key,dr] using g1,G.le_refl,g2⟩
 | cq key off sz ag=>
   obtain ⟨t,tx,rfl,rfl,hsz,hag⟩:=sJ hc
   obtain ⟨cs,x,rfl,hcs,hx,rfl⟩:=fl h
   simp only [AK.key,Option.bind_some] at hcs
   obtain ⟨x',e,h1⟩:=bq (by simpa using hr)
   cases e
   simp only [ah] at h1
   obtain ⟨b,hp,hv⟩:=h1
   obtain ⟨b',hp',hblk,_⟩:=hi.bM _ _ hcs
   rw [hp] at hp';cases hp'
   obtain ⟨_,c,ty,hh,hrel⟩:=hblk
   obtain ⟨u,g1,g2⟩:=fZ (w:=w) hsz hag hx hrel (ib hh)
   refine bp (s:=Instr.loadAt t (a.eval (.tmp tx))) (v:=u) (w':=w) rfl ?_ g2 (by simpa [cG] using hi) G.le_refl (aZ.refl G w)
   rw [hv];simp [Instr.loadAt,Instr.sureAddr,g1]
 | dt sz ag=>
   obtain ⟨t,tx,rfl,rfl,hsz,hag⟩:=sK hc
   obtain ⟨p,x,rfl,rfl,hor⟩:=gI h
   obtain ⟨x',e,h1⟩:=bq (by simpa using hr)
   cases e
   rcases hor with ⟨cs,rfl,hx⟩ | ⟨s,off,cs,rfl,hcs,hx⟩
   · simp only [ah] at h1
     obtain ⟨b,o,vs,hv,ha,hrl⟩:=h1
     obtain ⟨u,g1,g2⟩:=j7 (ns:=ns) (w:=w) hsz hag hx hrl (fun j v hj=>hi.known _ _ _ (ha j v hj))
     refine bp (s:=Instr.loadAt t (a.eval (.tmp tx))) (v:=u) (w':=w) rfl ?_ g2 (by simpa [cG] using hi) G.le_refl (aZ.refl G w)
     rw [hv];simp [Instr.loadAt,Instr.sureAddr,g1]
   · obtain ⟨hmb,hx⟩:=hx
     simp only [ah] at h1
     obtain ⟨b,hp,hv⟩:=h1
     obtain ⟨b',hp',hblk,_⟩:=hi.bS _ _ hcs
     rw [hp] at hp';cases hp'
     obtain ⟨_,c,ty,vs,suf,hh,_,hsp,hrel⟩:=hblk.cells hmb
     obtain ⟨u,g1,g2⟩:=fZ (w:=w) hsz hag hx hrel (kG hh hsp)
     refine bp (s:=Instr.loadAt t (a.eval (.tmp tx))) (v:=u) (w':=w) rfl ?_ g2 (by simpa [cG] using hi) G.le_refl (aZ.refl G w)
     rw [hv];simp [Instr.loadAt,Instr.sureAddr,g1]
 | bC key off sz=>
   obtain ⟨t,tx,v,rfl,rfl,hsz⟩:=qU hc
   obtain ⟨cs,x,rfl,hcs,hl,hlf,hle,rfl⟩:=fF h
   simp only [AK.key,Option.bind_some] at hcs
   obtain ⟨x1,x2,e,h1,h2⟩:=cb (by simpa using hr)
   cases e
   simp only [ah] at h1
   obtain ⟨b,hp,hv⟩:=h1
   obtain ⟨b',hp',hblk,hcl⟩:=hi.bM _ _ hcs
   rw [hp] at hp';cases hp'
   obtain ⟨_,c,ty,hh,hrel⟩:=hblk
   have hcells:=h2.cells hlf
   have hcsz:(a.eval v).cells.size=sz:=by have:=hcells.length;simp at this;omega
   have hsize:=hrel.length
   simp at hsize
   have hrun:=f_ (P:=P) (w:=w) hsz hcsz hh (off:=off) (by omega) (gF hcells hlf)
   obtain ⟨g1,g2⟩:=hi.y_ (cells':=aM cs off (aE x)) hcs hp (c':=(c.toList.take off++(a.eval v).cells.toList++c.toList.drop (off+(a.eval v).cells.toList.length)).toArray)
     (by simpa using cL off hrel hcells) (da hcl hlf)
   refine ⟨.skip,undef,_,G,?_,.inr ⟨rfl,rfl⟩,by simp [ah],g1,G.le_refl,g2⟩
   simp [execOp,hv,Instr.storeAt,Instr.sureAddr,hrun]
 | df sz=>
   obtain ⟨t,tx,v,rfl,rfl,hsz⟩:=kN hc
   obtain ⟨s,off,x,cs,rfl,hcs,hmb,hl,hle,hlf,hrf,rfl⟩:=eJ h
   obtain ⟨x1,x2,e,h1,h2⟩:=cb (by simpa using hr)
   cases e
   simp only [ah] at h1
   obtain ⟨b,hp,hv⟩:=h1
   obtain ⟨b',hp',hblk,hcl,hcr⟩:=hi.bS _ _ hcs
   rw [hp] at hp';cases hp'
   obtain ⟨_,c,ty,vs,suf,hh,hcz,hsp,hrel⟩:=hblk.cells hmb
   have hcells:=mh h2 (en hlf)
   have hcsz:(a.eval v).cells.size=sz:=by have:=hcells.length;simp at this;omega
   have hsize:=hrel.length
   have hcl2:c.size=vs.length+suf.length:=by rw [←Array.length_toList,hsp,List.length_append]
   have hnl:(a.eval v).cells.toList.length=sz:=by simpa using hcsz
   have hrun:=f_ (P:=P) (w:=w) hsz hcsz hh (off:=off) (by omega) (gF hcells (en hlf))
   obtain ⟨g1,g2⟩:=hi.iu (cells':=aM cs off (bA x)) hcs hp hh (c':=(c.toList.take off++(a.eval v).cells.toList++c.toList.drop (off+(a.eval v).cells.toList.length)).toArray)
     (suf:=suf) (vs:=vs.take off++(a.eval v).cells.toList++vs.drop (off+(a.eval v).cells.toList.length))
     (by rw [←hcz];simp;omega)
     (by
       show c.toList.take off++(a.eval v).cells.toList++c.toList.drop (off+(a.eval v).cells.toList.length)=_
       rw [hsp,List.take_append_of_le_length (by omega),List.drop_append_of_le_length (by omega)]
       simp [List.append_assoc])
     (cL off hrel hcells) (da hcl hlf) (da hcr hrf)
   refine ⟨.skip,undef,_,G,?_,.inr ⟨rfl,rfl⟩,by simp [ah],by simpa [AK.key,dr] using g1,G.le_refl,g2⟩
   simp [execOp,hv,Instr.storeAt,Instr.sureAddr,hrun]
 | iC sz=>
   obtain ⟨t,tx,v,rfl,rfl,hsz⟩:=qV hc
   obtain ⟨s,off,x,cs,rfl,hcs,hmb,hl,hle,hlf,hrf,rfl⟩:=g_ h
   obtain ⟨x1,x2,e,h1,h2⟩:=cb (by simpa using hr)
   cases e
   simp only [ah] at h1
   obtain ⟨b,hp,hv⟩:=h1
   obtain ⟨b',hp',hblk,hcl,hcr⟩:=hi.bS _ _ hcs
   rw [hp] at hp';cases hp'
   obtain ⟨_,c,ty,vs,suf,hh,hcz,hsp,hrel⟩:=hblk.cells hmb
   have hcells:=h2.cells (en hlf)
   have hcsz:(a.eval v).cells.size=sz:=by have:=hcells.length;simp at this;omega
   have hsize:=hrel.length
   have hcl2:c.size=vs.length+suf.length:=by rw [←Array.length_toList,hsp,List.length_append]
   have hnl:(a.eval v).cells.toList.length=sz:=by simpa using hcsz
   have hrun:=f_ (P:=P) (w:=w) hsz hcsz hh (off:=off) (by omega) (gF hcells (en hlf))
   obtain ⟨g1,g2⟩:=hi.iu (cells':=aM cs off (aE x)) hcs hp hh (c':=(c.toList.take off++(a.eval v).cells.toList++c.toList.drop (off+(a.eval v).cells.toList.length)).toArray)
     (suf:=suf) (vs:=vs.take off++(a.eval v).cells.toList++vs.drop (off+(a.eval v).cells.toList.length))
     (by rw [←hcz];simp;omega)
     (by
       show c.toList.take off++(a.eval v).cells.toList++c.toList.drop (off+(a.eval v).cells.toList.length)=_
       rw [hsp,List.take_append_of_le_length (by omega),List.drop_append_of_le_length (by omega)]
       simp [List.append_assoc])
     (cL off hrel hcells) (da hcl hlf) (da hcr hrf)
   refine ⟨.skip,undef,_,G,?_,.inr ⟨rfl,rfl⟩,by simp [ah],by simpa [AK.key,dr] using g1,G.le_refl,g2⟩
   simp [execOp,hv,Instr.storeAt,Instr.sureAddr,hrun]
 | alloc key z=>
   obtain ⟨t,rfl,rfl,hz,rfl⟩:=sL hc
   obtain ⟨rfl,hcs,rfl⟩:=gH h
   simp only [AK.key,Option.bind_some] at hcs
   obtain ⟨zv,hz1,hz2⟩:=eG (P:=P) (w:=w) hz
   obtain ⟨zr,zl⟩:=fq (G:=G) (ρ:=num ns) hz2
   obtain ⟨g1,g2,g3⟩:=hi.lC (c:=zv.cells) t hcs zr zl
   refine bp (s:=Instr.alloc t true (.tuple #[])) (v:=.pointer (some ⟨w.heap.size,0,none⟩)) rfl ?_ ?_ g1 g2 g3
   · simp only [Instr.alloc,Sem.run_bind,hz1,Result.andThen_ok,gG,Sem.run_pure]
   · simp only [ah];exact ⟨_,by simp [Gh.cw],rfl⟩
 | box key sz=>
   obtain ⟨t,y,rfl,rfl,hsz,rfl⟩:=zg hc
   obtain ⟨x,rfl,hcs,hl,hlf,rfl⟩:=jz h
   simp only [AK.key,Option.bind_some] at hcs
   obtain ⟨x',e,h1⟩:=bq (by simpa using hr)
   cases e
   have hcells:=h1.cells hlf
   obtain ⟨g1,g2,g3⟩:=hi.lC (c:=(a.eval y).cells) t hcs hcells hlf
   refine bp (s:=Instr.box t (a.eval y)) (v:=.pointer (some ⟨w.heap.size,0,none⟩)) rfl ?_ ?_ g1 g2 g3
   · simp only [Instr.box,Sem.run_bind,gG,Result.andThen_ok,Sem.run_pure]
   · simp only [ah];exact ⟨_,by simp [Gh.cw],rfl⟩
 | gn z=>
   obtain ⟨t,rfl,rfl,hz⟩:=qW hc
   obtain ⟨rfl,rfl⟩:=hG h
   obtain ⟨zv,hz1,hz2⟩:=eG (P:=P) (w:=w) hz
   obtain ⟨zr,zl⟩:=fq (G:=G) (ρ:=num ns) hz2
   obtain ⟨g1,g2,g3⟩:=hi.kL (c:=zv.cells) t zr zl (zc _ z)
   refine bp (s:=Instr.alloc t true (.tuple #[])) (v:=.pointer (some ⟨w.heap.size,0,none⟩)) rfl ?_ ?_ g1 g2 g3
   · simp only [Instr.alloc,Sem.run_bind,hz1,Result.andThen_ok,gG,Sem.run_pure]
   · simp only [ah];exact ⟨(w.heap.size,zv.cells.size),by simp [Gh.bV],rfl⟩
 | kA sz=>
   obtain ⟨t,y,rfl,rfl,hsz⟩:=vg hc
   obtain ⟨x,rfl,hl,hlf,hrf,rfl⟩:=jM h
   obtain ⟨x',e,h1⟩:=bq (by simpa using hr)
   cases e
   have hcells:=mh h1 (en hlf)
   obtain ⟨g1,g2,g3⟩:=hi.kL (c:=(a.eval y).cells) t hcells hlf (gf (Nat.le_succ _) hrf)
   refine bp (s:=Instr.box t (a.eval y)) (v:=.pointer (some ⟨w.heap.size,0,none⟩)) rfl ?_ ?_ g1 g2 g3
   · simp only [Instr.box,Sem.run_bind,gG,Result.andThen_ok,Sem.run_pure]
   · simp only [ah];exact ⟨(w.heap.size,(a.eval y).cells.size),by simp [Gh.bV],rfl⟩
 | ph sz=>
   obtain ⟨t,y,rfl,rfl,hsz⟩:=vh hc
   obtain ⟨x,rfl,hl,hlf,hrf,rfl⟩:=jN h
   obtain ⟨x',e,h1⟩:=bq (by simpa using hr)
   cases e
   have hcells:=h1.cells (en hlf)
   obtain ⟨g1,g2,g3⟩:=hi.kL (c:=(a.eval y).cells) t hcells hlf (gf (Nat.le_succ _) hrf)
   refine bp (s:=Instr.box t (a.eval y)) (v:=.pointer (some ⟨w.heap.size,0,none⟩)) rfl ?_ ?_ g1 g2 g3
   · simp only [Instr.box,Sem.run_bind,gG,Result.andThen_ok,Sem.run_pure]
   · simp only [ah];exact ⟨(w.heap.size,(a.eval y).cells.size),by simp [Gh.bV],rfl⟩
 | i_ sz by_ ag z=>
   obtain ⟨t,e,l,c,rfl,rfl,hu,hsz,hby,hz,hzl,h0⟩:=sM hc
   obtain ⟨k,k',n,rfl,h1,h2,h3,_,rfl⟩:=iJ h
   obtain ⟨x1,x2,e',r1,r2⟩:=cb (by simpa using hr)
   cases e'
   obtain ⟨v,w',G',g1,g2,g3,g4,g5⟩:=sD (k:=k) (k':=k') (ag:=ag) hu hsz hby hz hzl h0 h1 h2 h3 hi
   refine bp (s:=Instr.makeSlice t (a.eval l) (a.eval c)) rfl ?_ g2 g3 g4 g5
   rw [gZ r1,gZ r2];exact g1
 | fW d sz by_ z=>
   obtain ⟨t,e,l,c,rfl,rfl,hu,hsz,hby,hz,hzl,h0,rfl⟩:=sN hc
   obtain ⟨k,k',n,rfl,h1,h2,h3,_,hcs,rfl⟩:=gJ h
   simp only [AK.key,Option.bind_some] at hcs
   obtain ⟨x1,x2,e',r1,r2⟩:=cb (by simpa using hr)
   cases e'
   obtain ⟨v,w',G',g1,g2,g3,g4,g5⟩:=sE (k:=k) (k':=k') hu hsz hby hz hzl h0 h1 h2 h3 hi hcs
   refine bp (s:=Instr.makeSlice t (a.eval l) (a.eval c)) rfl ?_ g2 g3 g4 g5
   rw [gZ r1,gZ r2];exact g1
 | append sz by_=>
   obtain ⟨c,rfl⟩:=kO hc
   obtain ⟨x,y,t,e,t1,e1,z,hcal,hargs,rfl,h0,h1,hu,hu1,hsz,hby,hz,hzl,hs0,hb0⟩:=nD hc
   obtain ⟨s,x',y',ts,rfl,happ,rfl⟩:=hH h
   obtain ⟨x1,x2,e',r1,r2⟩:=cb (by simpa using hr)
   cases e'
   obtain ⟨v,w',G',g1,g2,g3,g4,g5⟩:=qR (type:=type) h0 h1 hu hu1 hsz hby hz hzl hb0 r1 r2 hi happ
   refine bp (s:=Builtin.append_ c.argTypes type #[a.eval x,a.eval y]) ?_ g1 g2 g3 g4 g5
   obtain ⟨callee,cargs,ctypes⟩:=c
   simp only at hcal hargs
   subst hcal;subst hargs
   simp [execOp,resolve,invoke,builtin]
 | dw sz by_ ag=>
   obtain ⟨c,rfl⟩:=pA hc
   obtain ⟨x,y,t,e,t1,e1,z,hcal,hargs,rfl,h0,h1,hu,hu1,hsz,hby,hz,hzl,hs0,hb0⟩:=sC hc
   obtain ⟨s,x',xs,y',sh',rfl,hxs,hhx,happ,rfl⟩:=iM h
   obtain ⟨x1,x2,e',r1,r2⟩:=cb (by simpa using hr)
   cases e'
   obtain ⟨v,w',G',g1,g2,g3,g4,g5⟩:=pw (type:=type) h0 h1 hu hu1 hsz hby hz hzl hb0 r1 r2 hi hxs hhx happ
   refine bp (s:=Builtin.append_ c.argTypes type #[a.eval x,a.eval y]) ?_ g1 g2 g3 g4 g5
   obtain ⟨callee,cargs,ctypes⟩:=c
   simp only at hcal hargs
   subst hcal;subst hargs
   simp [execOp,resolve,invoke,builtin]
 | ek sz by_=>
   obtain ⟨c,rfl⟩:=pB hc
   obtain ⟨x,y,u,t,e,t1,e1,z,hcal,hargs,rfl,h0,h1,hu,hu1,hsz,hby,hz,hzl,hsz0,hb0⟩:=sI hc
   obtain ⟨s,x',e',xs,p,rfl,hxs,hdp,rfl⟩:=gg h
   obtain ⟨x1,x2,x3,e'',r1,r2,r3⟩:=jy (by simpa using hr)
   cases e''
   obtain ⟨v,w',G',g1,g2,g3,g4,g5⟩:=pz (type:=type) h0 h1 hu hu1 hsz hby hz hzl hb0 r1 r2 r3 hi hxs hdp
   refine bp (s:=Builtin.append_ c.argTypes type #[a.eval x,a.eval y]) ?_ g1 g2 g3 g4 g5
   obtain ⟨callee,cargs,ctypes⟩:=c
   simp only at hcal hargs
   subst hcal;subst hargs
   simp [execOp,resolve,invoke,builtin]
 | ja sz=>
   obtain ⟨c,rfl⟩:=sO hc
   obtain ⟨x,y,t,e,t1,e1,hcal,hargs,rfl,h0,h1,hu,hu1,hsz⟩:=ze hc
   obtain ⟨x',y',xs,k,sh',rfl,hxs,hcp,rfl⟩:=iL h
   obtain ⟨x1,x2,e',r1,r2⟩:=cb (by simpa using hr)
   cases e'
   obtain ⟨w',g1,g2,g3⟩:=sG (type:=type) h0 hu hsz r1 r2 hi hxs hcp
   refine bp (s:=Builtin.copy_ c.argTypes type #[a.eval x,a.eval y]) (v:=.int .i64 k) ?_ g1 (by simp only [ah];exact dJ.2 rfl) g2 G.le_refl g3
   obtain ⟨callee,cargs,ctypes⟩:=c
   simp only at hcal hargs
   subst hcal;subst hargs
   simp [execOp,resolve,invoke,builtin]
 | gp sz z=>
   obtain ⟨c,rfl⟩:=qX hc
   obtain ⟨x,t,e,hcal,hargs,rfl,h0,hu,hsz,hz,hzl,hs0⟩:=vf hc
   obtain ⟨x',sh',rfl,hcl,rfl⟩:=mg h
   obtain ⟨x1,e',r1⟩:=bq (by simpa using hr)
   cases e'
   obtain ⟨w',g1,g2,g3⟩:=qT (type:=type) h0 hu hz hzl hs0 r1 hi hcl
   refine bp (s:=Builtin.clear_ c.argTypes type #[a.eval x]) (v:=.tuple #[]) ?_ g1 (by simp only [ah];exact ⟨[],rfl,by simp [ae]⟩) g2 G.le_refl g3
   obtain ⟨callee,cargs,ctypes⟩:=c
   simp only at hcal hargs
   subst hcal;subst hargs
   simp [execOp,resolve,invoke,builtin]
end
end Go.Ab
namespace Go.Ab
section
variable {P:Program} {ns:Names} {G:Gh} {w:World}
def Ix (K:aP) (w:World):Prop:=∀b o v,K b o=some v→w.cell? ⟨b,o,none⟩=some v
def HJ (p:Nat→Option (Array Value)) (w:World):Prop:=∀b c,p b=some c→∃t z,w.heap[b]?=some (.cells c t z)
def jA (K:aP) (rs:List PV) (v:Value):Prop:=
 match rs with
 | [r]=>Rel K r v
 | rs=>∃vs:List Value,v=.tuple vs.toArray∧iq K rs vs
def cj (ρ:bh) (G:Gh) (rs:List AV) (v:Value):Prop:=
 match rs with
 | [r]=>ah ρ G r v
 | rs=>∃vs:List Value,v=.tuple vs.toArray∧ae ρ G rs vs
def Ga (P:Program) (ns:Names) (f:FuncId) (cM rs:List PV):Prop:=
 ∀(K:aP) (w:World) (vs:List Value),HJ ns.jo w→Ix K w→iq K cM vs →
   Calls P f vs.toArray w fun e w'=>∃v K',e=.returned v∧jA K' rs v∧K.le K'∧(∀b o u,b<w.heap.size→K' b o=some u→K b o=some u)∧Ix K' w'∧RowKit.Below w.heap.size w w'
def IN (P:Program) (ns:Names) (f:FuncId) (args:List AV) (ts:al) (rs:List AV) (sh sh':Sh) (ts':al):Prop:=
 ∀(G:Gh) (w:World) (vs:List Value),Inv (num ns) G w [] sh ts→ae (num ns) G args vs →
   Calls P f vs.toArray w fun e w'=>∃v G',e=.returned v∧cj (num ns) G' rs v∧Inv (num ns) G' w' [] sh' ts'∧aZ G w G' w'
def Cn (P:Program) (ns:Names) (f sz bytes:Nat):Prop:=
 ∀(o:Option Bool) (G:Gh) (w:World) (mem:List (Nat×List AV)) (sh sh':Sh) (aa toks':al) (x y:AV) (v:Value),Inv (num ns) G w mem sh aa→ah (num ns) G x v→ia o sz bytes x sh aa=some (y,sh',toks') →
   Calls P f #[v] w fun e w'=>∃u G',e=.returned u∧ah (num ns) G' y u∧Inv (num ns) G' w' mem sh' toks'∧G.le G'∧aZ G w G' w'
structure fe (P:Program) (ns:Names) (orc:dh):Prop where
 p:∀g f cM rs,ns.of f=some g→orc.p g cM=some rs→Ga P ns f cM rs
 i:∀g f args ts rs sh sh' ts',ns.of f=some g→args.all a9=true→orc.i g args sh ts=some (rs,sh',ts')→IN P ns f args ts rs sh sh' ts'∧rs.all a9=true
 c:∀g sz bytes f,look ns.cl g=some (sz,bytes)→ns.of f=some g→Cn P ns f sz bytes
def dZ (P:Program) (ns:Names):Prop:=∀f g,ns.of f=some g→∃fn b,P.funcs[f]?=some fn∧fn.body=some b∧fn.name ≠ "runtime.NumGoroutine"
theorem iN {f:FuncId} {g:Nat} (hB:dZ P ns) (hf:ns.of f=some g) (args:Array Value):(callFunc f args).run P w=.ok (.enter f args) w:=by
 obtain ⟨fn,b,h1,h2,h3⟩:=hB f g hf
 simp [callFunc,h1,h2,h3]
mutual
theorem jP {ρ:bh} {G':Gh} (hK:G.K.le G'.K) (hs:∀s b,G.sm s=some b→G'.sm s=some b):∀{x:AV} {v:Value},bm x=true→ah ρ G x v→ah ρ G' x v
 | .pv p,_,_,h=>by simp only [ah] at h ⊢;exact h.mono hK
 | .aO s o,_,_,h=>by simp only [ah] at h ⊢;obtain ⟨b,e,r⟩:=h;exact ⟨b,hs _ _ e,r⟩
 | .aY s _ n _,_,_,h=>by simp only [ah] at h ⊢;obtain ⟨b,c,e,r⟩:=h;exact ⟨b,c,hs _ _ e,r⟩
 | .eN,_,_,h=>by simpa only [ah] using h
 | .d_ s,_,_,h=>by simp only [ah] at h ⊢;obtain ⟨b,e,r⟩:=h;exact ⟨b,hs _ _ e,r⟩
 | .mM ..,_,hp,_=>by simp [bm] at hp
 | .cT _,_,_,h=>by simp only [ah] at h
 | .fn g cap,_,hp,h=>by
   simp only [bm] at hp
   simp only [ah] at h ⊢
   obtain ⟨f,vs,e1,e2,r⟩:=h
   exact ⟨f,vs,e1,e2,lG hK hs hp r⟩
 | .un,_,hp,_=>by simp [bm] at hp
 | .cz _,_,_,h=>by simp only [ah] at h ⊢;obtain ⟨b,l,e,r⟩:=h;exact ⟨b,l,e,r.mono hK⟩
 | .own _ _,_,hp,_=>by simp [bm] at hp
 | .agg _,_,hp,h=>by
   simp only [bm] at hp
   simp only [ah] at h ⊢
   obtain ⟨vs,e,r⟩:=h
   exact ⟨vs,e,lG hK hs hp r⟩
 | .lr _,_,hp,_=>by simp [bm] at hp
 | .bg _ _,_,hp,_=>by simp [bm] at hp
 | .cS _,_,hp,_=>by simp [bm] at hp
theorem lG {ρ:bh} {G':Gh} (hK:G.K.le G'.K) (hs:∀s b,G.sm s=some b→G'.sm s=some b):∀{xs:List AV} {vs:List Value},bm.gu xs=true→ae ρ G xs vs→ae ρ G' xs vs
 | [],_,_,h=>by simpa only [ae] using h
 | x::xs,_,hp,h=>by
   simp only [bm.gu,Bool.and_eq_true] at hp
   simp only [ae] at h ⊢
   obtain ⟨v,r,e,e1,e2⟩:=h
   exact ⟨v,r,e,jP hK hs hp.1 e1,lG hK hs hp.2 e2⟩
end
theorem Inv.pure {K':aP} {w1:World} {mem:List (Nat×List AV)} {sh:Sh} {aa:al} (hi:Inv (num ns) G w mem sh aa) (hK:G.K.le K') (hold:∀b o u,b<w.heap.size→K' b o=some u→G.K b o=some u)
   (hk:Ix K' w1) (hb:RowKit.Below w.heap.size w w1):Inv (num ns) { G with K:=K' } w1 mem sh aa∧G.le { G with K:=K' }∧aZ G w { G with K:=K' } w1:=by
 have hle:G.le { G with K:=K' }:=⟨hK,fun _ _ h=>h,fun _ _ h=>h,fun _ t h=>⟨t,h,⟨Nat.le_refl _,t.eQ⟩,fun _=>rfl⟩⟩
 have hevo:aZ G w { G with K:=K' } w1:={
           size:=hb.size,os:=hb.os,tape:=hb.tape,output:=hb.output,K:=hK,sm:=fun _ _ h=>h,
           cP:=fun b h hr=>⟨hr,hb.block b h⟩,fQ:=fun b τ _ hr=>.inr ⟨τ,hr⟩,eS:=fun b o v h _ hkk=>hold b o v h hkk }
 refine ⟨⟨hk,?_,?_,?_,hi.eR,?_,hi.dC,?_,hi.dD,hi.fj hevo⟩,hle,hevo⟩
 · intro b o v hkk
   by_cases h:b<w.heap.size
   · exact hi.aK b o v (hold b o v h hkk)
   · exact .inl (hi.fresh b (by omega))
 · intro b h;have:=hb.size;exact hi.fresh b (by omega)
 · intro d cs hd
   obtain ⟨b,e1,e2,e3⟩:=hi.bM d cs hd
   have hlt:b<w.heap.size:=by obtain ⟨_,_,_,hh,_⟩:=e2;exact bI hh
   exact ⟨b,e1,e2.mono hle rfl (hb.block b hlt),e3⟩
 · intro s cs hs
   obtain ⟨b,e1,e2,e3⟩:=hi.bS s cs hs
   have hlt:b.1<w.heap.size:=e2.lt
   exact ⟨b,e1,e2.mono hle rfl (hb.block b.1 hlt),e3⟩
 · intro τ n hn
   obtain ⟨t,e1,e2,e3⟩:=hi.bT τ n hn
   refine ⟨t,e1,e2,e3.cap,e3.zero,fun hlt=>?_⟩
   obtain ⟨b,o,c,ty,f1,f2,f3,f4,f5⟩:=e3.spare hlt
   have hlt':=bI f3
   exact ⟨b,o,c,ty,f1,f2,(hb.block b hlt').trans f3,f4,fun j v hkk=>f5 j v (hold b j v hlt' hkk)⟩
end
end Go.Ab
namespace Go.Ab
section
variable {P:Program} {ns:Names} {G:Gh} {w:World}
def Gh.freeze (G:Gh) (b:Nat) (c:Array Value):Gh:=
 { G with K:=fun k o=>if k=b then c[o]? else G.K k o,role:=fun k=>if k=b then .cP else G.role k }
theorem Inv.freeze {mem:List (Nat×List AV)} {sh:Sh} {aa:al} (hi:Inv (num ns) G w mem sh aa) {s b:Nat} {cells:List AV} {c:Array Value} {t:TypeId}
   (hr:G.role b=.shr s) (hh:w.heap[b]?=some (.cells c t (0,0))) :
   Inv (num ns) (G.freeze b c) w mem (sh.set s none) aa∧G.le (G.freeze b c)∧aZ G w (G.freeze b c) w:=by
 have hK:G.K.le (G.freeze b c).K:=fun k o v hk=>by
   simp only [Gh.freeze]
   rw [if_neg]
   · exact hk
   · rintro rfl
     rcases hi.aK _ _ _ hk with h | ⟨τ,h⟩<;>rw [hr] at h<;>simp at h
 have hle:G.le (G.freeze b c):=⟨hK,fun _ _ h=>h,fun _ _ h=>h,fun _ t h=>⟨t,h,⟨Nat.le_refl _,t.eQ⟩,fun _=>rfl⟩⟩
 have hrole:∀k r,G.role k=r→r≠.shr s→(G.freeze b c).role k=r:=by
   intro k r hk hn
   simp only [Gh.freeze]
   rw [if_neg]
   · exact hk
   · rintro rfl;exact hn (hk.symm.trans hr)
 have hevo:aZ G w (G.freeze b c) w:={
           size:=Nat.le_refl _,os:=rfl,tape:=rfl,output:=rfl,K:=hK,sm:=fun _ _ h=>h,
           cP:=fun k _ hk=>⟨hrole k _ hk (by simp),rfl⟩
           fQ:=fun k τ _ hk=>.inr ⟨τ,hrole k _ hk (by simp)⟩
           eS:=fun k o v _ hk hkk=>by
             simp only [Gh.freeze] at hkk
             rwa [if_neg (by rintro rfl;rw [hr] at hk;simp at hk)] at hkk }
 refine ⟨⟨?_,?_,?_,?_,hi.eR,?_,?_,?_,hi.dD,hi.fj hevo⟩,hle,hevo⟩
 · intro k o v hk
   simp only [Gh.freeze] at hk
   split at hk
   · rename_i e;subst e;simp [World.cell?,hh,hk]
   · exact hi.known k o v hk
 · intro k o v hk
   simp only [Gh.freeze] at hk
   split at hk
   · rename_i e;subst e;left;simp [Gh.freeze]
   · rename_i e
     simp only [Gh.freeze,if_neg e]
     exact hi.aK k o v hk
 · intro k hk
   simp only [Gh.freeze]
   split
   · rfl
   · exact hi.fresh k hk
 · intro d cs hd
   obtain ⟨b',e1,e2,e3⟩:=hi.bM d cs hd
   exact ⟨b',e1,e2.mono hle ((hrole b' _ e2.role (by simp)).trans e2.role.symm) rfl,e3⟩
 · intro s' cs hs'
   rw [List.getElem?_set] at hs'
   split at hs'
   · split at hs'<;>simp at hs'
   · rename_i hne
     obtain ⟨b',e1,e2,e3⟩:=hi.bS s' cs hs'
     exact ⟨b',e1,e2.mono hle ((hrole b'.1 _ e2.role (by simp;exact fun h=>hne h.symm)).trans e2.role.symm) rfl,e3⟩
 · intro s' b' h;simpa using hi.dC s' b' h
 · intro τ n hn
   obtain ⟨tk,e1,e2,e3⟩:=hi.bT τ n hn
   refine ⟨tk,e1,e2,e3.cap,e3.zero,fun hlt=>?_⟩
   obtain ⟨b',o,cc,ty,f1,f2,f3,f4,f5⟩:=e3.spare hlt
   refine ⟨b',o,cc,ty,f1,hrole b' _ f2 (by simp),f3,f4,fun j v hk=>f5 j v ?_⟩
   simp only [Gh.freeze] at hk
   rwa [if_neg (by rintro rfl;rw [hr] at f2;simp at f2)] at hk
def ie (ns:Names) (G G':Gh) (sh:Sh) (ks:List Nat):Prop:=
 ∀s∈ks,∀cells,sh[s]?=some (some cells)→cK cells=false→∃b vs,G.sm s=some b∧At G'.K b.1 0 vs∧ae (num ns) G' cells vs
theorem sR {sh:Sh} {s:Nat} (h:∀cells,sh[s]?≠some (some cells)):sh.set s none=sh:=by
 apply List.ext_getElem?
 intro j
 rw [List.getElem?_set]
 split
 · rename_i e;subst e
   split
   · rename_i hlt
     cases hh:sh[s] with
     | none=>rw [List.getElem?_eq_getElem hlt,hh]
     | some cells=>exact absurd (by rw [List.getElem?_eq_getElem hlt,hh]) (h cells)
   · rename_i hge;rw [List.getElem?_eq_none (by omega)]
 · rfl
theorem Inv.drop {mem:List (Nat×List AV)} {sh:Sh} {aa:al} {G:Gh} (hi:Inv (num ns) G w mem sh aa) (s:Nat):Inv (num ns) G w mem (sh.set s none) aa:=
 { hi with
   bS:=fun s' cells hs=>by
     rw [List.getElem?_set] at hs
     split at hs
     · split at hs<;>simp at hs
     · exact hi.bS s' cells hs
   dC:=fun s' b h=>by simpa using hi.dC s' b h }
theorem Inv.kill {mem:List (Nat×List AV)} {aa:al}:∀(ks:List Nat) {sh:Sh} {G:Gh},Inv (num ns) G w mem sh aa →
   ∃G',Inv (num ns) G' w mem (kill sh ks) aa∧G.le G'∧aZ G w G' w∧ie ns G G' sh ks∧G'.sm=G.sm
 | [],sh,G,hi=>⟨G,hi,G.le_refl,aZ.refl G w,fun s h=>by simp at h,rfl⟩
 | s::ks,sh,G,hi=>by
   have hk:Go.Ab.kill sh (s::ks)=Go.Ab.kill (sh.set s none) ks:=rfl
   by_cases hs:∃cells,sh[s]?=some (some cells)
   · obtain ⟨cells,hs⟩:=hs
     obtain ⟨b,e1,e2,_⟩:=hi.bS s cells hs
     cases hmb:cK cells with
     | true=>
       obtain ⟨G',h1,h2,h3,h4,h5⟩:=Inv.kill ks (hi.drop s)
       refine ⟨G',by rw [hk];exact h1,h2,h3,?_,h5⟩
       intro s' hs' cells' hc' hm'
       by_cases he:s'=s
       · subst he;rw [hs] at hc';cases hc';rw [hmb] at hm';cases hm'
       · simp only [List.mem_cons] at hs'
         exact h4 s' (hs'.resolve_left he) cells' (by rw [List.getElem?_set,if_neg (fun e=>he e.symm)];exact hc') hm'
     | false=>
     obtain ⟨hr,c,t,vs,suf,hh,_,hsp,hrel⟩:=e2.cells hmb
     obtain ⟨g1,g2,g3⟩:=hi.freeze (cells:=cells) hr hh
     obtain ⟨G',h1,h2,h3,h4,h5⟩:=Inv.kill ks g1
     refine ⟨G',by rw [hk];exact h1,Gh.le_trans g2 h2,g3.trans h3,?_,h5⟩
     intro s' hs' cells' hc' hm'
     by_cases he:s'=s
     · subst he
       rw [hs] at hc';cases hc'
       refine ⟨b,vs,e1,?_,ae.mono (Gh.le_trans g2 h2) hrel⟩
       intro j v hj
       apply h2.K
       simp only [Gh.freeze,if_true,Nat.zero_add]
       have:c.toList[j]?=some v:=by rw [hsp,List.getElem?_append_left (List.getElem?_eq_some_iff.1 hj).1];exact hj
       simpa using this
     · simp only [List.mem_cons] at hs'
       have:=h4 s' (hs'.resolve_left he) cells' (by rw [List.getElem?_set,if_neg (fun e=>he e.symm)];exact hc') hm'
       exact this
   · have hset:=sR (sh:=sh) (s:=s) (fun cells h=>hs ⟨cells,h⟩)
     obtain ⟨G',h1,h2,h3,h4,h5⟩:=Inv.kill ks hi
     refine ⟨G',by rw [hk,hset];exact h1,h2,h3,?_,h5⟩
     intro s' hs' cells' hc' hm'
     simp only [List.mem_cons] at hs'
     rcases hs' with rfl | hs'
     · exact absurd ⟨cells',hc'⟩ hs
     · exact h4 s' hs' cells' hc' hm'
theorem zh {cs:List AV} {ps:List PV} (h:kC cs=some ps):cK cs=false:=by
 cases cs with
 | nil=>rfl
 | cons c cs=>cases c<;>first | rfl | simp [kC,ly] at h
theorem sS:∀{cs:List AV} {ps:List PV} {vs:List Value},kC cs=some ps→cs.all aJ=true→ae (num ns) G cs vs→cg G.K ps vs
 | [],ps,vs,h,_,hr=>by simp [kC] at h;subst h;simp only [ae] at hr;simp [cg,hr]
 | c::cs,ps,vs,h,hl,hr=>by
   simp only [kC] at h
   simp only [List.all_cons,Bool.and_eq_true] at hl
   split at h
   · rename_i p ps' h1 h2
     simp at h;subst h
     simp only [ae] at hr
     obtain ⟨v,r,rfl,e1,e2⟩:=hr
     simp only [cg]
     exact ⟨v,r,rfl,(kH h1 e1).Cf (lB h1 hl.1),sS h2 hl.2 e2⟩
   · simp at h
theorem p8 {K:aP} {b sz:Nat}:∀(n:Nat) {ps:List PV} {vs:List Value} {o:Nat},cg K ps vs→ps.length=n*sz→At K b o vs→Row K b o sz ((chunk sz n ps).map .agg)
 | 0,_,_,_,_,_,_=>by simp only [chunk,List.map_nil,Row]
 | n+1,ps,vs,o,hr,hl,ha=>by
   have hlv:=hr.length
   rw [Nat.add_mul] at hl
   simp only [chunk,List.map_cons,Row]
   refine ⟨⟨vs.take sz,by simp;omega,?_,?_⟩,p8 n (cg.drop sz hr) (by simp;omega) ?_⟩
   · intro j v hj
     rw [List.getElem?_take] at hj
     split at hj
     · exact ha j v hj
     · simp at hj
   · simp only [R];exact ⟨trivial,cg.take sz hr⟩
   · intro j v hj
     rw [List.getElem?_drop] at hj
     have:=ha _ v hj
     rwa [←Nat.add_assoc] at this
theorem kP {sz:Nat}:∀(n:Nat) (ps:List PV),(chunk sz n ps).length=n
 | 0,_=>rfl
 | n+1,ps=>by simp [chunk,kP n]
theorem nI {K:aP} {b:Nat}:∀{ps:List PV} {vs:List Value} {o:Nat},cg K ps vs→At K b o vs→Row K b o 1 ps
 | [],_,_,_,_=>by simp only [Row]
 | p::ps,vs,o,hr,ha=>by
   simp only [cg] at hr
   obtain ⟨v,r,rfl,e1,e2⟩:=hr
   simp only [Row]
   refine ⟨⟨[v],rfl,?_,R.top e1⟩,nI e2 ?_⟩
   · intro j u hj
     cases j with
     | zero=>simp at hj;subst hj;exact ha 0 v rfl
     | succ j=>simp at hj
   · intro j u hj
     have:=ha (j+1) u (by simpa using hj)
     rwa [show o+(j+1)=o+1+j from by omega] at this
theorem Co {l:List AV} (n:Nat) (h:l.all aJ=true):(l.take n).all aJ=true:=by
 rw [List.all_eq_true] at h ⊢
 exact fun x hx=>h x (List.mem_of_mem_take hx)
theorem kQ {G':Gh} {sh:Sh} {ks:List Nat} {x:AV} {p:PV} {v:Value} (hle:G.le G') (hf:ie ns G G' sh ks) (hl:∀(s:Nat) (cells:List AV),sh[s]?=some (some cells)→cells.all aJ=true)
   (ha:∀s∈dq x,s∈ks) (hx:∀cs,x≠.agg cs) (h:cV sh x=some p) (hr:ah (num ns) G x v):Rel G'.K p v:=by
 cases x with
 | aY s sz n ag=>
   simp only [cV] at h
   split at h
   · rename_i cells hc
     have key:∀ps els,kC (cells.take (n*sz))=some ps→cK cells=false→n*sz≤cells.length→jl sz ag n ps=some els→Rel G'.K (.aF els) v:=by
       intro ps els h1 hmb hlen h2
       obtain ⟨b,vs,e1,e2,e3⟩:=hf s (ha s (by simp [dq])) cells hc hmb
       simp only [ah] at hr
       obtain ⟨b',cap,hb,rfl,_⟩:=hr
       rw [e1] at hb;cases hb
       have e3':ae (num ns) G' (cells.take (n*sz)) (vs.take (n*sz)):=e3.take _
       have e2':At G'.K b.1 0 (vs.take (n*sz)):=by
         intro j u hj
         rw [List.getElem?_take] at hj
         split at hj
         · exact e2 j u hj
         · simp at hj
       have hps:=sS h1 (Co _ (hl s cells hc)) e3'
       have hpl:ps.length=n*sz:=by rw [←hps.length,e3'.length,List.length_take];omega
       unfold jl at h2
       split at h2
       · simp at h2;subst h2
         refine a7.2 ⟨_,_,_,rfl,by omega,by simp [kP],.inr ⟨b.1,0,sz,rfl,p8 n hps hpl e2'⟩⟩
       · simp only [Option.ite_none_right_eq_some,Option.some.injEq] at h2
         obtain ⟨rfl,rfl⟩:=h2
         exact a7.2 ⟨_,_,_,rfl,by omega,by omega,.inr ⟨b.1,0,1,rfl,nI hps e2'⟩⟩
     split at h
     · rename_i hlen
       simp only [Option.map_eq_some_iff,Option.bind_eq_some_iff] at h
       obtain ⟨els,⟨ps,h1,h2⟩,rfl⟩:=h
       exact key ps els (by rw [List.take_of_length_le (by omega)];exact h1) (zh h1) (by omega) h2
     · simp only [Option.ite_none_right_eq_some,Option.map_eq_some_iff,Option.bind_eq_some_iff] at h
       obtain ⟨⟨hmb,hlen⟩,els,⟨ps,h1,h2⟩,rfl⟩:=h
       exact key ps els h1 hmb hlen h2
   · simp at h
 | agg cs=>exact absurd rfl (hx cs)
 | _=>simp only [cV] at h;exact (kH h hr).mono hle.K
theorem pC {sh:Sh} {x:AV} {p:PV} (h:cV sh x=some p) (hl:aJ x=true):e_ p=true:=by
 cases x with
 | aY s sz n ag=>
   simp only [cV] at h
   split at h
   · split at h
     · simp only [Option.map_eq_some_iff] at h
       obtain ⟨els,_,rfl⟩:=h
       rfl
     · simp only [Option.ite_none_right_eq_some,Option.map_eq_some_iff] at h
       obtain ⟨_,els,_,rfl⟩:=h
       rfl
   · simp at h
 | _=>simp only [cV] at h;exact lB h hl
theorem qY {x:AV} (h:aJ x=true):∀cs,x≠.agg cs:=by
 rintro cs rfl;simp [aJ] at h
theorem iO {G':Gh} {sh:Sh} {ks:List Nat} (hle:G.le G') (hf:ie ns G G' sh ks) (hl:∀(s:Nat) (cells:List AV),sh[s]?=some (some cells)→cells.all aJ=true) :
   ∀{cs:List AV} {ps:List PV} {vs:List Value},(∀s∈dq (.agg cs),s∈ks)→cW sh cs=some ps→ae (num ns) G cs vs→cg G'.K ps vs
 | [],ps,vs,_,h,hr=>by simp [cW] at h;subst h;simp only [ae] at hr;simp [cg,hr]
 | c::cs,ps,vs,ha,h,hr=>by
   simp only [cW,Option.ite_none_right_eq_some] at h
   obtain ⟨hlf,h⟩:=h
   split at h
   · rename_i p ps' h1 h2
     simp at h;subst h
     simp only [ae] at hr
     obtain ⟨v,r,rfl,e1,e2⟩:=hr
     simp only [cg]
     refine ⟨v,r,rfl,(kQ hle hf hl ?_ (qY hlf) h1 e1).Cf (pC h1 hlf),iO hle hf hl ?_ h2 e2⟩
     · intro s hs
       refine ha s ?_
       simp only [dq,List.flatMap_cons,List.mem_append]
       left
       cases c<;>simp_all [dq,aJ]
     · intro s hs
       refine ha s ?_
       simp only [dq,List.flatMap_cons,List.mem_append] at hs ⊢
       exact .inr hs
   · simp at h
theorem nJ {G':Gh} {sh:Sh} {ks:List Nat} (hle:G.le G') (hf:ie ns G G' sh ks) (hl:∀(s:Nat) (cells:List AV),sh[s]?=some (some cells)→cells.all aJ=true)
   {x:AV} {p:PV} {v:Value} (ha:∀s∈dq x,s∈ks) (h:gQ sh x=some p) (hr:ah (num ns) G x v):Rel G'.K p v:=by
 by_cases hx:∃cs,x=.agg cs
 · obtain ⟨cs,rfl⟩:=hx
   simp only [gQ,Option.map_eq_some_iff] at h
   obtain ⟨ps,h1,rfl⟩:=h
   simp only [ah] at hr
   obtain ⟨vs,rfl,hr⟩:=hr
   simp only [Rel]
   exact ⟨vs,rfl,iO hle hf hl ha h1 hr⟩
 · have hx':∀cs,x≠.agg cs:=fun cs e=>hx ⟨cs,e⟩
   have:gQ sh x=cV sh x:=by cases x<;>first | rfl | exact absurd rfl (hx' _)
   rw [this] at h
   exact kQ hle hf hl ha hx' h hr
theorem mj {G':Gh} {sh:Sh} {ks:List Nat} (hle:G.le G') (hf:ie ns G G' sh ks) (hl:∀(s:Nat) (cells:List AV),sh[s]?=some (some cells)→cells.all aJ=true) :
   ∀{xs:List AV} {ps:List PV} {vs:List Value},(∀s∈xs.flatMap dq,s∈ks)→bY sh xs=some ps→ae (num ns) G xs vs→iq G'.K ps vs
 | [],ps,vs,_,h,hr=>by simp [bY] at h;subst h;simp only [ae] at hr;exact hr
 | c::cs,ps,vs,ha,h,hr=>by
   simp only [bY] at h
   split at h
   · rename_i p ps' h1 h2
     simp at h;subst h
     simp only [ae] at hr
     obtain ⟨v,r,rfl,e1,e2⟩:=hr
     simp only [List.flatMap_cons,List.mem_append] at ha
     exact ⟨v,r,rfl,nJ hle hf hl (fun s hs=>ha s (.inl hs)) h1 e1,mj hle hf hl (fun s hs=>ha s (.inr hs)) h2 e2⟩
   · simp at h
theorem Inv.nK {mem:List (Nat×List AV)} {sh:Sh} {aa:al} (hi:Inv (num ns) G w mem sh aa):∀(s:Nat) (cells:List AV),sh[s]?=some (some cells)→cells.all aJ=true:=by
 intro s cells hs
 obtain ⟨b,_,_,e3,_⟩:=hi.bS s cells hs
 exact en e3
end
end Go.Ab
namespace Go.Ab
section
variable {ns:Names} {G:Gh} {w:World}
mutual
theorem eK {ρ:bh} {G':Gh} (hK:G.K.le G'.K) (hs:∀s b,G.sm s=some b→G'.sm s=some b):∀{x:AV} {v:Value},bl x=true→ah ρ G x v→ah ρ G' x v
 | .pv p,_,_,h=>by simp only [ah] at h ⊢;exact h.mono hK
 | .un,_,_,h=>by simpa only [ah] using h
 | .cz _,_,_,h=>by simp only [ah] at h ⊢;obtain ⟨b,l,e,r⟩:=h;exact ⟨b,l,e,r.mono hK⟩
 | .aO s o,_,_,h=>by simp only [ah] at h ⊢;obtain ⟨b,e,r⟩:=h;exact ⟨b,hs _ _ e,r⟩
 | .aY s _ n _,_,_,h=>by simp only [ah] at h ⊢;obtain ⟨b,c,e,r⟩:=h;exact ⟨b,c,hs _ _ e,r⟩
 | .cS _,_,_,h=>by simp only [ah] at h ⊢;obtain ⟨b,o,vs,e,f,r⟩:=h;exact ⟨b,o,vs,e,f.mono hK,cg.mono hK _ _ r⟩
 | .eN,_,_,h=>by simpa only [ah] using h
 | .d_ s,_,_,h=>by simp only [ah] at h ⊢;obtain ⟨b,e,r⟩:=h;exact ⟨b,hs _ _ e,r⟩
 | .mM s _ _,_,_,h=>by simp only [ah] at h ⊢;obtain ⟨b,x,c,e,r⟩:=h;exact ⟨b,x,c,hs _ _ e,r⟩
 | .cT _,_,_,h=>by simp only [ah] at h
 | .fn g cap,_,hp,h=>by
   simp only [bl] at hp
   simp only [ah] at h ⊢
   obtain ⟨f,vs,e1,e2,r⟩:=h
   exact ⟨f,vs,e1,e2,jQ hK hs hp r⟩
 | .agg cs,_,hp,h=>by
   simp only [bl] at hp
   simp only [ah] at h ⊢
   obtain ⟨vs,e,r⟩:=h
   exact ⟨vs,e,jQ hK hs hp r⟩
 | .lr cs,_,hp,h=>by
   simp only [bl] at hp
   simp only [ah] at h ⊢
   obtain ⟨vs,e,r⟩:=h
   exact ⟨vs,e,jQ hK hs hp r⟩
 | .own _ _,_,hp,_=>by simp [bl] at hp
 | .bg _ _,_,hp,_=>by simp [bl] at hp
 | .gR _ _,_,hp,_=>by simp [bl] at hp
theorem jQ {ρ:bh} {G':Gh} (hK:G.K.le G'.K) (hs:∀s b,G.sm s=some b→G'.sm s=some b):∀{xs:List AV} {vs:List Value},bl.ee xs=true→ae ρ G xs vs→ae ρ G' xs vs
 | [],_,_,h=>by simpa only [ae] using h
 | x::xs,_,hp,h=>by
   simp only [bl.ee,Bool.and_eq_true] at hp
   simp only [ae] at h ⊢
   obtain ⟨v,r,e,e1,e2⟩:=h
   exact ⟨v,r,e,eK hK hs hp.1 e1,jQ hK hs hp.2 e2⟩
end
mutual
theorem iP:∀{x:AV},bm x=true→bl x=true
 | .pv _,_=>rfl
 | .aO ..,_=>rfl
 | .aY ..,_=>rfl
 | .eN,_=>rfl
 | .d_ _,_=>rfl
 | .cT _,_=>rfl
 | .mM ..,h=>by simp [bm] at h
 | .fn _ cap,h=>by simp only [bm] at h;simp only [bl];exact kg h
 | .un,h=>by simp [bm] at h
 | .cz _,h=>by simp [bl]
 | .own _ _,h=>by simp [bm] at h
 | .agg _,h=>by simp only [bm] at h;simp only [bl];exact kg h
 | .lr _,h=>by simp [bm] at h
 | .bg _ _,h=>by simp [bm] at h
 | .gR _ _,h=>by simp [bm] at h
 | .cS _,h=>by simp [bm] at h
theorem kg:∀{xs:List AV},bm.gu xs=true→bl.ee xs=true
 | [],_=>rfl
 | x::xs,h=>by
   simp only [bm.gu,Bool.and_eq_true] at h
   simp only [bl.ee,Bool.and_eq_true]
   exact ⟨iP h.1,kg h.2⟩
end
theorem p9 {ρ:bh} {G':Gh} (hK:G.K.le G'.K) (hs:∀s b,G.sm s=some b→G'.sm s=some b) (ht:∀τ t,G.tk τ=some t→G'.tk τ=some t) {x:AV} {v:Value} (hf:gT x=true) (h:ah ρ G x v):ah ρ G' x v:=by
 cases x with
 | own l τ=>
   simp only [ah] at h ⊢
   obtain ⟨t,e1,e2,e3,e4⟩:=h
   exact ⟨t,ht _ _ e1,e2,e3.mono hK,fun hl=>⟨(e4 hl).1,EF (e4 hl).2 fun ⟨b,o,e,r⟩=>⟨b,o,e,Row.mono hK _ _ _ _ r⟩⟩⟩
 | _=>exact eK hK hs (by simpa [gT] using hf) h
theorem gL {ρ:bh} {G':Gh} (hK:G.K.le G'.K) (hs:∀s b,G.sm s=some b→G'.sm s=some b) (ht:∀τ t,G.tk τ=some t→G'.tk τ=some t):∀{xs:List AV} {vs:List Value},ep xs=true→ae ρ G xs vs→ae ρ G' xs vs
 | [],_,_,h=>by simpa only [ae] using h
 | x::xs,_,hp,h=>by
   simp only [ep,Bool.and_eq_true] at hp
   simp only [ae] at h ⊢
   obtain ⟨v,r,e,e1,e2⟩:=h
   exact ⟨v,r,e,p9 hK hs ht hp.1 e1,gL hK hs ht hp.2 e2⟩
theorem kh {x:AV} (h:aJ x=true):bl x=true∨∃l τ,x=.own l τ:=by
 cases x with
 | own l τ=>exact .inr ⟨l,τ,rfl⟩
 | fn g cap=>exact .inl (iP (by simpa [aJ] using h))
 | pv p=>exact .inl rfl
 | cz _=>exact .inl rfl
 | aO _ _=>exact .inl rfl
 | aY _ _ _ _=>exact .inl rfl
 | eN=>exact .inl rfl
 | d_ _=>exact .inl rfl
 | cT _=>exact .inl rfl
 | _=>simp [aJ] at h
theorem cH {live:List Nat} {env:List (Nat×AV)}:∀{l:List Nat} {t:Nat} {v:AV},look (aX live env l) t=some v→look env t=some v∧cZ live v=true∧t∈l
 | [],t,v,h=>by simp [aX,look] at h
 | s::l,t,v,h=>by
   simp only [aX] at h
   split at h
   · rename_i u hu
     split at h
     · rename_i hk
       simp only [look] at h
       split at h
       · rename_i e;subst e;cases h;exact ⟨hu,hk,by simp⟩
       · obtain ⟨h1,h2,h3⟩:=cH h;exact ⟨h1,h2,by simp [h3]⟩
     · obtain ⟨h1,h2,h3⟩:=cH h;exact ⟨h1,h2,by simp [h3]⟩
   · obtain ⟨h1,h2,h3⟩:=cH h;exact ⟨h1,h2,by simp [h3]⟩
theorem cI {mem:List (Nat×List AV)}:∀{l:List Nat} {t:Nat},look (bf mem l) t=if t∈l then look mem t else none
 | [],t=>by simp [bf,look]
 | s::l,t=>by
   simp only [bf]
   by_cases lE:s=t
   · subst lE
     cases hm:look mem s with
     | none=>simp only [hm];rw [cI,hm];simp
     | some v=>simp [look]
   · have hts:t≠s:=fun e=>lE e.symm
     cases hm:look mem s with
     | none=>simp only [hm];rw [cI];simp [hts]
     | some v=>simp only [look,lE,if_false];rw [cI];simp [hts]
def Gh.aD (G:Gh) (live:List Nat):Gh:={ G with pm:=fun d=>if d∈live then G.pm d else none }
theorem sT {ρ:bh} {live:List Nat} {x:AV} {v:Value} (hk:cZ live x=true) (h:ah ρ G x v):ah ρ (G.aD live) x v:=by
 have flat:bl x=true→ah ρ (G.aD live) x v:=fun hf=>eK (G:=G) (G':=G.aD live) (aP.le_refl G.K) (fun _ _ h=>h) hf h
 cases x with
 | bg d o=>
   simp only [ah] at h ⊢
   obtain ⟨b,e,r⟩:=h
   simp [cZ] at hk
   exact ⟨b,by simp [Gh.aD,hk,e],r⟩
 | gR d o=>
   simp only [ah] at h ⊢
   obtain ⟨b,e,r⟩:=h
   simp [cZ] at hk
   exact ⟨b,by simp [Gh.aD,hk,e],r⟩
 | own l τ=>
   simp only [ah] at h ⊢
   exact h
 | agg cs=>
   simp only [ah] at h ⊢
   obtain ⟨vs,e,r⟩:=h
   exact ⟨vs,e,gL (G:=G) (G':=G.aD live) (aP.le_refl G.K) (fun _ _ h=>h) (fun _ _ h=>h) (by simpa [cZ] using hk) r⟩
 | _=>exact flat (by simpa [cZ] using hk)
theorem zi {ρ:bh} {live:List Nat} {x:AV} {v:Value} (hl:aJ x=true) (h:ah ρ G x v):ah ρ (G.aD live) x v:=by
 rcases kh hl with hf | ⟨l,τ,rfl⟩
 · exact eK (G:=G) (G':=G.aD live) (aP.le_refl G.K) (fun _ _ h=>h) hf h
 · simp only [ah] at h ⊢;exact h
theorem jB {ρ:bh} {live:List Nat}:∀{xs:List AV} {vs:List Value},xs.all aJ=true→ae ρ G xs vs→ae ρ (G.aD live) xs vs
 | [],_,_,h=>by simpa only [ae] using h
 | x::xs,_,hl,h=>by
   simp only [List.all_cons,Bool.and_eq_true] at hl
   simp only [ae] at h ⊢
   obtain ⟨v,r,e,e1,e2⟩:=h
   exact ⟨v,r,e,zi hl.1 e1,jB hl.2 e2⟩
theorem Inv.aD {mem:List (Nat×List AV)} {sh:Sh} {aa:al} (hi:Inv (num ns) G w mem sh aa) (live:List Nat):Inv (num ns) (G.aD live) w (bf mem live) sh aa where
 known:=hi.known
 aK:=hi.aK
 fresh:=hi.fresh
 bM:=fun d cells hd=>by
   rw [cI] at hd
   split at hd
   · rename_i hl
     obtain ⟨b,e1,e2,e3⟩:=hi.bM d cells hd
     obtain ⟨hr,c,t,hh,hrel⟩:=e2
     exact ⟨b,by simp [Gh.aD,hl,e1],⟨hr,c,t,hh,jB e3 hrel⟩,e3⟩
   · simp at hd
 eR:=fun d b hd=>by
   simp only [Gh.aD] at hd
   split at hd
   · rename_i hl;rw [cI,if_pos hl];exact hi.eR d b hd
   · simp at hd
 bS:=fun s cells hs=>by
   obtain ⟨b,e1,e2,e3,e4⟩:=hi.bS s cells hs
   obtain ⟨hr,o,hh,hrel⟩:=e2
   exact ⟨b,e1,⟨hr,o,hh,hrel.to (fun _ _ _ h=>h) (fun _ e=>e) (fun _ r=>jB (en e3) r)⟩,e3,e4⟩
 dC:=hi.dC
 bT:=fun τ n hn=>by
   obtain ⟨t,e1,e2,e3⟩:=hi.bT τ n hn
   exact ⟨t,e1,e2,e3.cap,e3.zero,e3.spare⟩
 dD:=hi.dD
 jo:=hi.jo
theorem aZ.aD (live:List Nat):aZ G w (G.aD live) w:=
 { size:=Nat.le_refl _,os:=rfl,tape:=rfl,output:=rfl,K:=aP.le_refl G.K,sm:=fun _ _ h=>h,cP:=fun _ _ h=>⟨h,rfl⟩,fQ:=fun _ τ _ h=>.inr ⟨τ,h⟩,eS:=fun _ _ _ _ _ h=>h }
theorem dM.restrict {n0 N:Nat} {st:St} {a:Act} (h:dM (num ns) n0 N G st a w) (live:List Nat):dM (num ns) n0 N (G.aD live) (restrict live st) a w:=
 ⟨⟨h.env.size,fun t x hx=>by
   obtain ⟨h1,h2,_⟩:=cH hx
   obtain ⟨v,h3,h4⟩:=h.env.env t x h1
   exact ⟨v,h3,sT h2 h4⟩⟩,h.inv.aD live,h.marks.pd (aZ.aD live) rfl⟩
end
end Go.Ab
namespace Go.Ab
section
variable {ns:Names} {G:Gh} {w:World}
structure NS (G:Gh) (aB ts:al) (m:Nat→Option Nat) (tks:List Tk):Prop where
 ts:ts=tks.map (·.len)
 map:∀τ k,m τ=some k→∃t,G.tk τ=some t∧tks[k]?=some t
 inj:∀τ σ k,m τ=some k→m σ=some k→τ=σ
 free:∀τ t,G.tk τ=some t→m τ=none→aB[τ]?=some t.len
 used:∀τ t k,G.tk τ=some t→m τ=some k→aB[τ]?=some (t.len+1)
 cap:∀k t,tks[k]?=some t→(∃τ,m τ=some k)∨(t.cap=t.len∧t.own=false)
def Gh.jk (G:Gh) (m:Nat→Option Nat) (tks:List Tk):Gh:=
 { G with tk:=fun k=>tks[k]?,role:=fun b=>match G.role b with | .tok τ=>(match m τ with | some k=>.tok k | none=>.cP) | r=>r }
theorem GC {m m':Nat→Option Nat} {tks ext:List Tk}:(G.jk m tks).le (G.jk m' (tks++ext)) where
 K:=aP.le_refl G.K
 pm:=fun _ _ h=>h
 sm:=fun _ _ h=>h
 tk:=fun k t h=>⟨t,by
   simp only [Gh.jk] at h ⊢
   rw [List.getElem?_append_left (List.getElem?_eq_some_iff.1 h).1];exact h,⟨Nat.le_refl _,Tk.eQ _⟩,fun _=>rfl⟩
theorem sU {ρ:bh} {m:Nat→Option Nat} {tks:List Tk} {x:AV} {v:Value} (hf:bl x=true) (h:ah ρ G x v):ah ρ (G.jk m tks) x v:=
 eK (G:=G) (G':=G.jk m tks) (aP.le_refl G.K) (fun _ _ h=>h) hf h
theorem iQ {m:Nat→Option Nat} {tks:List Tk} {b τ:Nat} (h:G.role b=.tok τ):(G.jk m tks).role b=match m τ with | some k=>.tok k | none=>.cP:=by
 show (match G.role b with | .tok τ=>(match m τ with | some k=>js.tok k | none=>.cP) | r=>r)=_
 rw [h]
def jd:AV→Bool
 | .bg .. | .gR .. | .own ..=>true
 | .agg cs=>ep cs
 | v=>bl v
structure zj (ns:Names) (G:Gh) (m:Nat→Option Nat) (tks:List Tk) (old' ts':al) (m':Nat→Option Nat) (tks':List Tk):Prop where
 sV:NS G old' ts' m' tks'
 ext:∃ext,tks'=tks++ext
theorem zj.le {m m':Nat→Option Nat} {tks tks':List Tk} {old' ts':al} (h:zj ns G m tks old' ts' m' tks'):(G.jk m tks).le (G.jk m' tks'):=by
 obtain ⟨ext,e⟩:=h.ext
 subst e
 exact GC
theorem ml {aB ts:al} {m:Nat→Option Nat} {tks:List Tk} (hN:NS G aB ts m tks) {x:AV} {v:Value} (hx:gT x=true) (h:ah (num ns) G x v) :
   ∃m' tks',zj ns G m tks (di aB ts x).2.1 (di aB ts x).2.2 m' tks'∧ah (num ns) (G.jk m' tks') (di aB ts x).1 v:=by
 have flat:bl x=true→di aB ts x=(x,aB,ts)→∃m' tks',zj ns G m tks (di aB ts x).2.1 (di aB ts x).2.2 m' tks'∧ah (num ns) (G.jk m' tks') (di aB ts x).1 v:=by
   intro hf e
   rw [e]
   exact ⟨m,tks,⟨hN,[],by simp⟩,sU hf h⟩
 cases x with
 | own l τ=>
   simp only [ah] at h
   obtain ⟨t,e1,e2,e3,e4⟩:=h
   simp only [di]
   split
   · rename_i ho
     have hm:m τ=none:=by
       cases hm:m τ with
       | none=>rfl
       | some k=>
         have:=hN.used τ t k e1 hm
         rw [ho] at this
         simp at this
         omega
     have hlen:l.length=t.len:=by
       have:=hN.free τ t e1 hm
       rw [ho] at this
       simpa using this
     have hk:ts.length=tks.length:=by rw [hN.ts];simp
     refine ⟨fun σ=>if σ=τ then some tks.length else m σ,tks++[t],⟨⟨?_,?_,?_,?_,?_,?_⟩,[t],rfl⟩,?_⟩
     · rw [hN.ts,hlen];simp
     · intro σ k hk'
       split at hk'
       · rename_i e;subst e;simp at hk';subst hk';exact ⟨t,e1,by simp⟩
       · obtain ⟨t',g1,g2⟩:=hN.map σ k hk'
         exact ⟨t',g1,by rw [List.getElem?_append_left (List.getElem?_eq_some_iff.1 g2).1];exact g2⟩
     · intro σ σ' k h1 h2
       split at h1
       · rename_i e;subst e
         split at h2
         · rename_i e';exact e'.symm
         · simp at h1;subst h1
           obtain ⟨t',_,g2⟩:=hN.map σ' _ h2
           have:=(List.getElem?_eq_some_iff.1 g2).1
           omega
       · split at h2
         · rename_i e';subst e'
           simp at h2;subst h2
           obtain ⟨t',_,g2⟩:=hN.map σ _ h1
           have:=(List.getElem?_eq_some_iff.1 g2).1
           omega
         · exact hN.inj σ σ' k h1 h2
     · intro σ t' h1 h2
       split at h2
       · simp at h2
       · rename_i e
         rw [List.getElem?_set,if_neg (fun e'=>e e'.symm)]
         exact hN.free σ t' h1 h2
     · intro σ t' k h1 h2
       split at h2
       · rename_i e;subst e
         rw [e1] at h1;cases h1
         rw [List.getElem?_set,if_pos rfl,if_pos (List.getElem?_eq_some_iff.1 ho).1,hlen]
       · rename_i e
         rw [List.getElem?_set,if_neg (fun e'=>e e'.symm)]
         exact hN.used σ t' k h1 h2
     · intro k t' hk'
       rw [List.getElem?_append] at hk'
       split at hk'
       · rcases hN.cap k t' hk' with ⟨σ,hσ⟩ | hc
         · left
           refine ⟨σ,?_⟩
           rw [if_neg]
           · exact hσ
           · rintro rfl;rw [hm] at hσ;simp at hσ
         · exact .inr hc
       · rename_i hge
         left
         refine ⟨τ,?_⟩
         have:k=tks.length:=by
           have:=(List.getElem?_eq_some_iff.1 hk').1
           simp at this;omega
         simp [this]
     · simp only [ah]
       refine ⟨t,by simp [Gh.jk,hk],⟨by omega,e2.2⟩,e3,fun _=>e4 hlen⟩
   · exact ⟨m,tks,⟨hN,[],by simp⟩,by simp only [ah];exact e3⟩
 | _=>exact flat (by simpa [gT] using hx) rfl
theorem kR:∀{xs:List AV} {vs:List Value} {aB ts:al} {m:Nat→Option Nat} {tks:List Tk},NS G aB ts m tks→ep xs=true→ae (num ns) G xs vs →
   ∃m' tks',zj ns G m tks (bR aB ts xs).2.1 (bR aB ts xs).2.2 m' tks'∧ae (num ns) (G.jk m' tks') (bR aB ts xs).1 vs
 | [],vs,aB,ts,m,tks,hN,_,h=>⟨m,tks,⟨hN,[],by simp⟩,by simpa only [bR,ae] using h⟩
 | x::xs,vs,aB,ts,m,tks,hN,hl,h=>by
   simp only [ep,Bool.and_eq_true] at hl
   simp only [ae] at h
   obtain ⟨v,r,e,e1,e2⟩:=h
   subst e
   obtain ⟨m1,t1,g1,g2⟩:=ml hN hl.1 e1
   obtain ⟨m2,t2,k1,k2⟩:=kR g1.sV hl.2 e2
   refine ⟨m2,t2,⟨k1.sV,?_⟩,?_⟩
   · obtain ⟨a,ha⟩:=g1.ext
     obtain ⟨b,hb⟩:=k1.ext
     exact ⟨a++b,by rw [hb,ha,List.append_assoc]⟩
   · simp only [bR,ae]
     exact ⟨v,r,rfl,g2.mono k1.le,k2⟩
theorem jC {aB ts:al} {m:Nat→Option Nat} {tks:List Tk} (hN:NS G aB ts m tks) {x:AV} {v:Value} (hx:jd x=true) (h:ah (num ns) G x v) :
   ∃m' tks',zj ns G m tks (a8 aB ts x).2.1 (a8 aB ts x).2.2 m' tks'∧ah (num ns) (G.jk m' tks') (a8 aB ts x).1 v:=by
 have flat:bl x=true→a8 aB ts x=(x,aB,ts)→∃m' tks',zj ns G m tks (a8 aB ts x).2.1 (a8 aB ts x).2.2 m' tks'∧ah (num ns) (G.jk m' tks') (a8 aB ts x).1 v:=by
   intro hf e
   rw [e]
   exact ⟨m,tks,⟨hN,[],by simp⟩,sU hf h⟩
 cases x with
 | own l τ=>exact ml (x:=.own l τ) hN rfl h
 | cz l=>
   simp only [ah] at h
   obtain ⟨base,len,rfl,hsl⟩:=h
   have hk:ts.length=tks.length:=by rw [hN.ts];simp
   have hlen:=hsl.1
   obtain ⟨sz,hrow⟩:∃sz,l=[]∨∃b o,base=some ⟨b,o,none⟩∧Row G.K b o sz l:=by
     rcases hsl.2 with h1 | ⟨b,o,sz,e,hr⟩
     · exact ⟨0,.inl h1⟩
     · exact ⟨sz,.inr ⟨b,o,e,hr⟩⟩
   let t:Tk:=⟨base,len,len,sz,false⟩
   refine ⟨m,tks++[t],⟨⟨?_,?_,hN.inj,hN.free,hN.used,?_⟩,[t],rfl⟩,?_⟩
   · simp only [a8];rw [hN.ts];simp [t,hlen]
   · intro σ k hk'
     obtain ⟨t',g1,g2⟩:=hN.map σ k hk'
     exact ⟨t',g1,by rw [List.getElem?_append_left (List.getElem?_eq_some_iff.1 g2).1];exact g2⟩
   · intro k t' hk'
     rw [List.getElem?_append] at hk'
     split at hk'
     · exact hN.cap k t' hk'
     · right
       have:t'=t:=by
         have h1:=List.mem_of_getElem? hk'
         simpa using h1
       rw [this];exact ⟨rfl,rfl⟩
   · simp only [a8,ah]
     refine ⟨t,by simp [Gh.jk,hk],⟨by simp [t,hlen],t.kF⟩,a7.2 ⟨_,_,_,rfl,Nat.le_refl _,hsl⟩,fun _=>⟨rfl,hrow⟩⟩
 | bg d o=>
   simp only [a8]
   exact ⟨m,tks,⟨hN,[],by simp⟩,by simp only [ah] at h ⊢;exact h⟩
 | gR d o=>
   simp only [a8]
   exact ⟨m,tks,⟨hN,[],by simp⟩,by simp only [ah] at h ⊢;exact h⟩
 | pv p=>exact flat rfl rfl
 | un=>exact flat rfl rfl
 | aO _ _=>exact flat rfl rfl
 | aY _ _ _ _=>exact flat rfl rfl
 | cS _=>exact flat rfl rfl
 | eN=>exact flat rfl rfl
 | fn _ _=>exact flat (by simpa [jd] using hx) rfl
 | agg cs=>
   by_cases hf:bl.ee cs=true
   · exact flat (by simpa [bl] using hf) (by simp only [a8];rw [if_pos hf])
   · simp only [ah] at h
     obtain ⟨vs,rfl,r⟩:=h
     obtain ⟨m',tks',g1,g2⟩:=kR hN (by simpa [jd] using hx) r
     have e:a8 aB ts (.agg cs)=(.agg (bR aB ts cs).1,(bR aB ts cs).2.1,(bR aB ts cs).2.2):=by simp only [a8];rw [if_neg hf]
     rw [e]
     exact ⟨m',tks',g1,by simp only [ah];exact ⟨vs,rfl,g2⟩⟩
 | lr _=>exact flat (by simpa [jd] using hx) rfl
 | d_ _=>exact flat rfl rfl
 | mM _ _ _=>exact flat rfl rfl
 | cT _=>simp only [ah] at h
theorem vk {x:AV} (h:aJ x=true):jd x=true:=by
 rcases kh h with hf | ⟨l,τ,rfl⟩
 · cases x<;>simp_all [jd,bl,aJ]
 · rfl
theorem vl {aB ts:al} {x:AV} (h:aJ x=true):aJ (a8 aB ts x).1=true:=by
 cases x with
 | own l τ=>simp only [a8];split<;>rfl
 | cz l=>rfl
 | agg _=>simp [aJ] at h
 | _=>exact h
theorem jD:∀{xs:List AV} {vs:List Value} {aB ts:al} {m:Nat→Option Nat} {tks:List Tk},NS G aB ts m tks→xs.all aJ=true→ae (num ns) G xs vs →
   ∃m' tks',zj ns G m tks (aV aB ts xs).2.1 (aV aB ts xs).2.2 m' tks'∧ae (num ns) (G.jk m' tks') (aV aB ts xs).1 vs∧(aV aB ts xs).1.all aJ=true
 | [],vs,aB,ts,m,tks,hN,_,h=>⟨m,tks,⟨hN,[],by simp⟩,by simpa only [aV,ae] using h,rfl⟩
 | x::xs,vs,aB,ts,m,tks,hN,hl,h=>by
   simp only [List.all_cons,Bool.and_eq_true] at hl
   simp only [ae] at h
   obtain ⟨v,r,e,e1,e2⟩:=h
   subst e
   obtain ⟨m1,t1,g1,g2⟩:=jC hN (vk hl.1) e1
   obtain ⟨m2,t2,k1,k2,k3⟩:=jD g1.sV hl.2 e2
   refine ⟨m2,t2,⟨k1.sV,?_⟩,?_,?_⟩
   · obtain ⟨a,ha⟩:=g1.ext
     obtain ⟨b,hb⟩:=k1.ext
     exact ⟨a++b,by rw [hb,ha,List.append_assoc]⟩
   · simp only [aV,ae]
     exact ⟨v,r,rfl,g2.mono k1.le,k2⟩
   · simp only [aV,List.all_cons,k3,Bool.and_true]
     exact vl hl.1
theorem mm {a:Act}:∀{env:List (Nat×AV)} {aB ts:al} {m:Nat→Option Nat} {tks:List Tk},NS G aB ts m tks →
   (∀p∈env,jd p.2=true∧∃v,a.tmps[p.1]?=some v∧ah (num ns) G p.2 v) →
   ∃m' tks',zj ns G m tks (cA aB ts env).2.1 (cA aB ts env).2.2 m' tks'∧∀p∈(cA aB ts env).1,∃v,a.tmps[p.1]?=some v∧ah (num ns) (G.jk m' tks') p.2 v
 | [],aB,ts,m,tks,hN,_=>⟨m,tks,⟨hN,[],by simp⟩,by simp [cA]⟩
 | (t,x)::env,aB,ts,m,tks,hN,h=>by
   obtain ⟨hx,v,hv,hr⟩:=h (t,x) (by simp)
   obtain ⟨m1,t1,g1,g2⟩:=jC hN hx hr
   obtain ⟨m2,t2,k1,k2⟩:=mm (env:=env) (a:=a) g1.sV (fun p hp=>h p (by simp [hp]))
   refine ⟨m2,t2,⟨k1.sV,?_⟩,?_⟩
   · obtain ⟨a,ha⟩:=g1.ext
     obtain ⟨b,hb⟩:=k1.ext
     exact ⟨a++b,by rw [hb,ha,List.append_assoc]⟩
   · intro p hp
     simp only [cA,List.mem_cons] at hp
     rcases hp with rfl | hp
     · exact ⟨v,hv,g2.mono k1.le⟩
     · exact k2 p hp
def GD (ns:Names) (G:Gh) (w:World) (d:Nat) (cells:List AV) (G':Gh):Prop:=
 ∃b c t,G.pm d=some b∧G.role b=.jh d∧w.heap[b]?=some (.cells c t (0,0))∧ae (num ns) G' cells c.toList∧cells.all aJ=true
theorem mo:∀{mem:List (Nat×List AV)} {aB ts:al} {m:Nat→Option Nat} {tks:List Tk},NS G aB ts m tks →
   (∀p∈mem,GD ns G w p.1 p.2 G) →
   ∃m' tks',zj ns G m tks (dP aB ts mem).2.1 (dP aB ts mem).2.2 m' tks'∧∀p∈(dP aB ts mem).1,GD ns G w p.1 p.2 (G.jk m' tks')
 | [],aB,ts,m,tks,hN,_=>⟨m,tks,⟨hN,[],by simp⟩,by simp [dP]⟩
 | (d,cells)::mem,aB,ts,m,tks,hN,h=>by
   obtain ⟨b,c,t,h1,h2,h3,h4,h5⟩:=h (d,cells) (by simp)
   obtain ⟨m1,t1,g1,g2,g3⟩:=jD hN h5 h4
   obtain ⟨m2,t2,k1,k2⟩:=mo (mem:=mem) g1.sV (fun p hp=>h p (by simp [hp]))
   refine ⟨m2,t2,⟨k1.sV,?_⟩,?_⟩
   · obtain ⟨a,ha⟩:=g1.ext
     obtain ⟨b,hb⟩:=k1.ext
     exact ⟨a++b,by rw [hb,ha,List.append_assoc]⟩
   · intro p hp
     simp only [dP,List.mem_cons] at hp
     rcases hp with rfl | hp
     · exact ⟨b,c,t,h1,h2,h3,ae.mono k1.le g2,g3⟩
     · exact k2 p hp
theorem vm {aB ts:al} {n:Nat} {x:AV} (h:au n x=true):au n (di aB ts x).1=true:=by
 unfold di
 split
 · split<;>simp [au]
 · exact h
theorem mq {n:Nat}:∀{xs:List AV} {aB ts:al},au.bK n xs=true→au.bK n (bR aB ts xs).1=true
 | [],_,_,_=>rfl
 | x::xs,aB,ts,h=>by
   simp only [au.bK,Bool.and_eq_true] at h
   simp only [bR,au.bK,vm h.1,Bool.true_and]
   exact mq h.2
theorem vn {aB ts:al} {n:Nat} {x:AV} (h:au n x=true):au n (a8 aB ts x).1=true:=by
 unfold a8
 split
 · split<;>simp [au]
 · simp [au]
 · split
   · exact h
   · simp only [au] at h ⊢
     exact mq h
 · exact h
theorem nL {n:Nat}:∀{xs:List AV} {aB ts:al},xs.all (au n)=true→(aV aB ts xs).1.all (au n)=true
 | [],_,_,_=>rfl
 | x::xs,aB,ts,h=>by
   simp only [List.all_cons,Bool.and_eq_true] at h
   simp only [aV,List.all_cons,vn h.1,Bool.true_and]
   exact nL h.2
theorem hP:∀{sh:Sh} {aB ts:al} {m:Nat→Option Nat} {tks:List Tk} (R:Nat→Option (Obj×Nat)),NS G aB ts m tks →
   (∀s cells,sh[s]?=some (some cells)→cells.all aJ=true∧∃o,R s=some o∧Holds (num ns) G o.1 o.2 cells) →
   ∃m' tks',zj ns G m tks (bZ aB ts sh).2.1 (bZ aB ts sh).2.2 m' tks'∧(bZ aB ts sh).1.length=sh.length ∧
     ∀s cells',(bZ aB ts sh).1[s]?=some (some cells')→∃cells,sh[s]?=some (some cells)∧(∃o,R s=some o∧Holds (num ns) (G.jk m' tks') o.1 o.2 cells')∧cells'.all aJ=true∧∀n,cells.all (au n)=true→cells'.all (au n)=true
 | [],aB,ts,m,tks,R,hN,_=>⟨m,tks,⟨hN,[],by simp⟩,rfl,fun s cells' h=>by simp [bZ] at h⟩
 | none::sh,aB,ts,m,tks,R,hN,h=>by
   obtain ⟨m1,t1,g1,g2,g3⟩:=hP (sh:=sh) (fun s=>R (s+1)) hN (fun s cells hs=>h (s+1) cells (by simpa using hs))
   refine ⟨m1,t1,g1,by simp [bZ,g2],fun s cells' hs=>?_⟩
   cases s with
   | zero=>simp [bZ] at hs
   | succ s=>
     obtain ⟨cells,k1,k2⟩:=g3 s cells' (by simpa [bZ] using hs)
     exact ⟨cells,by simpa using k1,k2⟩
 | some cs::sh,aB,ts,m,tks,R,hN,h=>by
   obtain ⟨hl,o,hR,hr⟩:=h 0 cs rfl
   obtain ⟨m1,t1,g1,g2,g3⟩:∃m' tks',zj ns G m tks (aV aB ts cs).2.1 (aV aB ts cs).2.2 m' tks'∧Holds (num ns) (G.jk m' tks') o.1 o.2 (aV aB ts cs).1∧(aV aB ts cs).1.all aJ=true:=by
     rcases hr with ⟨c,t,vs,suf,ho,e3,e4,hr⟩ | ⟨es,clock,kvs,ho,rfl,hm⟩
     · obtain ⟨m1,t1,g1,g2,g3⟩:=jD hN hl hr
       exact ⟨m1,t1,g1,.inl ⟨c,t,vs,suf,ho,e3,e4,g2⟩,g3⟩
     · exact ⟨m,tks,⟨hN,[],by simp⟩,.inr ⟨es,clock,kvs,ho,rfl,hm⟩,rfl⟩
   obtain ⟨m2,t2,k1,k2,k3⟩:=hP (sh:=sh) (fun s=>R (s+1)) g1.sV (fun s cells hs=>h (s+1) cells (by simpa using hs))
   refine ⟨m2,t2,⟨k1.sV,?_⟩,by simp [bZ,k2],fun s cells' hs=>?_⟩
   · obtain ⟨a,ha⟩:=g1.ext
     obtain ⟨b,hb⟩:=k1.ext
     exact ⟨a++b,by rw [hb,ha,List.append_assoc]⟩
   · cases s with
     | zero=>
       simp only [bZ,List.getElem?_cons_zero,Option.some.injEq] at hs
       subst hs
       exact ⟨cs,rfl,⟨o,hR,g2.mono k1.le⟩,g3,fun n hn=>nL hn⟩
     | succ s=>
       obtain ⟨cells,q1,q2⟩:=k3 s cells' (by simpa [bZ] using hs)
       exact ⟨cells,by simpa using q1,q2⟩
def iR (G:Gh) (w:World) (s:Nat):Option (Obj×Nat):=(G.sm s).bind fun b=>(w.heap[b.1]?).map fun o=>(o,b.2)
theorem Inv.iR {mem:List (Nat×List AV)} {sh:Sh} {aa:al} (hi:Inv (num ns) G w mem sh aa):∀s cells,sh[s]?=some (some cells)→cells.all aJ=true∧∃o,Go.Ab.iR G w s=some o∧Holds (num ns) G o.1 o.2 cells:=by
 intro s cells hs
 obtain ⟨b,e1,e2,e3,e4⟩:=hi.bS s cells hs
 obtain ⟨hr,o,hh,hrel⟩:=e2
 exact ⟨e3,(o,b.2),by simp [Go.Ab.iR,e1,hh],hrel⟩
theorem Inv.Gb {mem:List (Nat×List AV)} {sh:Sh} {aa:al} (hi:Inv (num ns) G w mem sh aa) {sh':Sh} {G':Gh} (hsm:∀s,G'.sm s=G.sm s) (hrole:∀b s,G.role b=.shr s→G'.role b=.shr s)
   (h:∀s cells',sh'[s]?=some (some cells')→∃cells,sh[s]?=some (some cells)∧(∃o,Go.Ab.iR G w s=some o∧Holds (num ns) G' o.1 o.2 cells')∧cells'.all aJ=true∧∀n,cells.all (au n)=true→cells'.all (au n)=true) :
   ∀s cells,sh'[s]?=some (some cells)→∃b,G'.sm s=some b∧qL (num ns) G' w b (.shr s) cells∧cells.all bO=true∧cells.all (au (s+1))=true:=by
 intro s cells' hs
 obtain ⟨cells,h1,⟨o,h2,h2'⟩,h3,h4⟩:=h s cells' hs
 obtain ⟨b,e1,e2,e3,e4⟩:=hi.bS s cells h1
 simp only [Go.Ab.iR,e1,Option.bind_some,Option.map_eq_some_iff] at h2
 obtain ⟨o',h5,rfl⟩:=h2
 exact ⟨b,by rw [hsm];exact e1,⟨hrole b.1 s e2.role,o',h5,h2'⟩,h3,h4 _ e4⟩
theorem kS {α:Type}:∀{l:List (Nat×α)} {t:Nat} {x:α},look l t=some x→(t,x)∈l
 | [],_,_,h=>by simp [look] at h
 | (s,y)::l,t,x,h=>by
   simp only [look] at h
   split at h
   · rename_i e;subst e;cases h;simp
   · exact List.mem_cons_of_mem _ (kS h)
theorem nM:∀{mem:List (Nat×List AV)} {aB ts:al} {d:Nat},(look mem d).isSome=true→(look (dP aB ts mem).1 d).isSome=true
 | [],_,_,d,h=>by simp [look] at h
 | (s,y)::mem,aB,ts,d,h=>by
   simp only [dP,look] at h ⊢
   split
   · rfl
   · rename_i hne
     rw [if_neg hne] at h
     exact nM h
theorem NS.start {mem:List (Nat×List AV)} {sh:Sh} {aa:al} (hi:Inv (num ns) G w mem sh aa):NS G aa [] (fun _=>none) [] where
 ts:=rfl
 map:=by intro τ k h;simp at h
 inj:=by intro τ σ k h;simp at h
 free:=fun τ t h _=>hi.dD τ t h
 used:=by intro τ t k _ h;simp at h
 cap:=by intro k t h;simp at h
theorem dF {live:List Nat} {env:List (Nat×AV)}:∀{l:List Nat} {p:Nat×AV},p∈aX live env l→look env p.1=some p.2∧cZ live p.2=true
 | [],p,h=>by simp [aX] at h
 | s::l,p,h=>by
   simp only [aX] at h
   split at h
   · rename_i u hu
     split at h
     · rename_i hk
       simp only [List.mem_cons] at h
       rcases h with rfl | h
       · exact ⟨hu,hk⟩
       · exact dF h
     · exact dF h
   · exact dF h
theorem fR {mem:List (Nat×List AV)}:∀{l:List Nat} {p:Nat×List AV},p∈bf mem l→look mem p.1=some p.2∧p.1∈l
 | [],p,h=>by simp [bf] at h
 | s::l,p,h=>by
   simp only [bf] at h
   split at h
   · rename_i u hu
     simp only [List.mem_cons] at h
     rcases h with rfl | h
     · exact ⟨hu,by simp⟩
     · obtain ⟨h1,h2⟩:=fR h;exact ⟨h1,by simp [h2]⟩
   · obtain ⟨h1,h2⟩:=fR h;exact ⟨h1,by simp [h2]⟩
theorem dM.head {n0 N:Nat} {st:St} {a:Act} (h:dM (num ns) n0 N G st a w) (live:List Nat):∃G',dM (num ns) n0 N G' (norm (Go.Ab.restrict live st)) a w∧aZ G w G' w:=by
 have h0:=h.restrict live
 have hi:=h0.inv
 have hE:∀p∈(Go.Ab.restrict live st).env,jd p.2=true∧∃v,a.tmps[p.1]?=some v∧ah (num ns) (G.aD live) p.2 v:=by
   intro p hp
   obtain ⟨h1,h2⟩:=dF hp
   obtain ⟨v,h3,h4⟩:=h.env.env p.1 p.2 h1
   refine ⟨?_,v,h3,sT h2 h4⟩
   cases hpx:p.2<;>rw [hpx] at h2<;>simp_all [jd,cZ,bl]
 have hM:∀p∈(Go.Ab.restrict live st).mem,GD ns (G.aD live) w p.1 p.2 (G.aD live):=by
   intro p hp
   obtain ⟨h1,h2⟩:=fR hp
   have h3:look (Go.Ab.restrict live st).mem p.1=some p.2:=by
     show look (bf st.mem live) p.1=some p.2
     rw [cI,if_pos h2,h1]
   obtain ⟨b,e1,e2,e3⟩:=hi.bM p.1 p.2 h3
   obtain ⟨hr,c,t,hh,hrel⟩:=e2
   exact ⟨b,c,t,e1,hr,hh,hrel,e3⟩
 obtain ⟨m1,t1,g1,g2⟩:=mm (NS.start hi) hE
 obtain ⟨m3,t3,k1,k2⟩:=mo (w:=w) g1.sV hM
 obtain ⟨m2,t2,q1,q2,q3⟩:=hP (iR (G.aD live) w) k1.sV hi.iR
 have hN:=q1.sV
 have hle3:=q1.le
 have hle:=Gh.le_trans k1.le q1.le
 have hrole:∀b r,(G.aD live).role b=r→(∀τ,r≠.tok τ)→((G.aD live).jk m2 t2).role b=r:=by
   intro b r hr hn
   show (match (G.aD live).role b with | .tok τ=>(match m2 τ with | some k=>js.tok k | none=>.cP) | r=>r)=r
   rw [hr]
   cases r with
   | tok τ=>exact absurd rfl (hn τ)
   | _=>rfl
 have hevo:aZ G w ((G.aD live).jk m2 t2) w:={
   size:=Nat.le_refl _,os:=rfl,tape:=rfl,output:=rfl,K:=aP.le_refl G.K,sm:=fun _ _ h=>h,
   cP:=fun b _ hr=>⟨hrole b _ hr (by simp),rfl⟩
   fQ:=fun b τ _ hr=>by
     have hr':(G.aD live).role b=.tok τ:=hr
     rw [iQ hr']
     cases m2 τ with
     | none=>exact .inl rfl
     | some k=>exact .inr ⟨k,rfl⟩
   eS:=fun _ _ _ _ _ h=>h }
 refine ⟨(G.aD live).jk m2 t2,⟨⟨h.env.size,fun t x hx=>?_⟩,?_,h.marks.pd hevo rfl⟩,hevo⟩
 · obtain ⟨v,h1,h2⟩:=g2 (t,x) (kS hx)
   exact ⟨v,h1,h2.mono hle⟩
 · constructor
   · exact hi.known
   · intro b o v hk
     rcases hi.aK b o v hk with h1 | ⟨τ,h1⟩
     · exact .inl (hrole b _ h1 (by simp))
     · rw [iQ h1]
       cases m2 τ with
       | none=>exact .inl rfl
       | some k=>exact .inr ⟨k,rfl⟩
   · intro b hb;exact hrole b _ (hi.fresh b hb) (by simp)
   · intro d cells hd
     obtain ⟨b,c,t,h1,h2,h3,h4,h5⟩:=k2 (d,cells) (kS hd)
     exact ⟨b,h1,⟨hrole b _ h2 (by simp),c,t,h3,ae.mono hle3 h4⟩,h5⟩
   · intro d b hd
     exact nM (hi.eR d b hd)
   · exact hi.Gb (G':=(G.aD live).jk m2 t2) (fun _=>rfl) (fun b s hr=>hrole b _ hr (by simp)) q3
   · intro s b hs
     have:=hi.dC s b hs
     have e:(norm (Go.Ab.restrict live st)).sh.length=(Go.Ab.restrict live st).sh.length:=q2
     omega
   · intro k n hn
     have hts:(norm (Go.Ab.restrict live st)).aa=t2.map (·.len):=hN.ts
     rw [hts,List.getElem?_map,Option.map_eq_some_iff] at hn
     obtain ⟨t,ht,rfl⟩:=hn
     refine ⟨t,ht,rfl,?_⟩
     rcases hN.cap k t ht with ⟨τ,hτ⟩ | hc
     · obtain ⟨t',h1,h2⟩:=hN.map τ k hτ
       rw [ht] at h2;cases h2
       obtain ⟨t'',e1,e2,e3⟩:=hi.bT τ _ (hi.dD τ t h1)
       rw [h1] at e1;cases e1
       refine ⟨e3.cap,e3.zero,fun hlt=>?_⟩
       obtain ⟨b,o,c,ty,f1,f2,f3,f4,f5⟩:=e3.spare hlt
       refine ⟨b,o,c,ty,f1,?_,f3,f4,f5⟩
       rw [iQ f2,hτ]
     · exact ⟨by omega,fun h=>by omega,fun h=>h.elim (fun h=>by omega) (fun h=>by rw [hc.2] at h;cases h)⟩
   · intro k t ht
     have hts:(norm (Go.Ab.restrict live st)).aa=t2.map (·.len):=hN.ts
     rw [hts,List.getElem?_map]
     have ht':t2[k]?=some t:=ht
     rw [ht'];rfl
   · exact fun b c hb=>⟨hrole b _ (hi.jo b c hb).1 (by simp),(hi.jo b c hb).2⟩
end
end Go.Ab
namespace Go.Ab
section
variable {P:Program} {ns:Names} {G:Gh} {w:World}
theorem sW {x:AV} (h:im x=true):gT x=true:=by
 cases x with
 | own _ _=>rfl
 | _=>simpa [gT,im] using iP (by simpa [im] using h)
theorem iS:∀{xs:List AV},dO xs=true→ep xs=true
 | [],_=>rfl
 | x::xs,h=>by
   simp only [dO,Bool.and_eq_true] at h
   simp only [ep,sW h.1,iS h.2,Bool.and_self]
theorem sX {x:AV} (h:a9 x=true):jd x=true:=by
 cases x with
 | own _ _=>rfl
 | bg _ _=>rfl
 | agg cs=>simp only [jd];exact iS (by simpa [a9] using h)
 | _=>simpa [jd,a9] using iP (by simpa [a9] using h)
theorem sY {aB ts:al} {x:AV} (h:im x=true):im (di aB ts x).1=true:=by
 unfold di
 split
 · split<;>rfl
 · exact h
theorem mr:∀{xs:List AV} {aB ts:al},dO xs=true→dO (bR aB ts xs).1=true
 | [],_,_,_=>rfl
 | x::xs,aB,ts,h=>by
   simp only [dO,Bool.and_eq_true] at h
   simp only [bR,dO,sY h.1,Bool.true_and]
   exact mr h.2
theorem sZ {aB ts:al} {x:AV} (h:a9 x=true):a9 (a8 aB ts x).1=true:=by
 unfold a8
 split
 · split<;>rfl
 · rfl
 · split
   · exact h
   · simp only [a9] at h ⊢
     exact mr h
 · exact h
theorem fG:∀{xs:List AV} {aB ts:al},xs.all a9=true→(aV aB ts xs).1.all a9=true
 | [],_,_,_=>rfl
 | x::xs,aB,ts,h=>by
   simp only [List.all_cons,Bool.and_eq_true] at h
   simp only [aV,List.all_cons,sZ h.1,Bool.true_and]
   exact fG h.2
theorem s8 {x:AV} (h:aJ x=true):a9 x=true:=by
 cases x with
 | own _ _=>rfl
 | fn g cap=>simpa [aJ,a9] using h
 | pv _=>rfl
 | cz _=>rfl
 | aO _ _=>rfl
 | aY _ _ _ _=>rfl
 | eN=>rfl
 | d_ _=>rfl
 | cT _=>rfl
 | _=>simp [aJ] at h
theorem gh {xs:List AV} (h:xs.all aJ=true):xs.all a9=true:=by
 rw [List.all_eq_true] at *
 exact fun x hx=>s8 (h x hx)
theorem kT:∀{xs:List AV} {vs:List Value} {aB ts:al} {m:Nat→Option Nat} {tks:List Tk},NS G aB ts m tks→xs.all a9=true→ae (num ns) G xs vs →
   ∃m' tks',zj ns G m tks (aV aB ts xs).2.1 (aV aB ts xs).2.2 m' tks'∧ae (num ns) (G.jk m' tks') (aV aB ts xs).1 vs
 | [],vs,aB,ts,m,tks,hN,_,h=>⟨m,tks,⟨hN,[],by simp [aV]⟩,by simpa only [aV,ae] using h⟩
 | x::xs,vs,aB,ts,m,tks,hN,hp,h=>by
   simp only [List.all_cons,Bool.and_eq_true] at hp
   simp only [ae] at h
   obtain ⟨v,r,e,e1,e2⟩:=h
   subst e
   obtain ⟨m1,t1,g1,g2⟩:=jC hN (sX hp.1) e1
   obtain ⟨m2,t2,k1,k2⟩:=kT g1.sV hp.2 e2
   refine ⟨m2,t2,⟨k1.sV,?_⟩,?_⟩
   · obtain ⟨a,ha⟩:=g1.ext
     obtain ⟨b,hb⟩:=k1.ext
     exact ⟨a++b,by rw [hb,ha,List.append_assoc]⟩
   · simp only [aV,ae]
     exact ⟨v,r,rfl,g2.mono k1.le,k2⟩
theorem zk {aB ts:al} {x:AV}:(di aB ts x).2.1.length=aB.length:=by
 unfold di
 split
 · split<;>simp
 · rfl
theorem nN:∀{xs:List AV} {aB ts:al},(bR aB ts xs).2.1.length=aB.length
 | [],_,_=>rfl
 | x::xs,aB,ts=>by simp only [bR];rw [nN,zk]
theorem zm {aB ts:al} {x:AV}:(a8 aB ts x).2.1.length=aB.length:=by
 unfold a8
 split
 · split<;>simp
 · rfl
 · split
   · rfl
   · exact nN
 · rfl
theorem lH:∀{xs:List AV} {aB ts:al},(aV aB ts xs).2.1.length=aB.length
 | [],_,_=>rfl
 | x::xs,aB,ts=>by simp only [aV];rw [lH,zm]
theorem lI:∀{sh:Sh} {aB ts:al},(bZ aB ts sh).2.1.length=aB.length
 | [],_,_=>rfl
 | none::sh,aB,ts=>by simp only [bZ];exact lI
 | some cs::sh,aB,ts=>by simp only [bZ];rw [lI,lH]
def Gh.to (G:Gh) (m:Nat→Option Nat) (tks:List Tk):Gh:=
 { K:=G.K,role:=fun b=>match G.role b with | .shr s=>.shr s | .tok τ=>(match m τ with | some k=>.tok k | none=>.cP) | _=>.cP,pm:=fun _=>none,sm:=G.sm,tk:=fun k=>tks[k]? }
theorem GF {m:Nat→Option Nat} {tks:List Tk} {b s:Nat} (h:G.role b=.shr s):(G.to m tks).role b=.shr s:=by simp [Gh.to,h]
theorem qZ {m:Nat→Option Nat} {tks:List Tk} {b τ k:Nat} (h:G.role b=.tok τ) (hm:m τ=some k):(G.to m tks).role b=.tok k:=by simp [Gh.to,h,hm]
theorem kU {m:Nat→Option Nat} {tks:List Tk} {b τ:Nat} (h:G.role b=.tok τ) (hm:m τ=none):(G.to m tks).role b=.cP:=by simp [Gh.to,h,hm]
theorem jE {m:Nat→Option Nat} {tks:List Tk} {b:Nat} (h:G.role b=.cP):(G.to m tks).role b=.cP:=by simp [Gh.to,h]
theorem q8 {m:Nat→Option Nat} {tks:List Tk} {b d:Nat} (h:G.role b=.jh d):(G.to m tks).role b=.cP:=by simp [Gh.to,h]
theorem vp {ρ:bh} {G':Gh} (hK:G.K.le G'.K) (hs:∀s b,G.sm s=some b→G'.sm s=some b) (ht:∀τ t,G.tk τ=some t→G'.tk τ=some t) {xs:List AV} {vs:List Value} (hp:dO xs=true) (h:ae ρ G xs vs):ae ρ G' xs vs:=
 gL hK hs ht (iS hp) h
theorem zn {ρ:bh} {G':Gh} (hK:G.K.le G'.K) (hs:∀s b,G.sm s=some b→G'.sm s=some b) (ht:∀τ t,G.tk τ=some t→G'.tk τ=some t) {x:AV} {v:Value} (hp:a9 x=true) (h:ah ρ G x v):ah ρ G' x v:=by
 cases x with
 | own l τ=>
   simp only [ah] at h ⊢
   obtain ⟨t,e1,e2,e3,e4⟩:=h
   exact ⟨t,ht _ _ e1,e2,e3.mono hK,fun hl=>⟨(e4 hl).1,EF (e4 hl).2 fun ⟨b,o,e,r⟩=>⟨b,o,e,Row.mono hK _ _ _ _ r⟩⟩⟩
 | agg cs=>
   simp only [ah] at h ⊢
   obtain ⟨vs,e,r⟩:=h
   exact ⟨vs,e,vp hK hs ht (by simpa [a9] using hp) r⟩
 | _=>exact jP hK hs (by simpa [a9] using hp) h
theorem gM {ρ:bh} {G':Gh} (hK:G.K.le G'.K) (hs:∀s b,G.sm s=some b→G'.sm s=some b) (ht:∀τ t,G.tk τ=some t→G'.tk τ=some t):∀{xs:List AV} {vs:List Value},xs.all a9=true→ae ρ G xs vs→ae ρ G' xs vs
 | [],_,_,h=>by simpa only [ae] using h
 | x::xs,_,hp,h=>by
   simp only [List.all_cons,Bool.and_eq_true] at hp
   simp only [ae] at h ⊢
   obtain ⟨v,r,e,e1,e2⟩:=h
   exact ⟨v,r,e,zn hK hs ht hp.1 e1,gM hK hs ht hp.2 e2⟩
theorem Inv.Cm {mem:List (Nat×List AV)} {sh:Sh} {aa:al} (hi:Inv (num ns) G w mem sh aa) {xs:List AV} {vs:List Value} (hp:xs.all a9=true) (hr:ae (num ns) G xs vs) :
   ∃m tks,NS G (cf aa xs sh).2.2.1 (cf aa xs sh).2.2.2 m tks∧Inv (num ns) (G.to m tks) w [] (cf aa xs sh).2.1 (cf aa xs sh).2.2.2∧ae (num ns) (G.to m tks) (cf aa xs sh).1 vs:=by
 obtain ⟨m0,tks0,hR,hrel⟩:=kT (NS.start hi) hp hr
 obtain ⟨m,tks,q1,q2,q3⟩:=hP (Go.Ab.iR G w) hR.sV hi.iR
 have hN:=q1.sV
 refine ⟨m,tks,hN,?_,gM (G:=G.jk m tks) (G':=G.to m tks) (aP.le_refl _) (fun _ _ h=>h) (fun _ _ h=>h) (fG hp) (ae.mono q1.le hrel)⟩
 constructor
 · exact hi.known
 · intro b o v hk
   rcases hi.aK b o v hk with h | ⟨τ,h⟩
   · exact .inl (jE h)
   · cases hm:m τ with
     | none=>exact .inl (kU h hm)
     | some k=>exact .inr ⟨k,qZ h hm⟩
 · intro b hb;exact jE (hi.fresh b hb)
 · intro d cells h;simp [look] at h
 · intro d b h;simp [Gh.to] at h
 · refine hi.Gb (G':=G.to m tks) (fun _=>rfl) (fun b s hr=>GF hr) fun s cells' hs=>?_
   obtain ⟨cells,h1,h2,h3,h4⟩:=q3 s cells' hs
   obtain ⟨o,h2,h2'⟩:=h2
   exact ⟨cells,h1,⟨o,h2,h2'.to (fun _ _ _ h=>h) (fun _ e=>e) (fun _ r=>gM (G:=G.jk m tks) (G':=G.to m tks) (aP.le_refl _) (fun _ _ h=>h) (fun _ _ h=>h) (gh h3) r)⟩,h3,h4⟩
 · intro s b hs
   have:=hi.dC s b hs
   have e:(cf aa xs sh).2.1.length=sh.length:=q2
   omega
 · intro k n hn
   have hts:(cf aa xs sh).2.2.2=tks.map (·.len):=hN.ts
   rw [hts,List.getElem?_map,Option.map_eq_some_iff] at hn
   obtain ⟨t,ht,rfl⟩:=hn
   refine ⟨t,ht,rfl,?_⟩
   rcases hN.cap k t ht with ⟨τ,hτ⟩ | hc
   · obtain ⟨t',h1,h2⟩:=hN.map τ k hτ
     rw [ht] at h2;cases h2
     obtain ⟨t'',e1,e2,e3⟩:=hi.bT τ _ (hi.dD τ t h1)
     rw [h1] at e1;cases e1
     refine ⟨e3.cap,e3.zero,fun hlt=>?_⟩
     obtain ⟨b,o,c,ty,f1,f2,f3,f4,f5⟩:=e3.spare hlt
     exact ⟨b,o,c,ty,f1,qZ f2 hτ,f3,f4,f5⟩
   · exact ⟨by omega,fun h=>by omega,fun h=>h.elim (fun h=>by omega) (fun h=>by rw [hc.2] at h;cases h)⟩
 · intro k t ht
   have hts:(cf aa xs sh).2.2.2=tks.map (·.len):=hN.ts
   rw [hts,List.getElem?_map]
   have ht':tks[k]?=some t:=ht
   rw [ht'];rfl
 · exact fun b c hb=>⟨jE (hi.jo b c hb).1,(hi.jo b c hb).2⟩
theorem zo {aa:al} {xs:List AV} {sh:Sh}:(cf aa xs sh).2.2.1.length=aa.length:=by
 unfold cf
 simp only [lI,lH]
theorem aZ.to {G1:Gh} {w1:World} (h:aZ G w G1 w1) (m:Nat→Option Nat) (tks:List Tk):aZ G w (G1.to m tks) w1 where
 size:=h.size
 os:=h.os
 tape:=h.tape
 output:=h.output
 K:=h.K
 sm:=h.sm
 cP:=fun b hb hr=>⟨jE (h.cP b hb hr).1,(h.cP b hb hr).2⟩
 fQ:=fun b τ hb hr=>by
   rcases h.fQ b τ hb hr with h1 | ⟨τ',h1⟩
   · exact .inl (jE h1)
   · cases hm:m τ' with
     | none=>exact .inl (kU h1 hm)
     | some k=>exact .inr ⟨k,qZ h1 hm⟩
 eS:=h.eS
def Ez (N:Nat):js→js
 | .tok k=>.tok (k+N)
 | .shr s=>.shr s
 | _=>.cP
def Gh.back (G:Gh) (m:Nat→Option Nat) (G1:Gh) (n N:Nat):Gh:=
 { K:=G1.K,
   role:=fun b=>if b<n then (match G.role b with | .shr _=>Ez N (G1.role b) | .tok τ=>(match m τ with | some _=>Ez N (G1.role b) | none=>.tok τ) | r=>r) else Ez N (G1.role b),
   pm:=G.pm,sm:=G1.sm,
   tk:=fun τ=>if τ<N then (match G.tk τ with | some t=>(match m τ with | some _=>some { t with base:=none,len:=t.len+1,cap:=t.len+1,own:=false } | none=>some t) | none=>none) else G1.tk (τ-N) }
theorem nO {G1 G':Gh} {N:Nat} (hK:G1.K.le G'.K) (hs:∀s b,G1.sm s=some b→G'.sm s=some b) (ht:∀τ t,G1.tk τ=some t→G'.tk (τ+N)=some t) {x:AV} {v:Value} (hp:im x=true) (h:ah (num ns) G1 x v):ah (num ns) G' (fK N x) v:=by
 cases x with
 | own l τ=>
   simp only [fK,ah] at h ⊢
   obtain ⟨t,e1,e2,e3,e4⟩:=h
   exact ⟨t,ht _ _ e1,e2,e3.mono hK,fun hl=>⟨(e4 hl).1,EF (e4 hl).2 fun ⟨b,o,e,r⟩=>⟨b,o,e,Row.mono hK _ _ _ _ r⟩⟩⟩
 | _=>
   simp only [fK]
   exact jP (G:=G1) (G':=G') hK hs (by simpa [im] using hp) h
theorem mw {G1 G':Gh} {N:Nat} (hK:G1.K.le G'.K) (hs:∀s b,G1.sm s=some b→G'.sm s=some b) (ht:∀τ t,G1.tk τ=some t→G'.tk (τ+N)=some t):∀{xs:List AV} {vs:List Value},dO xs=true→ae (num ns) G1 xs vs→ae (num ns) G' (xs.map (fK N)) vs
 | [],_,_,h=>by simpa only [List.map_nil,ae] using h
 | x::xs,_,hp,h=>by
   simp only [dO,Bool.and_eq_true] at hp
   simp only [List.map_cons,ae] at h ⊢
   obtain ⟨v,r,e,e1,e2⟩:=h
   exact ⟨v,r,e,nO hK hs ht hp.1 e1,mw hK hs ht hp.2 e2⟩
theorem p_ {G1 G':Gh} {N:Nat} (hK:G1.K.le G'.K) (hs:∀s b,G1.sm s=some b→G'.sm s=some b) (ht:∀τ t,G1.tk τ=some t→G'.tk (τ+N)=some t) {x:AV} {v:Value} (hp:a9 x=true) (h:ah (num ns) G1 x v):ah (num ns) G' (bL N x) v:=by
 cases x with
 | own l τ=>exact nO (x:=.own l τ) hK hs ht rfl h
 | agg cs=>
   simp only [bL]
   split
   · rename_i hf
     exact eK (G:=G1) (G':=G') hK hs (by simpa [bl] using hf) h
   · simp only [ah] at h ⊢
     obtain ⟨vs,e,r⟩:=h
     exact ⟨vs,e,mw hK hs ht (by simpa [a9] using hp) r⟩
 | _=>
   simp only [bL]
   exact jP (G:=G1) (G':=G') hK hs (by simpa [a9] using hp) h
theorem ki {G1 G':Gh} {N:Nat} (hK:G1.K.le G'.K) (hs:∀s b,G1.sm s=some b→G'.sm s=some b) (ht:∀τ t,G1.tk τ=some t→G'.tk (τ+N)=some t):∀{xs:List AV} {vs:List Value},xs.all a9=true→ae (num ns) G1 xs vs→ae (num ns) G' (xs.map (bL N)) vs
 | [],_,_,h=>by simpa only [List.map_nil,ae] using h
 | x::xs,_,hp,h=>by
   simp only [List.all_cons,Bool.and_eq_true] at hp
   simp only [List.map_cons,ae] at h ⊢
   obtain ⟨v,r,e,e1,e2⟩:=h
   exact ⟨v,r,e,p_ hK hs ht hp.1 e1,ki hK hs ht hp.2 e2⟩
theorem yu {m:Nat→Option Nat} {G1:Gh} {n N:Nat}:∀τ t,G1.tk τ=some t→(G.back m G1 n N).tk (τ+N)=some t:=by
 intro τ t h
 simp only [Gh.back]
 rw [if_neg (by omega),Nat.add_sub_cancel]
 exact h
theorem zq {m:Nat→Option Nat} {G1:Gh} {n N:Nat} {xs:List AV} {vs:List Value} (hp:xs.all a9=true) (h:ae (num ns) G1 xs vs):ae (num ns) (G.back m G1 n N) (xs.map (bL N)) vs:=
 ki (G1:=G1) (G':=G.back m G1 n N) (N:=N) (aP.le_refl G1.K) (fun _ _ h=>h) yu hp h
theorem s9 {N n:Nat} {x:AV} (h:au n x=true):au n (fK N x)=true:=by
 cases x with
 | own _ _=>rfl
 | _=>exact h
theorem kV {N n:Nat}:∀{xs:List AV},au.bK n xs=true→au.bK n (xs.map (fK N))=true
 | [],_=>rfl
 | x::xs,h=>by
   simp only [au.bK,Bool.and_eq_true] at h
   simp only [List.map_cons,au.bK,s9 h.1,kV h.2,Bool.and_self]
theorem s_ {N n:Nat} {x:AV} (h:au n x=true):au n (bL N x)=true:=by
 cases x with
 | own _ _=>rfl
 | agg cs=>
   simp only [bL]
   split
   · exact h
   · simp only [au] at h ⊢
     exact kV h
 | _=>exact h
theorem ta {N:Nat} {x:AV} (h:aJ x=true):aJ (bL N x)=true:=by
 cases x with
 | own _ _=>rfl
 | agg _=>simp [aJ] at h
 | _=>exact h
theorem Inv.back {G1:Gh} {w1:World} {mem:List (Nat×List AV)} {sh sh':Sh} {aa aB ts ts':al} {m:Nat→Option Nat} {tks:List Tk} (hi:Inv (num ns) G w mem sh aa) (hN:NS G aB ts m tks) (hol:aB.length=aa.length)
   (h1:Inv (num ns) G1 w1 [] sh' ts') (he:aZ (G.to m tks) w G1 w1) :
   Inv (num ns) (G.back m G1 w.heap.size aa.length) w1 mem (ew aa.length sh') (aB++ts')∧G.le (G.back m G1 w.heap.size aa.length)∧aZ G w (G.back m G1 w.heap.size aa.length) w1:=by
 have htl:∀τ t,G.tk τ=some t→τ<aa.length:=fun τ t h=>(List.getElem?_eq_some_iff.1 (hi.dD τ t h)).1
 have tkNone:∀τ t,G.tk τ=some t→m τ=none→(G.back m G1 w.heap.size aa.length).tk τ=some t:=by
   intro τ t h hm
   simp only [Gh.back,if_pos (htl τ t h),h,hm]
 have tkSome:∀τ t k,G.tk τ=some t→m τ=some k→(G.back m G1 w.heap.size aa.length).tk τ=some { t with base:=none,len:=t.len+1,cap:=t.len+1,own:=false }:=by
   intro τ t k h hm
   simp only [Gh.back,if_pos (htl τ t h),h,hm]
 have hle:G.le (G.back m G1 w.heap.size aa.length):=⟨he.K,fun _ _ h=>h,he.sm,fun τ t h=>by
   cases hm:m τ with
   | none=>exact ⟨t,tkNone τ t h hm,⟨Nat.le_refl _,Tk.eQ _⟩,fun _=>rfl⟩
   | some k=>exact ⟨_,tkSome τ t k h hm,⟨by simp,fun _=>⟨rfl,by simp⟩,.inl ⟨rfl,by simp⟩⟩,fun e=>by simp at e⟩⟩
 have rImm:∀b,b<w.heap.size→G.role b=.cP→(G.back m G1 w.heap.size aa.length).role b=.cP:=by intro b hb hr;simp only [Gh.back,if_pos hb,hr]
 have rPriv:∀b d,b<w.heap.size→G.role b=.jh d→(G.back m G1 w.heap.size aa.length).role b=.jh d:=by intro b d hb hr;simp only [Gh.back,if_pos hb,hr]
 have rFree:∀b τ,b<w.heap.size→G.role b=.tok τ→m τ=none→(G.back m G1 w.heap.size aa.length).role b=.tok τ:=by intro b τ hb hr hm;simp only [Gh.back,if_pos hb,hr,hm]
 have rTok:∀b τ k,b<w.heap.size→G.role b=.tok τ→m τ=some k→(G.back m G1 w.heap.size aa.length).role b=Ez aa.length (G1.role b):=by intro b τ k hb hr hm;simp only [Gh.back,if_pos hb,hr,hm]
 have rShr:∀b s,b<w.heap.size→G.role b=.shr s→(G.back m G1 w.heap.size aa.length).role b=Ez aa.length (G1.role b):=by intro b s hb hr;simp only [Gh.back,if_pos hb,hr]
 have rNew:∀b,¬b<w.heap.size→(G.back m G1 w.heap.size aa.length).role b=Ez aa.length (G1.role b):=by intro b hb;simp only [Gh.back,if_neg hb]
 have rOut:∀b,G1.role b≠.cP→(G.back m G1 w.heap.size aa.length).role b=Ez aa.length (G1.role b):=by
   intro b hn
   by_cases hb:b<w.heap.size
   · cases hr:G.role b with
     | shr s=>exact rShr b s hb hr
     | cP=>exact absurd (he.cP b hb (jE hr)).1 hn
     | jh d=>exact absurd (he.cP b hb (q8 hr)).1 hn
     | tok τ=>
       cases hm:m τ with
       | none=>exact absurd (he.cP b hb (kU hr hm)).1 hn
       | some k=>exact rTok b τ k hb hr hm
   · exact rNew b hb
 have shKnown:∀b o v,G1.K b o=some v→Ez aa.length (G1.role b)=.cP∨∃τ,Ez aa.length (G1.role b)=.tok τ:=by
   intro b o v hk
   rcases h1.aK b o v hk with h | ⟨τ,h⟩
   · left;rw [h];rfl
   · right;exact ⟨τ+aa.length,by rw [h];rfl⟩
 have hevo:aZ G w (G.back m G1 w.heap.size aa.length) w1:={
           size:=he.size,os:=he.os,tape:=he.tape,output:=he.output,K:=he.K,sm:=he.sm,
           cP:=fun b hb hr=>⟨rImm b hb hr,(he.cP b hb (jE hr)).2⟩
           fQ:=fun b τ hb hr=>by
             cases hm:m τ with
             | none=>exact .inr ⟨τ,rFree b τ hb hr hm⟩
             | some k=>
               rw [rTok b τ k hb hr hm]
               rcases he.fQ b k hb (qZ hr hm) with h | ⟨τ',h⟩
               · left;rw [h];rfl
               · right;exact ⟨τ'+aa.length,by rw [h];rfl⟩
           eS:=fun b o v hb hr hk=>he.eS b o v hb (jE hr) hk }
 refine ⟨⟨h1.known,?_,?_,?_,hi.eR,?_,?_,?_,?_,hi.fj hevo⟩,hle,hevo⟩
 · intro b o v hk
   have hk1:G1.K b o=some v:=hk
   by_cases hb:b<w.heap.size
   · cases hr:G.role b with
     | shr s=>rw [rShr b s hb hr];exact shKnown b o v hk1
     | cP=>exact .inl (rImm b hb hr)
     | tok τ=>
       cases hm:m τ with
       | none=>exact .inr ⟨τ,rFree b τ hb hr hm⟩
       | some k=>rw [rTok b τ k hb hr hm];exact shKnown b o v hk1
     | jh d=>
       exfalso
       have hk0:G.K b o=some v:=he.eS b o v hb (q8 hr) hk1
       rcases hi.aK b o v hk0 with h | ⟨τ,h⟩<;>rw [hr] at h<;>simp at h
   · rw [rNew b hb];exact shKnown b o v hk1
 · intro b hb
   have:=he.size
   rw [rNew b (by omega),h1.fresh b hb];rfl
 · intro d cs hd
   obtain ⟨b,e1,e2,e3⟩:=hi.bM d cs hd
   obtain ⟨hr,c,t,hh,hrel⟩:=e2
   have hb:=bI hh
   exact ⟨b,e1,⟨rPriv b d hb hr,c,t,((he.cP b hb (q8 hr)).2).trans hh,ae.mono hle hrel⟩,e3⟩
 · intro s cs0 hs0
   simp only [ew,List.getElem?_map,Option.map_eq_some_iff] at hs0
   obtain ⟨o,hs,ho⟩:=hs0
   cases o with
   | none=>simp at ho
   | some cs=>
     simp at ho
     subst ho
     obtain ⟨b,e1,e2,e3,e4⟩:=h1.bS s cs hs
     obtain ⟨hr,o,hh,hrel⟩:=e2
     refine ⟨b,e1,⟨?_,o,hh,hrel.to (fun _ _ _ h=>h) (fun kvs e=>by subst e;rfl) (fun _ r=>zq (gh e3) r)⟩,?_,?_⟩
     · rw [rOut b.1 (by rw [hr];simp),hr];rfl
     · rw [List.all_eq_true]
       intro x hx
       obtain ⟨y,hy,rfl⟩:=List.mem_map.1 hx
       exact ta (List.all_eq_true.1 e3 y hy)
     · rw [List.all_eq_true]
       intro x hx
       obtain ⟨y,hy,rfl⟩:=List.mem_map.1 hx
       exact s_ (List.all_eq_true.1 e4 y hy)
 · intro s b h
   have:=h1.dC s b h
   simp only [ew,List.length_map]
   exact this
 · intro τ n hn
   by_cases hτ:τ<aa.length
   · rw [List.getElem?_append_left (by omega)] at hn
     obtain ⟨t,e1,e2,e3⟩:=hi.bT τ _ (List.getElem?_eq_getElem hτ)
     cases hm:m τ with
     | none=>
       have:=hN.free τ t e1 hm
       rw [hn] at this
       simp at this
       refine ⟨t,tkNone τ t e1 hm,this.symm,e3.cap,e3.zero,fun hlt=>?_⟩
       obtain ⟨b,o,c,ty,f1,f2,f3,f4,f5⟩:=e3.spare hlt
       have hb:=bI f3
       exact ⟨b,o,c,ty,f1,rFree b τ hb f2 hm,((he.cP b hb (kU f2 hm)).2).trans f3,f4,fun j v hk=>f5 j v (he.eS b j v hb (kU f2 hm) hk)⟩
     | some k=>
       have:=hN.used τ t k e1 hm
       rw [hn] at this
       simp at this
       exact ⟨_,tkSome τ t k e1 hm,this.symm,⟨Nat.le_refl _,fun h=>by simp at h,fun h=>by simp at h⟩⟩
   · rw [List.getElem?_append_right (by omega),hol] at hn
     obtain ⟨t,e1,e2,e3⟩:=h1.bT _ n hn
     refine ⟨t,by simp only [Gh.back,if_neg hτ];exact e1,e2,e3.cap,e3.zero,fun hlt=>?_⟩
     obtain ⟨b,o,c,ty,f1,f2,f3,f4,f5⟩:=e3.spare hlt
     refine ⟨b,o,c,ty,f1,?_,f3,f4,f5⟩
     rw [rOut b (by rw [f2];simp),f2]
     simp only [Ez]
     rw [Nat.sub_add_cancel (by omega)]
 · intro τ t ht
   simp only [Gh.back] at ht
   split at ht
   · rename_i hτ
     rw [List.getElem?_append_left (by omega)]
     split at ht
     · rename_i t0 h0
       split at ht
       · rename_i k hm
         simp at ht;subst ht
         exact hN.used τ t0 k h0 hm
       · rename_i hm
         simp at ht;subst ht
         exact hN.free τ t0 h0 hm
     · simp at ht
   · rename_i hτ
     rw [List.getElem?_append_right (by omega),hol]
     exact h1.dD _ t ht
theorem kW {G1 G':Gh} {N:Nat} (hK:G1.K.le G'.K) (hs:∀s b,G1.sm s=some b→G'.sm s=some b) (ht:∀τ t,G1.tk τ=some t→G'.tk (τ+N)=some t) {rs:List AV} {v:Value} (hp:rs.all a9=true) (h:cj (num ns) G1 rs v):cj (num ns) G' (rs.map (bL N)) v:=by
 unfold cj at h
 split at h
 · rename_i r
   simp only [List.all_cons,List.all_nil,Bool.and_true] at hp
   simp only [List.map_cons,List.map_nil,cj]
   exact p_ hK hs ht hp h
 · rename_i hn
   obtain ⟨vs,e,h⟩:=h
   unfold cj
   split
   · rename_i r he
     cases rs with
     | nil=>simp at he
     | cons a rs=>
       cases rs with
       | nil=>exact absurd rfl (hn a)
       | cons _ _=>simp at he
   · exact ⟨vs,e,ki hK hs ht hp h⟩
theorem td {m:Nat→Option Nat} {G1:Gh} {n N:Nat} {rs:List AV} {v:Value} (hp:rs.all a9=true) (h:cj (num ns) G1 rs v):cj (num ns) (G.back m G1 n N) (rs.map (bL N)) v:=
 kW (G1:=G1) (G':=G.back m G1 n N) (N:=N) (aP.le_refl G1.K) (fun _ _ h=>h) yu hp h
def IP (N:Nat):js→js
 | .tok k=>.tok (k+N)
 | _=>.cP
def Gh.zt (G:Gh):Gh:={ K:=G.K,role:=fun _=>.cP,pm:=fun _=>none,sm:=fun _=>none,tk:=fun _=>none }
theorem Inv.zt {mem:List (Nat×List AV)} {sh:Sh} {aa:al} (hi:Inv (num ns) G w mem sh aa):Inv (num ns) G.zt w [] [] [] where
 known:=hi.known
 aK:=fun _ _ _ _=>.inl rfl
 fresh:=fun _ _=>rfl
 bM:=fun d c h=>by simp [look] at h
 eR:=fun d b h=>by simp [Gh.zt] at h
 bS:=fun s c h=>by simp at h
 dC:=fun s b h=>by simp [Gh.zt] at h
 bT:=fun τ n h=>by simp at h
 dD:=fun τ t h=>by simp [Gh.zt] at h
 jo:=fun b c hb=>⟨rfl,(hi.jo b c hb).2⟩
def Gh.ff (G:Gh) (G1:Gh) (n N:Nat):Gh:=
 { K:=G1.K,role:=fun b=>if b<n then G.role b else IP N (G1.role b),pm:=G.pm,sm:=G.sm,tk:=fun τ=>if τ<N then G.tk τ else G1.tk (τ-N) }
theorem Inv.ff {G1:Gh} {w1:World} {mem:List (Nat×List AV)} {sh:Sh} {aa ts':al} (hi:Inv (num ns) G w mem sh aa)
   (h1:Inv (num ns) G1 w1 [] [] ts') (he:aZ G.zt w G1 w1) :
   Inv (num ns) (G.ff G1 w.heap.size aa.length) w1 mem sh (aa++ts')∧G.le (G.ff G1 w.heap.size aa.length)∧aZ G w (G.ff G1 w.heap.size aa.length) w1:=by
 have htl:∀τ t,G.tk τ=some t→τ<aa.length:=fun τ t h=>(List.getElem?_eq_some_iff.1 (hi.dD τ t h)).1
 have hK:G.K.le G1.K:=he.K
 have rOld:∀b,b<w.heap.size→(G.ff G1 w.heap.size aa.length).role b=G.role b:=fun b hb=>by simp only [Gh.ff,if_pos hb]
 have rNew:∀b,¬b<w.heap.size→(G.ff G1 w.heap.size aa.length).role b=IP aa.length (G1.role b):=fun b hb=>by simp only [Gh.ff,if_neg hb]
 have same:∀b,b<w.heap.size→w1.heap[b]?=w.heap[b]?:=fun b hb=>(he.cP b hb rfl).2
 have Kold:∀b o v,b<w.heap.size→G1.K b o=some v→G.K b o=some v:=fun b o v hb hk=>he.eS b o v hb rfl hk
 have hle:G.le (G.ff G1 w.heap.size aa.length):=⟨hK,fun _ _ h=>h,fun _ _ h=>h,fun τ t h=>⟨t,by simp only [Gh.ff,if_pos (htl τ t h)];exact h,⟨Nat.le_refl _,Tk.eQ _⟩,fun _=>rfl⟩⟩
 have hevo:aZ G w (G.ff G1 w.heap.size aa.length) w1:={
           size:=he.size,os:=he.os,tape:=he.tape,output:=he.output,K:=hK,sm:=fun _ _ h=>h,
           cP:=fun b hb hr=>⟨(rOld b hb).trans hr,same b hb⟩
           fQ:=fun b τ hb hr=>.inr ⟨τ,(rOld b hb).trans hr⟩
           eS:=fun b o v hb _ hk=>Kold b o v hb hk }
 refine ⟨⟨h1.known,?_,?_,?_,hi.eR,?_,hi.dC,?_,?_,hi.fj hevo⟩,hle,hevo⟩
 · intro b o v hk
   by_cases hb:b<w.heap.size
   · rw [rOld b hb];exact hi.aK b o v (Kold b o v hb hk)
   · rw [rNew b hb]
     rcases h1.aK b o v hk with h | ⟨τ,h⟩
     · left;rw [h];rfl
     · right;exact ⟨τ+aa.length,by rw [h];rfl⟩
 · intro b hb
   have:=he.size
   rw [rNew b (by omega),h1.fresh b hb];rfl
 · intro d cs hd
   obtain ⟨b,e1,e2,e3⟩:=hi.bM d cs hd
   have hlt:b<w.heap.size:=by obtain ⟨_,_,_,hh,_⟩:=e2;exact bI hh
   exact ⟨b,e1,e2.mono hle (rOld b hlt) (same b hlt),e3⟩
 · intro s cs hs
   obtain ⟨b,e1,e2,e3⟩:=hi.bS s cs hs
   have hlt:b.1<w.heap.size:=e2.lt
   exact ⟨b,e1,e2.mono hle (rOld b.1 hlt) (same b.1 hlt),e3⟩
 · intro τ n hn
   by_cases hτ:τ<aa.length
   · rw [List.getElem?_append_left hτ] at hn
     obtain ⟨t,e1,e2,e3⟩:=hi.bT τ n hn
     refine ⟨t,by simp only [Gh.ff,if_pos hτ];exact e1,e2,e3.cap,e3.zero,fun hlt=>?_⟩
     obtain ⟨b,o,c,ty,f1,f2,f3,f4,f5⟩:=e3.spare hlt
     have hlt':=bI f3
     exact ⟨b,o,c,ty,f1,(rOld b hlt').trans f2,(same b hlt').trans f3,f4,fun j v hkk=>f5 j v (Kold b j v hlt' hkk)⟩
   · rw [List.getElem?_append_right (by omega)] at hn
     obtain ⟨t,e1,e2,e3⟩:=h1.bT _ n hn
     refine ⟨t,by simp only [Gh.ff,if_neg hτ];exact e1,e2,e3.cap,e3.zero,fun hlt=>?_⟩
     obtain ⟨b,o,c,ty,f1,f2,f3,f4,f5⟩:=e3.spare hlt
     have hb:¬b<w.heap.size:=fun hb=>by
       have:=(he.cP b hb rfl).1
       rw [f2] at this;cases this
     refine ⟨b,o,c,ty,f1,?_,f3,f4,f5⟩
     rw [rNew b hb,f2]
     simp only [IP]
     rw [Nat.sub_add_cancel (by omega)]
 · intro τ t ht
   simp only [Gh.ff] at ht
   split at ht
   · rename_i hτ
     rw [List.getElem?_append_left hτ]
     exact hi.dD τ t ht
   · rename_i hτ
     rw [List.getElem?_append_right (by omega)]
     exact h1.dD _ t ht
theorem zu {G1:Gh} {w1:World} {ts':al} {n N:Nat} (h1:Inv (num ns) G1 w1 [] [] ts') {rs:List AV} {v:Value} (hp:rs.all a9=true) (h:cj (num ns) G1 rs v):cj (num ns) (G.ff G1 n N) (rs.map (bL N)) v:=
 kW (G1:=G1) (G':=G.ff G1 n N) (N:=N) (aP.le_refl G1.K) (fun s b h=>by have:=h1.dC s b h;simp at this) (fun τ t h=>by simp only [Gh.ff];rw [if_neg (by omega),Nat.add_sub_cancel];exact h) hp h
end
end Go.Ab
namespace Go.Ab
section
variable {P:Program} {ns:Names} {G:Gh} {w:World}
theorem qa {rs:List PV} {v:Value} (h:jA G.K rs v):ah (num ns) G (nk rs) v:=by
 match rs,h with
 | [r],h=>simp only [jA] at h;simp only [nk,ah];exact h
 | [],h=>simp only [jA] at h;simp only [nk,ah];obtain ⟨vs,e,h⟩:=h;exact ⟨vs,e,ef h⟩
 | _::_::_,h=>simp only [jA] at h;simp only [nk,ah];obtain ⟨vs,e,h⟩:=h;exact ⟨vs,e,ef h⟩
theorem qb {rs:List AV} {v:Value} (h:cj (num ns) G rs v):ah (num ns) G (kE rs) v:=by
 match rs,h with
 | [r],h=>simp only [cj] at h;simp only [kE];exact h
 | [],h=>simp only [cj] at h;simp only [kE,ah];exact h
 | _::_::_,h=>simp only [cj] at h;simp only [kE,ah];exact h
theorem zw {v:AV} {rv:Value} (h:ah (num ns) G v rv):ah (num ns) G (il v) rv:=by
 unfold il
 split
 · rename_i p hp;simp only [ah];exact iF hp h
 · exact h
theorem nP {own:List Nat}:∀{i:Nat} {xs:List AV} {vs:List Value},ae (num ns) G xs vs→ae (num ns) G (dc own i xs) vs
 | _,[],_,h=>by simpa [dc,ae] using h
 | i,x::xs,_,h=>by
   simp only [ae] at h
   obtain ⟨v,r,rfl,e1,e2⟩:=h
   simp only [dc,ae]
   refine ⟨v,r,rfl,?_,nP e2⟩
   split
   · exact e1
   · exact zw e1
theorem Cp {A:gm} {dst:Option Nat} {c:Call} {k:AK} {args:List Operand} (h:aU P ns A dst (.call c)=some (k,args)) (hk:k.calls=true) :
   (∃f g,c.callee=.value (.func f)∧ns.of f=some g∧args=c.args.toList∧(k=.aN g∨k=.gq g∨(∃own,k=.bJ g own)∨(∃sz by_,(k=.clone sz by_∨∃ag,k=.iD sz by_ ag)∧look ns.cl g=some (sz,by_))∨k=.ik g)) ∨
   (∃t,c.callee=.value (.tmp t)∧args=.tmp t::c.args.toList∧(k=.fC∨k=.dN)):=by
 obtain ⟨callee,cargs,ctypes⟩:=c
 simp only [aU] at h
 split at h
 · split at h<;>simp at h<;>(obtain ⟨rfl,_⟩:=h;simp [AK.calls] at hk)
 · split at h<;>simp at h;obtain ⟨rfl,_⟩:=h;simp [AK.calls] at hk
 · split at h<;>simp at h;obtain ⟨rfl,_⟩:=h;simp [AK.calls] at hk
 · split at h
   · split at h
     · rw [Option.ite_none_right_eq_some] at h
       obtain ⟨_,h⟩:=h
       split at h
       · simp only [Option.map_eq_some_iff,Prod.mk.injEq] at h
         obtain ⟨_,_,rfl,_⟩:=h;simp [AK.calls] at hk
       · split at h<;>(simp at h;obtain ⟨rfl,_⟩:=h;simp [AK.calls] at hk)
     · simp at h
   · simp at h
 · split at h
   · split at h
     · split at h<;>simp at h
       obtain ⟨rfl,_⟩:=h;simp [AK.calls] at hk
     · simp at h
   · simp at h
 · split at h
   · split at h<;>simp at h
     obtain ⟨rfl,_⟩:=h;simp [AK.calls] at hk
   · simp at h
 · rename_i f
   left
   split at h
   · rename_i g hg
     split at h
     · rename_i sz by_ hcl
       rw [Option.ite_none_right_eq_some] at h
       obtain ⟨_,h⟩:=h
       split at h
       · split at h
         · simp only [Option.map_eq_some_iff,Prod.mk.injEq] at h
           obtain ⟨ag,_,h1,h2⟩:=h
           exact ⟨f,g,rfl,hg,h2.symm,.inr (.inr (.inr (.inl ⟨sz,by_,.inr ⟨ag,h1.symm⟩,hcl⟩)))⟩
         · simp at h
       · simp only [Option.some.injEq,Prod.mk.injEq] at h
         exact ⟨f,g,rfl,hg,h.2.symm,.inr (.inr (.inr (.inl ⟨sz,by_,.inl h.1.symm,hcl⟩)))⟩
     · split at h
       · simp at h;exact ⟨f,g,rfl,hg,h.2.symm,.inr (.inr (.inr (.inr h.1.symm)))⟩
       · split at h
         · simp at h;exact ⟨f,g,rfl,hg,h.2.symm,.inr (.inr (.inl ⟨_,h.1.symm⟩))⟩
         · split at h
           · simp at h;exact ⟨f,g,rfl,hg,h.2.symm,.inr (.inl h.1.symm)⟩
           · simp at h;exact ⟨f,g,rfl,hg,h.2.symm,.inl h.1.symm⟩
   · simp at h
 · rename_i t
   right
   split at h
   · simp at h
     exact ⟨t,rfl,h.2.symm,.inr h.1.symm⟩
   · simp at h
     exact ⟨t,rfl,h.2.symm,.inl h.1.symm⟩
 · simp at h
mutual
theorem yv:∀{a b:PV},pk a b=true→a=b
 | .bool a,b,h=>by cases b<;>simp [pk] at h;rw [h]
 | .int k n,b,h=>by cases b<;>simp [pk] at h;rw [h.1,h.2]
 | .str s,b,h=>by cases b<;>simp [pk] at h;rw [h]
 | .agg l,b,h=>by
   cases b with
   | agg q=>simp only [pk] at h;rw [nQ h]
   | _=>simp [pk] at h
 | .aF l,b,h=>by
   cases b with
   | aF q=>simp only [pk] at h;rw [nQ h]
   | _=>simp [pk] at h
theorem nQ:∀{a b:List PV},np a b=true→a=b
 | [],b,h=>by cases b with | nil=>rfl | cons _ _=>simp [np] at h
 | x::r,b,h=>by
   cases b with
   | nil=>simp [np] at h
   | cons y q=>
     simp only [np,Bool.and_eq_true] at h
     rw [yv h.1,nQ h.2]
end
theorem yw:∀{a b:List AV},pn a b=true→a=b
 | [],b,h=>by cases b with | nil=>rfl | cons _ _=>simp [pn] at h
 | x::r,b,h=>by
   cases b with
   | nil=>simp [pn] at h
   | cons y q=>
     simp only [pn,Bool.and_eq_true] at h
     rw [yw h.2]
     have h1:=h.1
     cases x with
     | pv p=>cases y with
       | pv p'=>simp only [HD] at h1;rw [yv h1]
       | _=>simp [HD] at h1
     | _=>simp [HD] at h1
theorem q9:∀{a b:Sh},jZ a b=true→a=b
 | [],b,h=>by cases b with | nil=>rfl | cons _ _=>simp [jZ] at h
 | none::r,b,h=>by
   cases b with
   | nil=>simp [jZ] at h
   | cons y q=>cases y with
     | none=>simp only [jZ] at h;rw [q9 h]
     | some _=>simp [jZ] at h
 | some x::r,b,h=>by
   cases b with
   | nil=>simp [jZ] at h
   | cons y q=>cases y with
     | none=>simp [jZ] at h
     | some y=>
       simp only [jZ,Bool.and_eq_true] at h
       rw [yw h.1,q9 h.2]
theorem pD {orc:dh} {vals:List AV} {cells:Option (List AV)} {sh:Sh} {aa:al} {out:Out} (h:exec orc .dN vals cells sh aa=some out):exec orc .fC vals cells sh aa=some out:=by
 cases vals with
 | nil=>simp [exec] at h
 | cons f vals=>
   cases f with
   | fn g cap=>
     simp only [exec,Option.bind_eq_some_iff] at h
     obtain ⟨⟨v,sh',ts⟩,h1,h2⟩:=h
     simp only [II,Option.ite_none_right_eq_some,Option.some.injEq] at h2
     obtain ⟨h3,rfl⟩:=h2
     have:=q9 h3
     subst this
     simp [exec,h1]
   | _=>simp [exec] at h
theorem jF {orc:dh} (horc:fe P ns orc) {f g:Nat} {own:List Nat} (hg:ns.of f=some g) {vals:List AV} {vs:List Value} {x:AV} {mem:List (Nat×List AV)} {sh sh':Sh} {aa toks':al}
   (hr:ae (num ns) G vals vs) (hi:Inv (num ns) G w mem sh aa) (h:cY orc g own vals sh aa=some (x,sh',toks')) :
   Calls P f vs.toArray w fun e w'=>∃v G',e=.returned v∧ah (num ns) G' x v∧Inv (num ns) G' w' mem sh' toks'∧G.le G'∧aZ G w G' w':=by
 unfold cY at h
 simp only [Option.ite_none_right_eq_some,Option.map_eq_some_iff] at h
 obtain ⟨hp,⟨rs,sh1,ts1⟩,h1,h2⟩:=h
 simp only [Prod.mk.injEq] at h2
 obtain ⟨rfl,rfl,rfl⟩:=h2
 obtain ⟨hC,hpr⟩:=horc.i g f _ _ rs _ sh1 ts1 hg (fG hp) h1
 obtain ⟨m,tks,hN,hto,hargs⟩:=hi.Cm hp (nP (own:=own) (i:=0) hr)
 refine (hC (G.to m tks) w vs hto hargs).mono ?_
 rintro e w' ⟨v,G1,rfl,eO,hi1,hevo⟩
 obtain ⟨g1,g2,g3⟩:=hi.back hN zo hi1 hevo
 exact ⟨v,_,rfl,qb (td hpr eO),g1,g2,g3⟩
theorem tf {orc:dh} (horc:fe P ns orc) {f g:Nat} (hg:ns.of f=some g) {cM:List PV} {vs:List Value} {rs:List AV} {ts1:al} {mem:List (Nat×List AV)} {sh:Sh} {aa:al}
   (hr:iq G.K cM vs) (hi:Inv (num ns) G w mem sh aa) (h:orc.i g (cM.map .pv) [] []=some (rs,[],ts1)) :
   Calls P f vs.toArray w fun e w'=>∃v G',e=.returned v∧ah (num ns) G' (kE (rs.map (bL aa.length))) v∧Inv (num ns) G' w' mem sh (aa++ts1)∧G.le G'∧aZ G w G' w':=by
 have hpass:(cM.map AV.pv).all a9=true:=by
   rw [List.all_eq_true]
   intro x hx
   obtain ⟨p,_,rfl⟩:=List.mem_map.1 hx
   rfl
 obtain ⟨hC,hpr⟩:=horc.i g f _ _ rs _ _ ts1 hg hpass h
 refine (hC G.zt w vs hi.zt (ef (ρ:=num ns) (G:=G.zt) hr)).mono ?_
 rintro e w' ⟨v,G1,rfl,eO,hi1,hevo⟩
 obtain ⟨g1,g2,g3⟩:=hi.ff hi1 hevo
 exact ⟨v,_,rfl,qb (zu hi1 hpr eO),g1,g2,g3⟩
theorem EN (hB:dZ P ns) {orc:dh} (horc:fe P ns orc) {A:gm} {o:Oper} {k:AK} {args:List Operand} (hc:aU P ns A o.dst o.op=some (k,args)) {a:Act} {vals:List AV} {out:Out}
   {mem:List (Nat×List AV)} {sh:Sh} {aa:al} (hr:ae (num ns) G vals (args.map a.eval)) (hi:Inv (num ns) G w mem sh aa)
   (h:exec orc k vals (k.key.bind (look mem)) sh aa=some out) {next:Act→World→Prop} {Q:Exit→Act→World→Prop}
   (hn:∀v w' G',ah (num ns) G' out.val v→Inv (num ns) G' w' (dr mem k.key out.cells) out.sh out.aa→G.le G'→aZ G w G' w'→next (a.put o.dst v) w'):o.wp P a w next Q:=by
 cases hk:k.calls with
 | false=>
   obtain ⟨n,v,w',G',g1,g2,g3,g4,g5,g6⟩:=mi hc hk hr hi h
   unfold Oper.wp
   rw [g1]
   rcases g2 with rfl | ⟨rfl,rfl⟩
   · exact hn v w' G' g3 g4 g5 g6
   · exact hn undef w' G' g3 g4 g5 g6
 | true=>
   obtain ⟨dst,op,type,pos,after,guard⟩:=o
   have hcall:∃c,op=.call c:=vj (k:=k) (by cases k<;>simp_all [AK.calls]) hc
   obtain ⟨c,rfl⟩:=hcall
   rcases Cp hc hk with ⟨f,g,hcal,hg,rfl,hk'⟩ | ⟨t,hcal,rfl,hkv⟩
   · have hrun:(execOp a.eval ⟨dst,.call c,type,pos,after,guard⟩).run P w=.ok (.enter f ((c.args.toList.map a.eval).toArray)) w:=by
       obtain ⟨callee,cargs,ctypes⟩:=c
       simp only at hcal;subst hcal
       simp only [execOp,resolve,Sem.run_bind,Act.eval,Deferred.ofValue,Sem.run_pure,Result.andThen_ok,invoke]
       rw [iN hB hg]
       congr 2
       apply Array.ext'
       simp
     rcases hk' with rfl | rfl | ⟨own,rfl⟩ | ⟨sz,by_,hkc,hcl⟩ | rfl
     · -- for pure data
       simp only [exec] at h
       split at h
       · rename_i cM hp
         simp only [Option.map_eq_some_iff] at h
         obtain ⟨rs,h1,rfl⟩:=h
         have hC:=horc.p g f cM rs hg h1 G.K w _ (fun b c hb=>(hi.jo b c hb).2) hi.known (iG hp hr)
         unfold Oper.wp
         rw [hrun]
         refine hC.mono ?_
         rintro e w' ⟨v,K',rfl,eO,hK,hold,hkk,hb⟩
         obtain ⟨g1,g2,g3⟩:=hi.pure hK hold hkk hb
         exact hn v w' _ (qa eO) (by simpa [AK.key,dr] using g1) g2 g3
       · simp at h
     · -- for pure data,arrays frozen
       simp only [exec] at h
       split at h
       · rename_i cM hp
         simp only [Option.map_eq_some_iff] at h
         obtain ⟨rs,h1,rfl⟩:=h
         obtain ⟨G1,k1,k2,k3,k4,k5⟩:=Inv.kill (vals.flatMap dq) hi
         have hC:=horc.p g f cM rs hg h1 G1.K w _ (fun b c hb=>(k1.jo b c hb).2) k1.known (mj k2 k4 hi.nK (fun s hs=>hs) hp hr)
         unfold Oper.wp
         rw [hrun]
         refine hC.mono ?_
         rintro e w' ⟨v,K',rfl,eO,hK,hold,hkk,hb⟩
         obtain ⟨g1,g2,g3⟩:=k1.pure hK hold hkk hb
         exact hn v w' _ (qa eO) (by simpa [AK.key,dr,ct] using g1) (Gh.le_trans k2 g2) (k3.trans g3)
       · simp at h
     · -- with the shared memory
       simp only [exec,Option.map_eq_some_iff] at h
       obtain ⟨⟨x,sh',ts'⟩,h1,rfl⟩:=h
       have hC:=jF horc hg hr hi h1
       unfold Oper.wp
       rw [hrun]
       refine hC.mono ?_
       rintro e w' ⟨v,G',rfl,g1,g2,g3,g4⟩
       exact hn v w' G' g1 (by simpa [AK.key,dr] using g2) g3 g4
     · -- slices.Clone
       have hkey:k.key=none:=by rcases hkc with rfl | ⟨ag,rfl⟩<;>rfl
       rw [hkey] at hn
       rcases vals with _ | ⟨x,_ | ⟨_,_⟩⟩
       · rcases hkc with rfl | ⟨ag,rfl⟩<;>simp [exec] at h
       · obtain ⟨oc,y,sh',ts',h1,rfl⟩:∃oc y sh' ts',ia oc sz by_ x sh aa=some (y,sh',ts')∧out=⟨y,none,sh',ts'⟩:=by
           rcases hkc with rfl | ⟨ag,rfl⟩
           · simp only [exec,Option.map_eq_some_iff] at h
             obtain ⟨⟨y,ts'⟩,h1,rfl⟩:=h
             exact ⟨none,y,sh,ts',by simp [ia,h1],rfl⟩
           · simp only [exec,Option.map_eq_some_iff] at h
             obtain ⟨⟨y,sh',ts'⟩,h1,rfl⟩:=h
             exact ⟨some ag,y,sh',ts',h1,rfl⟩
         have hl:=hr.length
         obtain ⟨v,hv⟩:∃v,c.args.toList.map a.eval=[v]:=List.length_eq_one_iff.1 (by simpa using hl)
         rw [hv] at hr
         simp only [ae] at hr
         obtain ⟨v',r,e,hx,rfl⟩:=hr
         cases e
         have hC:=horc.c g sz by_ f hcl hg oc G w mem sh sh' aa ts' x y v hi hx h1
         unfold Oper.wp
         rw [hrun,hv]
         refine hC.mono ?_
         rintro e w' ⟨u,G',rfl,g1,g2,g3,g4⟩
         exact hn u w' G' g1 (by simpa [dr] using g2) g3 g4
       · rcases hkc with rfl | ⟨ag,rfl⟩<;>simp [exec] at h
     · -- without the shared memory
       simp only [exec] at h
       split at h
       · rename_i cM hp
         split at h
         · rename_i rs ts1 h1
           cases h
           have hC:=tf horc hg (iG hp hr) hi h1
           unfold Oper.wp
           rw [hrun]
           refine hC.mono ?_
           rintro e w' ⟨v,G',rfl,g1,g2,g3,g4⟩
           exact hn v w' G' g1 (by simpa [AK.key,dr] using g2) g3 g4
         · simp at h
       · simp at h
   · -- a function value
     have hkey:k.key=none:=by rcases hkv with rfl | rfl<;>rfl
     replace h:exec orc .fC vals none sh aa=some out:=by
       rcases hkv with rfl | rfl
       · exact h
       · exact pD h
     rw [hkey] at hn
     cases vals with
     | nil=>simp [ae] at hr
     | cons x0 vals=>
       simp only [List.map_cons,ae] at hr
       obtain ⟨fv,r,e,hf,hr⟩:=hr
       simp only [List.cons.injEq] at e
       obtain ⟨rfl,rfl⟩:=e
       cases x0 with
       | fn g cap=>
         simp only [exec,Option.map_eq_some_iff] at h
         obtain ⟨⟨x,sh',ts'⟩,h1,rfl⟩:=h
         simp only [ah] at hf
         obtain ⟨f,vs,hg,hv,hcap⟩:=hf
         have hrun:(execOp a.eval ⟨dst,.call c,type,pos,after,guard⟩).run P w=.ok (.enter f ((c.args.toList.map a.eval++vs).toArray)) w:=by
           obtain ⟨callee,cargs,ctypes⟩:=c
           simp only at hcal;subst hcal
           simp only [execOp,resolve,Sem.run_bind]
           rw [hv]
           simp only [Deferred.ofValue,Sem.run_pure,Result.andThen_ok,invoke]
           rw [iN hB hg]
           congr 2
           apply Array.ext'
           simp
         have hC:=jF horc hg (ae.append hr hcap) hi h1
         unfold Oper.wp
         rw [hrun]
         refine hC.mono ?_
         rintro e w' ⟨v,G',rfl,g1,g2,g3,g4⟩
         exact hn v w' G' g1 (by simpa [AK.key,dr] using g2) g3 g4
       | _=>simp [exec] at h
end
end Go.Ab
namespace Go.Ab
section
variable {n0:Nat} {P:Program} {ns:Names} {G:Gh} {w:World}
theorem jt.mono {G':Gh} {N:Nat} {env:List (Nat×AV)} {a:Act} (h:jt (num ns) G N env a) (hle:G.le G'):jt (num ns) G' N env a:=
 ⟨h.size,fun t x hx=>let ⟨v,h1,h2⟩:=h.env t x hx;⟨v,h1,h2.mono hle⟩⟩
theorem jt.put {N:Nat} {env:List (Nat×AV)} {a:Act} (h:jt (num ns) G N env a) {dst:Option Nat} (hd:(dst.map (fun d=>decide (d<N))).getD true=true) {x:AV} {v:Value} (hx:ah (num ns) G x v) :
   jt (num ns) G N (dz env dst x) (a.put dst v):=by
 cases dst with
 | none=>exact h
 | some d=>
   simp at hd
   refine ⟨by simp [Act.put,h.size],fun t y hy=>?_⟩
   simp only [dz] at hy
   by_cases ht:d=t
   · subst ht
     rw [aL] at hy
     cases hy
     exact ⟨v,by simp [Act.put,h.size,hd],hx⟩
   · rw [aA _ _ _ _ ht] at hy
     obtain ⟨u,h1,h2⟩:=h.env t y hy
     exact ⟨u,by simp only [Act.put];rw [Array.getElem?_setIfInBounds_ne ht];exact h1,h2⟩
theorem put_defers (a:Act) (dst:Option Nat) (v:Value):(a.put dst v).defers=a.defers:=by cases dst<;>rfl
theorem eB {A:gm} {N:Nat} {ops:Array Oper} {o:Oper} {ao:cr} (h:bH P ns A N ops o=some ao) :
   ∃args,aU P ns A o.dst o.op=some (ao.op,args)∧bB (cO ns) args=some ao.args∧ao.dst=o.dst∧(o.dst.map (fun d=>decide (d<N))).getD true=true ∧
     ((o.guard=none∧ao.guard=none)∨∃j b t,o.guard=some (j,b)∧(ops[j]?).bind (·.dst)=some t∧ao.guard=some (t,b)):=by
 unfold bH at h
 split at h
 · rename_i k args hk
   split at h
   · rename_i as ha
     simp only [Option.ite_none_right_eq_some] at h
     obtain ⟨hd,h⟩:=h
     split at h
     · rename_i hg
       simp at h;subst h
       exact ⟨args,hk,ha,rfl,hd,.inl ⟨hg,rfl⟩⟩
     · rename_i j b hg
       split at h
       · rename_i t ht
         simp at h;subst h
         exact ⟨args,hk,ha,rfl,hd,.inr ⟨j,b,t,hg,ht,rfl⟩⟩
       · simp at h
   · simp at h
 · simp at h
theorem kX {A:gm} {N:Nat} {ops:Array Oper} {o:Oper} {ao:cr} {env:List (Nat×AV)} {a:Act} (h:bH P ns A N ops o=some ao) (he:jt (num ns) G N env a) {r:Bool}
   (hw:a_ env ao.guard=some r):Region.wanted o (yielded ops a.tmps)=r:=by
 obtain ⟨_,_,_,_,_,hg⟩:=eB h
 rcases hg with ⟨h1,h2⟩ | ⟨j,b,t,h1,h2,h3⟩
 · rw [h2] at hw
   simp [a_] at hw
   simp [Region.wanted,h1,hw]
 · rw [h3] at hw
   simp only [a_] at hw
   split at hw
   · rename_i c hc
     obtain ⟨v,e1,e2⟩:=he.env t _ hc
     simp only [ah,dS] at e2
     simp at hw
     simp [Region.wanted,h1,yielded,h2,e1,e2,hw]
   · rename_i hc
     obtain ⟨v,e1,e2⟩:=he.env t _ hc
     simp only [ah] at e2
     simp at hw
     simp [Region.wanted,h1,yielded,h2,e1,e2,undef,←hw]
   · simp at hw
theorem vq (hB:dZ P ns) {orc:dh} (horc:fe P ns orc) {A:gm} {N:Nat} {ops:Array Oper} {o:Oper} {ao:cr} (hc:bH P ns A N ops o=some ao)
   {st st':St} {a:Act} (hs:dM (num ns) n0 N G st a w) (hev:bj orc ao st=some st') {next:Act→World→Prop} {Q:Exit→Act→World→Prop}
   (hn:∀G' v w',dM (num ns) n0 N G' st' (a.put o.dst v) w'→aZ G w G' w'→next (a.put o.dst v) w') :
   (Region.wanted o (yielded ops a.tmps)=true∧o.wp P a w next Q)∨(Region.wanted o (yielded ops a.tmps)=false∧next (a.put o.dst undef) w):=by
 obtain ⟨args,h1,h2,h3,h4,_⟩:=eB hc
 unfold bj at hev
 split at hev
 · simp at hev
 · rename_i hw
   right
   refine ⟨kX hc hs.env hw,?_⟩
   simp at hev;subst hev
   refine hn G _ w ⟨?_,hs.inv,hs.marks.pd (aZ.refl G w) (put_defers _ _ _)⟩ (aZ.refl G w)
   simp only [h3]
   exact hs.env.put h4 (by simp [ah])
 · rename_i hw
   left
   refine ⟨kX hc hs.env hw,?_⟩
   split at hev
   · simp at hev
   · rename_i vals hv
     split at hev
     · simp at hev
     · rename_i out ho
       simp at hev;subst hev
       have hr:=sg hs.env h2 hv
       refine EN hB horc h1 hr hs.inv ho ?_
       intro v w' G' g1 g2 g3 g4
       refine hn G' _ w' ⟨?_,g2,hs.marks.pd g4 (put_defers _ _ _)⟩ g4
       simp only [h3]
       exact (hs.env.mono g3).put h4 g1
end
end Go.Ab
namespace Go.Ab
section
variable {orc:dh}
def Cq (E:Nat→Option AV):dL→Option AV
 | .t n=>E n
 | .c v=>some v
def iw (E:Nat→Option AV):List dL→Option (List AV)
 | []=>some []
 | x::r=>match Cq E x,iw E r with
   | some v,some vs=>some (v::vs)
   | _,_=>none
def jR (E:Nat→Option AV):Option (Nat×Bool)→Option Bool
 | none=>some true
 | some (t,b)=>match E t with
   | some (.pv (.bool c))=>some (c == b)
   | some .un=>some false
   | _=>none
def cd (orc:dh) (o:cr) (E:Nat→Option AV) (M:Nat→Option (List AV)) (sh:Sh) (aa:al):Option Out:=
 match jR E o.guard with
 | none=>none
 | some false=>some ⟨.un,none,sh,aa⟩
 | some true=>match iw E o.args with
   | none=>none
   | some vals=>exec orc o.op vals (o.op.key.bind M) sh aa
theorem nR (env:List (Nat×AV)):∀l,bc env l=iw (look env) l
 | []=>rfl
 | x::l=>by
   have:b_ env x=Cq (look env) x:=by cases x<;>rfl
   simp only [bc,iw,this,nR env l]
   rfl
theorem cU (o:cr) (st:St):bj orc o st=(cd orc o (look st.env) (look st.mem) st.sh st.aa).map
   fun r=>{ env:=dz st.env o.dst r.val,mem:=dr st.mem o.op.key r.cells,sh:=r.sh,aa:=r.aa }:=by
 unfold bj cd
 have hw:a_ st.env o.guard=jR (look st.env) o.guard:=by
   cases o.guard with
   | none=>rfl
   | some g=>rfl
 rw [hw]
 cases jR (look st.env) o.guard with
 | none=>rfl
 | some b=>cases b with
   | false=>simp [cG]
   | true=>
     simp only [nR]
     cases iw (look st.env) o.args with
     | none=>rfl
     | some vals=>
       simp only
       cases exec orc o.op vals (o.op.key.bind (look st.mem)) st.sh st.aa<;>rfl
theorem jG {E E':Nat→Option AV}:∀{l:List dL},(∀t∈l.filterMap (fun | .t n=>some n | _=>none),E t=E' t)→iw E l=iw E' l
 | [],_=>rfl
 | .c v::l,h=>by
   simp only [iw,Cq]
   rw [jG (l:=l) (fun t ht=>h t (by simpa using ht))]
 | .t n::l,h=>by
   simp only [iw,Cq]
   rw [jG (l:=l) (fun t ht=>h t (by simp only [List.filterMap_cons,List.mem_cons];exact .inr ht)),h n (by simp)]
theorem eW {o:cr} {E E':Nat→Option AV} {M M':Nat→Option (List AV)} {sh:Sh} {aa:al} (hE:∀t∈o.looks,E t=E' t) (hM:∀k,o.op.key=some k→M k=M' k) :
   cd orc o E M sh aa=cd orc o E' M' sh aa:=by
 have h1:jR E o.guard=jR E' o.guard:=by
   cases hg:o.guard with
   | none=>rfl
   | some g=>
     obtain ⟨t,b⟩:=g
     simp only [jR]
     rw [hE t (by simp [cr.looks,hg])]
 have h2:iw E o.args=iw E' o.args:=jG fun t ht=>hE t (by simp only [cr.looks,List.mem_append];exact .inl ht)
 have h3:o.op.key.bind M=o.op.key.bind M':=by
   cases hk:o.op.key with
   | none=>rfl
   | some k=>exact hM k hk
 unfold cd
 rw [h1,h2,h3]
theorem GG {op:AK} {vals:List AV} {cells:Option (List AV)} {sh:Sh} {aa:al} {r:Out} (ht:op.fM=false) (h:exec orc op vals cells sh aa=some r) :
   r.sh=sh∧∀sh',exec orc op vals cells sh' aa=some { r with sh:=sh' }:=by
 cases op with
 | v vo=>
   simp only [exec,Option.map_eq_some_iff] at h ⊢
   obtain ⟨x,h1,rfl⟩:=h
   exact ⟨rfl,fun sh'=>⟨x,h1,rfl⟩⟩
 | cq k o s ag=>
   obtain ⟨cs,x,rfl,rfl,hx,rfl⟩:=fl h
   exact ⟨rfl,fun sh'=>by simp [exec,hx]⟩
 | bC k o s=>
   obtain ⟨cs,v,rfl,rfl,h1,h2,h3,rfl⟩:=fF h
   exact ⟨rfl,fun sh'=>by simp [exec,h1,h2,h3]⟩
 | alloc k z=>
   obtain ⟨rfl,rfl,rfl⟩:=gH h
   exact ⟨rfl,fun sh'=>by simp [exec]⟩
 | box k s=>
   obtain ⟨v,rfl,rfl,h1,h2,rfl⟩:=jz h
   exact ⟨rfl,fun sh'=>by simp only [exec];rw [if_pos ⟨h1,h2⟩]⟩
 | fW d s b z=>
   obtain ⟨k,k',n,rfl,h1,h2,h3,h4,rfl,rfl⟩:=gJ h
   exact ⟨rfl,fun sh'=>by simp [exec,h1,h2,h3,h4]⟩
 | append s b=>
   obtain ⟨s,x,y,ts,rfl,h1,rfl⟩:=hH h
   exact ⟨rfl,fun sh'=>by simp [exec,h1]⟩
 | dw s b ag=>simp [AK.fM] at ht
 | ek s b=>
   obtain ⟨s,x,e,xs,p,rfl,h0,h1,rfl⟩:=gg h
   exact ⟨rfl,fun sh'=>by simp [exec,h0,h1]⟩
 | gp s z=>simp [AK.fM] at ht
 | ja s=>simp [AK.fM] at ht
 | clone s b=>
   obtain ⟨x,y,ts,rfl,h1,rfl⟩:=kf h
   exact ⟨rfl,fun sh'=>by simp [exec,h1]⟩
 | aN g=>
   simp only [exec] at h ⊢
   split at h
   · rename_i cM hp
     simp only [Option.map_eq_some_iff] at h
     obtain ⟨rs,h1,rfl⟩:=h
     exact ⟨rfl,fun sh'=>by simp [h1]⟩
   · simp at h
 | ik g=>
   simp only [exec] at h ⊢
   split at h
   · rename_i cM hp
     split at h
     · rename_i rs ts1 h1
       cases h
       exact ⟨rfl,fun sh'=>by simp [h1]⟩
     · simp at h
   · simp at h
 | _=>simp [AK.fM] at ht
theorem GH {op:AK} {vals:List AV} {cells:Option (List AV)} {sh:Sh} {aa:al} {r:Out} (ht:op.dY=false) (h:exec orc op vals cells sh aa=some r) :
   r.aa=aa∧∀ts,exec orc op vals cells sh ts=some { r with aa:=ts }:=by
 cases op with
 | v vo=>
   simp only [exec,Option.map_eq_some_iff] at h ⊢
   obtain ⟨x,h1,rfl⟩:=h
   exact ⟨rfl,fun ts=>⟨x,h1,rfl⟩⟩
 | cq k o s ag=>
   obtain ⟨cs,x,rfl,rfl,hx,rfl⟩:=fl h
   exact ⟨rfl,fun ts=>by simp [exec,hx]⟩
 | bC k o s=>
   obtain ⟨cs,v,rfl,rfl,h1,h2,h3,rfl⟩:=fF h
   exact ⟨rfl,fun ts=>by simp [exec,h1,h2,h3]⟩
 | alloc k z=>
   obtain ⟨rfl,rfl,rfl⟩:=gH h
   exact ⟨rfl,fun ts=>by simp [exec]⟩
 | box k s=>
   obtain ⟨v,rfl,rfl,h1,h2,rfl⟩:=jz h
   exact ⟨rfl,fun ts=>by simp only [exec];rw [if_pos ⟨h1,h2⟩]⟩
 | fW d s b z=>
   obtain ⟨k,k',n,rfl,h1,h2,h3,h4,rfl,rfl⟩:=gJ h
   exact ⟨rfl,fun ts=>by simp [exec,h1,h2,h3,h4]⟩
 | append s b=>simp [AK.dY] at ht
 | dw s b ag=>simp [AK.dY] at ht
 | ek s b=>simp [AK.dY] at ht
 | clone s b=>simp [AK.dY] at ht
 | iD s b ag=>
   rcases vals with _ | ⟨x,_ | ⟨_,_⟩⟩
   · simp [exec] at h
   · simp only [exec,ia] at h ⊢
     split at h
     · rename_i xs hx
       split at h
       · rename_i hh
         simp only [Option.map_map,Option.map_eq_some_iff] at h
         obtain ⟨⟨y,sh'⟩,h1,rfl⟩:=h
         refine ⟨rfl,fun ts=>?_⟩
         simp [hx,hh,h1]
       · simp at h
     · simp at h
   · simp [exec] at h
 | gp s z=>
   obtain ⟨x,sh',rfl,h1,rfl⟩:=mg h
   exact ⟨rfl,fun ts=>by simp [exec,h1]⟩
 | ja s=>
   obtain ⟨x,y,xs,k,sh',rfl,h0,h1,rfl⟩:=iL h
   exact ⟨rfl,fun ts=>by simp [exec,h0,h1]⟩
 | kB=>
   obtain ⟨rfl,rfl⟩:=iK h
   exact ⟨rfl,fun ts=>by simp [exec]⟩
 | ij c ok z=>
   obtain ⟨s,k,kvs,r,rfl,h1,h2,rfl⟩:=gK h
   exact ⟨rfl,fun ts=>by simp [exec,h1,h2]⟩
 | nf c=>
   obtain ⟨s,k,v,kvs,p,kvs',rfl,h1,h2,h3,rfl⟩:=jO h
   exact ⟨rfl,fun ts=>by simp [exec,h1,h2,h3]⟩
 | aN g=>
   simp only [exec] at h ⊢
   split at h
   · rename_i cM hp
     simp only [Option.map_eq_some_iff] at h
     obtain ⟨rs,h1,rfl⟩:=h
     exact ⟨rfl,fun ts=>by simp [h1]⟩
   · simp at h
 | gq g=>
   simp only [exec] at h ⊢
   split at h
   · rename_i cM hp
     simp only [Option.map_eq_some_iff] at h
     obtain ⟨rs,h1,rfl⟩:=h
     exact ⟨rfl,fun ts=>by simp [h1]⟩
   · simp at h
 | bJ g own=>simp [AK.dY] at ht
 | ik g=>simp [AK.dY] at ht
 | fC=>simp [AK.dY] at ht
 | dN=>simp [AK.dY] at ht
 | dt s ag=>
   obtain ⟨p,x,rfl,rfl,hor⟩:=gI h
   refine ⟨rfl,fun ts=>?_⟩
   rcases hor with ⟨cs,rfl,hx⟩ | ⟨b,off,cs,rfl,hcs,hm,hx⟩
   · simp [exec,hx]
   · simp [exec,hcs,hm,hx]
 | df s=>
   obtain ⟨b,off,v,cs,rfl,hcs,h0,h1,h2,h3,h4,rfl⟩:=eJ h
   refine ⟨rfl,fun ts=>?_⟩
   simp only [exec,hcs]
   rw [if_pos ⟨h0,h1,h2,h3,h4⟩]
 | iC s=>
   obtain ⟨b,off,v,cs,rfl,hcs,h0,h1,h2,h3,h4,rfl⟩:=g_ h
   refine ⟨rfl,fun ts=>?_⟩
   simp only [exec,hcs]
   rw [if_pos ⟨h0,h1,h2,h3,h4⟩]
 | kA s=>
   obtain ⟨v,rfl,h1,h2,h3,rfl⟩:=jM h
   refine ⟨rfl,fun ts=>?_⟩
   simp only [exec]
   rw [if_pos ⟨h1,h2,h3⟩]
 | ph s=>
   obtain ⟨v,rfl,h1,h2,h3,rfl⟩:=jN h
   refine ⟨rfl,fun ts=>?_⟩
   simp only [exec]
   rw [if_pos ⟨h1,h2,h3⟩]
 | gn z=>
   obtain ⟨rfl,rfl⟩:=hG h
   exact ⟨rfl,fun ts=>by simp [exec]⟩
 | i_ s b ag z=>
   obtain ⟨k,k',n,rfl,h1,h2,h3,h4,rfl⟩:=iJ h
   exact ⟨rfl,fun ts=>by simp [exec,h1,h2,h3,h4]⟩
theorem GI {op:AK} {vals:List AV} {cells:Option (List AV)} {sh:Sh} {aa:al} {r:Out} (ht:op.fp=false) (hk:op.key≠none) (h:exec orc op vals cells sh aa=some r):r.cells=none:=by
 cases op with
 | cq k o s ag=>
   obtain ⟨cs,x,rfl,rfl,hx,rfl⟩:=fl h
   rfl
 | bC k o s=>simp [AK.fp] at ht
 | alloc k z=>simp [AK.fp] at ht
 | box k s=>simp [AK.fp] at ht
 | fW d s b z=>simp [AK.fp] at ht
 | _=>simp [AK.key] at hk
theorem pE {sz:Nat} {ag:Bool} {vals:List AV} {cells:Option (List AV)} {sh:Sh} {aa:al} {r:Out} (h:exec orc (.dt sz ag) vals cells sh aa=some r):r.sh=sh:=by
 obtain ⟨p,x,rfl,rfl,_⟩:=gI h
 rfl
theorem pF {c:CK} {ok:Bool} {z:PV} {vals:List AV} {cells:Option (List AV)} {sh:Sh} {aa:al} {r:Out} (h:exec orc (.ij c ok z) vals cells sh aa=some r):r.sh=sh:=by
 obtain ⟨s,k,kvs,r,rfl,_,_,rfl⟩:=gK h
 rfl
theorem nS {vals:List AV} {cells:Option (List AV)} {sh:Sh} {aa:al} {r:Out} (h:exec orc .dN vals cells sh aa=some r):r.sh=sh:=by
 cases vals with
 | nil=>simp [exec] at h
 | cons f vals=>
   cases f with
   | fn g cap=>
     simp only [exec,Option.bind_eq_some_iff] at h
     obtain ⟨⟨v,sh',ts⟩,_,h2⟩:=h
     simp only [II,Option.ite_none_right_eq_some,Option.some.injEq] at h2
     rw [←h2.2]
   | _=>simp [exec] at h
theorem nT {o:cr} {E:Nat→Option AV} {M:Nat→Option (List AV)} {sh:Sh} {aa:al} {r:Out} (ht:o.op.fM=false) (h:cd orc o E M sh aa=some r) :
   r.sh=sh∧∀sh',cd orc o E M sh' aa=some { r with sh:=sh' }:=by
 unfold cd at *
 split at h
 · simp at h
 · simp at h;subst h;exact ⟨rfl,fun _=>rfl⟩
 · split at h
   · simp at h
   · exact GG ht h
theorem tg {o:cr} {E:Nat→Option AV} {M:Nat→Option (List AV)} {sh:Sh} {aa:al} {r:Out} (ht:o.op.pQ=true) (h:cd orc o E M sh aa=some r):r.sh=sh:=by
 unfold cd at *
 split at h
 · simp at h
 · simp at h;subst h;rfl
 · split at h
   · simp at h
   · rename_i vals _
     cases ho:o.op with
     | dt sz ag=>
       rw [ho] at h
       have hl:=pE h
       exact hl
     | ij c ok z=>
       rw [ho] at h
       exact pF h
     | dN=>
       rw [ho] at h
       exact nS h
     | _=>rw [ho] at ht;simp [AK.pQ] at ht
theorem kY {o:cr} {E:Nat→Option AV} {M:Nat→Option (List AV)} {sh:Sh} {aa:al} {r:Out} (ht:o.op.dY=false) (h:cd orc o E M sh aa=some r) :
   r.aa=aa∧∀ts,cd orc o E M sh ts=some { r with aa:=ts }:=by
 unfold cd at *
 split at h
 · simp at h
 · simp at h;subst h;exact ⟨rfl,fun _=>rfl⟩
 · split at h
   · simp at h
   · exact GH ht h
theorem kZ {o:cr} {E:Nat→Option AV} {M:Nat→Option (List AV)} {sh:Sh} {aa:al} {r:Out} (ht:o.op.fp=false) (hk:o.op.key≠none) (h:cd orc o E M sh aa=some r):r.cells=none:=by
 unfold cd at h
 split at h
 · simp at h
 · simp at h;subst h;rfl
 · split at h
   · simp at h
   · exact GI ht hk h
structure gN (x y:St):Prop where
 env:∀t,look x.env t=look y.env t
 mem:∀t,look x.mem t=look y.mem t
 sh:x.sh=y.sh
 aa:x.aa=y.aa
theorem gN.refl (x:St):gN x x:=⟨fun _=>rfl,fun _=>rfl,rfl,rfl⟩
theorem gN.symm {x y:St} (h:gN x y):gN y x:=⟨fun t=>(h.env t).symm,fun t=>(h.mem t).symm,h.sh.symm,h.aa.symm⟩
theorem gN.trans {x y z:St} (h:gN x y) (k:gN y z):gN x z:=⟨fun t=>(h.env t).trans (k.env t),fun t=>(h.mem t).trans (k.mem t),h.sh.trans k.sh,h.aa.trans k.aa⟩
theorem dm (env:List (Nat×AV)) (d:Option Nat) (v:AV) (t:Nat):look (dz env d v) t=if d=some t then some v else look env t:=by
 cases d with
 | none=>simp [dz]
 | some d=>
   simp only [dz,Option.some.injEq]
   by_cases h:d=t
   · subst h;rw [if_pos rfl,aL]
   · rw [if_neg h,aA _ _ _ _ h]
theorem jS (mem:List (Nat×List AV)) (k:Option Nat) (c:Option (List AV)) (t:Nat):look (dr mem k c) t=if k=some t then (match c with | some cs=>some cs | none=>look mem t) else look mem t:=by
 cases c with
 | none=>rw [cG];split<;>rfl
 | some cs=>
   cases k with
   | none=>simp [dr]
   | some k=>
     simp only [dr,Option.some.injEq]
     by_cases h:k=t
     · subst h;rw [if_pos rfl,aL]
     · rw [if_neg h,aA _ _ _ _ h]
theorem zx {o:cr} {x y x':St} (h:gN x y) (he:bj orc o x=some x'):∃y',bj orc o y=some y'∧gN x' y':=by
 rw [cU,Option.map_eq_some_iff] at he
 obtain ⟨r,hr,rfl⟩:=he
 have:cd orc o (look y.env) (look y.mem) y.sh y.aa=some r:=by
   rw [←h.sh,←h.aa,←hr]
   exact (eW (fun t _=>h.env t) (fun t _=>h.mem t)).symm
 refine ⟨{ env:=dz y.env o.dst r.val,mem:=dr y.mem o.op.key r.cells,sh:=r.sh,aa:=r.aa },by rw [cU,this];rfl,⟨fun t=>?_,fun t=>?_,rfl,rfl⟩⟩
 · simp only [dm,h.env]
 · simp only [jS,h.mem]
end
end Go.Ab
namespace Go.Ab
section
variable {orc:dh}
theorem lJ {x y:cr} (h:indep x y=true) :
   (∀d,x.dst=some d→d∉y.looks∧y.dst≠some d)∧(∀d,y.dst=some d→d∉x.looks)∧(x.op.fM=false∨y.op.fM=false∨(x.op.pQ=true∧y.op.pQ=true))∧(x.op.dY=false∨y.op.dY=false) ∧
   (∀k,x.op.key=some k→y.op.key=some k→x.op.fp=false∧y.op.fp=false):=by
 simp only [indep,Bool.and_eq_true,Bool.or_eq_true,Bool.not_eq_true',Bool.and_eq_false_iff] at h
 obtain ⟨⟨⟨⟨h1,h2⟩,h3⟩,h4⟩,h5⟩:=h
 refine ⟨fun d hd=>?_,fun d hd=>?_,h3.elim (fun h=>h.elim .inl fun h=>.inr (.inl h)) fun h=>.inr (.inr h),h4,fun k hx hy=>?_⟩
 · rw [hd] at h1
   simp at h1
   exact h1
 · rw [hd] at h2
   simpa using h2
 · rw [hx,hy] at h5
   simp at h5
   exact h5
theorem EO {x y:cr} (h:indep x y=true) {st st1 st2:St} (h1:bj orc x st=some st1) (h2:bj orc y st1=some st2) :
   ∃st1' st2',bj orc y st=some st1'∧bj orc x st1'=some st2'∧gN st2' st2:=by
 obtain ⟨hd1,hd2,hS,hT,hK⟩:=lJ h
 rw [cU,Option.map_eq_some_iff] at h1 h2
 obtain ⟨r1,hr1,rfl⟩:=h1
 obtain ⟨r2,hr2,rfl⟩:=h2
 simp only at hr2
 have hr2':cd orc y (look st.env) (look st.mem) r1.sh r1.aa=some r2:=by
   rw [←hr2]
   refine eW (fun t ht=>?_) (fun k hk=>?_)
   · rw [dm,if_neg]
     intro e
     exact (hd1 t e).1 ht
   · rw [jS]
     split
     · rename_i e
       have:=kZ (hK k e hk).1 (by rw [e];simp) hr1
       rw [this]
     · rfl
 obtain ⟨sh',ts',hy,hsh,hts⟩:∃sh' ts',cd orc y (look st.env) (look st.mem) st.sh st.aa=some { r2 with sh:=sh',aa:=ts' } ∧
     ((x.op.fM=false∧sh'=r2.sh∧r1.sh=st.sh)∨(sh'=st.sh∧r2.sh=r1.sh)) ∧
     ((x.op.dY=false∧ts'=r2.aa∧r1.aa=st.aa)∨(y.op.dY=false∧ts'=st.aa∧r2.aa=r1.aa)):=by
   have stepS:∃sh',cd orc y (look st.env) (look st.mem) st.sh r1.aa=some { r2 with sh:=sh' }∧((x.op.fM=false∧sh'=r2.sh∧r1.sh=st.sh)∨(sh'=st.sh∧r2.sh=r1.sh)):=by
     rcases hS with hS | hS | ⟨hS,hS'⟩
     · have e:=(nT hS hr1).1
       exact ⟨r2.sh,by rw [←e];exact hr2',.inl ⟨hS,rfl,e⟩⟩
     · obtain ⟨e,f⟩:=nT hS hr2'
       exact ⟨st.sh,f st.sh,.inr ⟨rfl,e⟩⟩
     · have e:=tg hS hr1
       have e2:=tg hS' hr2'
       exact ⟨r2.sh,by rw [←e];exact hr2',.inr ⟨e2.trans e,e2⟩⟩
   obtain ⟨sh',hy1,hsh⟩:=stepS
   rcases hT with hT | hT
   · have e:=(kY hT hr1).1
     exact ⟨sh',r2.aa,by rw [←e];exact hy1,hsh,.inl ⟨hT,rfl,e⟩⟩
   · obtain ⟨_,f⟩:=kY hT hy1
     have e:=(kY hT hr2').1
     exact ⟨sh',st.aa,f st.aa,hsh,.inr ⟨hT,rfl,e⟩⟩
 refine ⟨{ env:=dz st.env y.dst r2.val,mem:=dr st.mem y.op.key r2.cells,sh:=sh',aa:=ts' },?_⟩
 have hx:cd orc x (look (dz st.env y.dst r2.val)) (look (dr st.mem y.op.key r2.cells)) st.sh st.aa=some r1:=by
   rw [←hr1]
   refine eW (fun t ht=>?_) (fun k hk=>?_)
   · rw [dm,if_neg]
     intro e
     exact hd2 t e ht
   · rw [jS]
     split
     · rename_i e
       have:=kZ (hK k hk e).2 (by rw [e];simp) hr2'
       rw [this]
     · rfl
 obtain ⟨r1',hx',hval,hcells,hsh2,hts2⟩:∃r1',cd orc x (look (dz st.env y.dst r2.val)) (look (dr st.mem y.op.key r2.cells)) sh' ts'=some r1'∧r1'.val=r1.val∧r1'.cells=r1.cells∧r1'.sh=r2.sh∧r1'.aa=r2.aa:=by
   have stepS:∃r1',cd orc x (look (dz st.env y.dst r2.val)) (look (dr st.mem y.op.key r2.cells)) sh' st.aa=some r1'∧r1'.val=r1.val∧r1'.cells=r1.cells∧r1'.sh=r2.sh∧r1'.aa=r1.aa:=by
     rcases hsh with ⟨hS,rfl,_⟩ | ⟨rfl,e⟩
     · exact ⟨_,(nT hS hx).2 r2.sh,rfl,rfl,rfl,rfl⟩
     · exact ⟨r1,hx,rfl,rfl,e.symm,rfl⟩
   obtain ⟨ra,ha,a1,a2,a3,a4⟩:=stepS
   rcases hts with ⟨hT,rfl,_⟩ | ⟨_,rfl,e⟩
   · exact ⟨_,(kY hT ha).2 r2.aa,a1,a2,a3,rfl⟩
   · exact ⟨ra,ha,a1,a2,a3,a4.trans e.symm⟩
 refine ⟨{ env:=dz (dz st.env y.dst r2.val) x.dst r1'.val,mem:=dr (dr st.mem y.op.key r2.cells) x.op.key r1'.cells,sh:=r1'.sh,aa:=r1'.aa },?_,?_,?_⟩
 · rw [cU,hy];rfl
 · rw [cU,hx'];rfl
 · refine ⟨fun t=>?_,fun t=>?_,hsh2,hts2⟩
   · simp only [dm,hval]
     by_cases hx:x.dst=some t
     · rw [if_pos hx,if_neg (hd1 t hx).2,if_pos hx]
     · rw [if_neg hx,if_neg hx]
   · simp only [jS,hcells]
     by_cases hx:x.op.key=some t
     · rw [if_pos hx,if_pos hx]
       by_cases hy:y.op.key=some t
       · rw [if_pos hy,if_pos hy]
         have e1:=kZ (hK t hx hy).1 (by rw [hx];simp) hr1
         have e2:=kZ (hK t hx hy).2 (by rw [hy];simp) hr2'
         rw [e1,e2]
       · rw [if_neg hy,if_neg hy]
     · rw [if_neg hx,if_neg hx]
theorem q_ {o:cr} {a:Nat} (h:o.addr=some a):∃r,o.args=.t a::r∧((∃sz ag,o.op=.dt sz ag)∨∃sz,o.op=.df sz):=by
 unfold cr.addr at h
 split at h
 · rename_i sz ag a' r h1 h2;cases h;exact ⟨r,h2,.inl ⟨sz,ag,h1⟩⟩
 · rename_i sz a' r h1 h2;cases h;exact ⟨r,h2,.inr ⟨sz,h1⟩⟩
 · cases h
theorem nU {o:cr} {a:Nat} (h:o.addr=some a):a∈o.looks:=by
 obtain ⟨r,h1,_⟩:=q_ h
 simp [cr.looks,h1]
theorem th {o:cr} {a:Nat} (h:o.addr=some a):o.op.key=none:=by
 obtain ⟨r,_,h | h⟩:=q_ h
 · obtain ⟨_,_,h⟩:=h;rw [h];rfl
 · obtain ⟨_,h⟩:=h;rw [h];rfl
def zy (b:Nat) (g:Sh→Sh):Prop:=g=id∨∃x,g=fun s=>s.set b x
theorem zy.other {b b':Nat} {g:Sh→Sh} (h:zy b g) (hb:b≠b') (s:Sh):(g s)[b']?=s[b']?:=by
 rcases h with rfl | ⟨x,rfl⟩
 · rfl
 · exact List.getElem?_set_ne hb
theorem zy.comm {b b':Nat} {g g':Sh→Sh} (h:zy b g) (h':zy b' g') (hb:b≠b') (s:Sh):g (g' s)=g' (g s):=by
 rcases h with rfl | ⟨x,rfl⟩
 · rfl
 · rcases h' with rfl | ⟨y,rfl⟩
   · rfl
   · exact (List.set_comm _ _ hb.symm)
theorem my {o:cr} {a:Nat} (h:o.addr=some a) {E:Nat→Option AV} {M:Nat→Option (List AV)} {sh:Sh} {aa:al} {r:Out} {b off:Nat} (hE:E a=some (.aO b off))
   (hr:cd orc o E M sh aa=some r):r.cells=none∧r.aa=aa∧∃g,zy b g∧r.sh=g sh∧∀sh',sh'[b]?=sh[b]?→cd orc o E M sh' aa=some { r with sh:=g sh' }:=by
 obtain ⟨rest,h1,h2⟩:=q_ h
 unfold cd at hr ⊢
 split at hr
 · simp at hr
 · simp at hr;subst hr
   exact ⟨rfl,rfl,id,.inl rfl,rfl,fun sh' _=>rfl⟩
 · rw [h1] at hr ⊢
   simp only [iw,Cq,hE] at hr ⊢
   cases hv:iw E rest with
   | none=>rw [hv] at hr;simp at hr
   | some vs=>
     rw [hv] at hr
     simp only at hr ⊢
     rcases h2 with ⟨sz,ag,h2⟩ | ⟨sz,h2⟩
     · rw [h2] at hr ⊢
       obtain ⟨p,x,hp,rfl,hor⟩:=gI hr
       refine ⟨rfl,rfl,id,.inl rfl,rfl,fun sh' hs=>?_⟩
       cases vs with
       | cons _ _=>simp at hp
       | nil=>
         simp at hp
         rcases hor with ⟨cs,rfl,hx⟩ | ⟨b',off',cs,rfl,hcs,hm,hx⟩
         · simp at hp
         · simp at hp
           obtain ⟨rfl,rfl⟩:=hp
           simp [exec,hs,hcs,hm,hx]
     · rw [h2] at hr ⊢
       obtain ⟨b',off',v,cs,hp,hcs,h0,h1',h2',h3,h4,rfl⟩:=eJ hr
       simp at hp
       obtain ⟨⟨rfl,rfl⟩,rfl⟩:=hp
       refine ⟨rfl,rfl,fun s=>s.set b (some (aM cs off (bA v))),.inr ⟨_,rfl⟩,rfl,fun sh' hs=>?_⟩
       simp only [exec,hs,hcs]
       rw [if_pos ⟨h0,h1',h2',h3,h4⟩]
def HK (F:Nat→Option AV) (x y:cr):Prop:=indep x y=true ∨
 ((∀d,x.dst=some d→d∉y.looks∧y.dst≠some d)∧(∀d,y.dst=some d→d∉x.looks)∧∃a b,x.addr=some a∧y.addr=some b∧apart (F a) (F b)=true)
theorem qc {x y:Option AV} (h:apart x y=true):∃b o b' o',x=some (.aO b o)∧y=some (.aO b' o')∧b≠b':=by
 unfold apart at h
 split at h
 · rename_i b o b' o'
   exact ⟨b,o,b',o',rfl,rfl,by simpa using h⟩
 · cases h
theorem Cr {F:Nat→Option AV} {x y:cr} (h:HK F x y) {st st1 st2:St} (hx:∀a,x.addr=some a→look st.env a=F a) (hy:∀a,y.addr=some a→look st1.env a=F a)
   (h1:bj orc x st=some st1) (h2:bj orc y st1=some st2) :
   ∃st1' st2',bj orc y st=some st1'∧bj orc x st1'=some st2'∧gN st2' st2∧(∀a,y.addr=some a→look st.env a=F a)∧(∀a,x.addr=some a→look st1'.env a=F a):=by
 have hside:(∀d,x.dst=some d→d∉y.looks∧y.dst≠some d)∧(∀d,y.dst=some d→d∉x.looks):=by
   rcases h with h | h
   · exact ⟨(lJ h).1,(lJ h).2.1⟩
   · exact ⟨h.1,h.2.1⟩
 have hyst:∀a,y.addr=some a→look st.env a=F a:=by
   intro a ha
   have h3:=hy a ha
   rw [cU,Option.map_eq_some_iff] at h1
   obtain ⟨r1,_,rfl⟩:=h1
   rw [←h3]
   simp only [dm]
   rw [if_neg]
   intro e
   exact (hside.1 a e).1 (nU ha)
 have hxst:∀st1',bj orc y st=some st1'→∀a,x.addr=some a→look st1'.env a=F a:=by
   intro st1' h3 a ha
   rw [cU,Option.map_eq_some_iff] at h3
   obtain ⟨r1,_,rfl⟩:=h3
   rw [←hx a ha]
   simp only [dm]
   rw [if_neg]
   intro e
   exact hside.2 a e (nU ha)
 rcases h with h | ⟨hd1,hd2,a,b,ha,hb,hap⟩
 · obtain ⟨st1',st2',g1,g2,g3⟩:=EO h h1 h2
   exact ⟨st1',st2',g1,g2,g3,hyst,hxst st1' g1⟩
 · obtain ⟨ba,oa,bb,ob,fa,fb,hne⟩:=qc hap
   have hE1:look st.env a=some (.aO ba oa):=(hx a ha).trans fa
   have hE2:look st.env b=some (.aO bb ob):=(hyst b hb).trans fb
   have h1':=h1
   rw [cU,Option.map_eq_some_iff] at h1 h2
   obtain ⟨r1,hr1,rfl⟩:=h1
   obtain ⟨r2,hr2,rfl⟩:=h2
   obtain ⟨c1,t1,gx,tx,s1,k1⟩:=my ha hE1 hr1
   simp only at hr2
   have hr2':cd orc y (look st.env) (look st.mem) (gx st.sh) st.aa=some r2:=by
     rw [←hr2,s1,t1]
     refine eW (fun t ht=>?_) (fun k hk=>?_)
     · rw [dm,if_neg]
       intro e
       exact (hd1 t e).1 ht
     · rw [th hb] at hk;cases hk
   obtain ⟨c2,t2,gy,ty,s2,k2⟩:=my hb hE2 hr2'
   have hy0:=k2 st.sh (tx.other hne st.sh).symm
   have hy1:bj orc y st=some { env:=dz st.env y.dst r2.val,mem:=dr st.mem y.op.key r2.cells,sh:=gy st.sh,aa:=r2.aa }:=by
     rw [cU,hy0];rfl
   have hx0:cd orc x (look (dz st.env y.dst r2.val)) (look (dr st.mem y.op.key r2.cells)) (gy st.sh) r2.aa=some { r1 with sh:=gx (gy st.sh) }:=by
     rw [←k1 (gy st.sh) (ty.other (Ne.symm hne) st.sh),t2]
     refine eW (fun t ht=>?_) (fun k hk=>?_)
     · rw [dm,if_neg]
       intro e
       exact hd2 t e ht
     · rw [th ha] at hk;cases hk
   refine ⟨_,{ env:=dz (dz st.env y.dst r2.val) x.dst r1.val,mem:=dr (dr st.mem y.op.key r2.cells) x.op.key r1.cells,sh:=gx (gy st.sh),aa:=r1.aa },hy1,?_,?_,hyst,hxst _ hy1⟩
   · rw [cU,hx0];rfl
   · refine ⟨fun t=>?_,fun t=>?_,?_,?_⟩
     · simp only [dm]
       by_cases hx:x.dst=some t
       · rw [if_pos hx,if_neg (hd1 t hx).2,if_pos hx]
       · rw [if_neg hx,if_neg hx]
     · simp only [c1,c2,cG]
     · simp only [s2];exact tx.comm ty hne st.sh
     · simp only [t1,t2]
variable {ops:Array Oper} {as:List cr} {R:St→Prop} {F:Nat→Option AV}
def pG (orc:dh) (ops:Array Oper) (as:List cr) (F:Nat→Option AV) (R:St→Prop):Nat→Array Bool→St→Prop
 | 0,listed,st=>Region.ready .any ops listed=[]∧R st
 | fuel+1,listed,st=>(Region.ready .any ops listed=[]→R st) ∧
   ∀i∈Region.ready .any ops listed,∃ao st',as[i]?=some ao∧(∀a,ao.addr=some a→look st.env a=F a)∧bj orc ao st=some st'∧pG orc ops as F R fuel (listed.setIfInBounds i true) st'
theorem qd (hR:∀x y,gN x y→R x→R y):∀{fuel:Nat} {listed:Array Bool} {x y:St},gN x y→pG orc ops as F R fuel listed x→pG orc ops as F R fuel listed y
 | 0,_,_,_,hl,h=>⟨h.1,hR _ _ hl h.2⟩
 | fuel+1,_,_,_,hl,h=>⟨fun h0=>hR _ _ hl (h.1 h0),fun i hi=>by
     obtain ⟨ao,st',h1,h6,h2,h3⟩:=h.2 i hi
     obtain ⟨y',h4,h5⟩:=zx hl h2
     exact ⟨ao,y',h1,fun a ha=>(hl.env a).symm.trans (h6 a ha),h4,qd hR h5 h3⟩⟩
def Down (ops:Array Oper) (listed:Array Bool):Prop:=∀k o,ops[k]?=some o→listed.getD k false=true→∀e∈o.after,Region.binds .any e=true→listed.getD e.on false=true
theorem Down.step {listed:Array Bool} (h:Down ops listed) {i:Nat} (hi:i∈Region.ready .any ops listed):Down ops (listed.setIfInBounds i true):=by
 intro k o ho hk e he hb
 by_cases hik:i=k
 · subst hik
   obtain ⟨_,o',ho',hall⟩:=mem_ready.1 hi
   rw [ho] at ho';cases ho'
   exact getD_set_true (hall e he hb)
 · rw [getD_set_ne false hik] at hk
   exact getD_set_true (h k o ho hk e he hb)
theorem vr (hR:∀x y,gN x y→R x→R y) {i:Nat} {ai:cr} (hai:as[i]?=some ai) {waits:Nat→Bool}
   (hwait:∀(listed:Array Bool),Down ops listed→∀j∈Region.ready .any ops listed,waits j=true→listed.getD i false=true) :
   ∀(fuel:Nat) (listed:Array Bool) (st st1:St),Down ops listed →
     (∀j aj,as[j]?=some aj→j≠i→listed.getD j true=false→waits j=false→HK F ai aj)→(∀a,ai.addr=some a→look st.env a=F a) →
     i∈Region.ready .any ops listed→bj orc ai st=some st1→pG orc ops as F R fuel (listed.setIfInBounds i true) st1→pG orc ops as F R (fuel+1) listed st:=by
 intro fuel
 induction fuel with
 | zero=>
   intro listed st st1 hdown hfree haddr hi hev H
   refine ⟨fun h=>(by rw [h] at hi;cases hi),fun j hj=>?_⟩
   by_cases hji:j=i
   · subst hji;exact ⟨ai,st1,hai,haddr,hev,H⟩
   · have:=ready_mono hj hji
     rw [H.1] at this
     cases this
 | succ fuel ih=>
   intro listed st st1 hdown hfree haddr hi hev H
   refine ⟨fun h=>(by rw [h] at hi;cases hi),fun j hj=>?_⟩
   by_cases hji:j=i
   · subst hji;exact ⟨ai,st1,hai,haddr,hev,H⟩
   · obtain ⟨aj,st2,h1,h6,h2,h3⟩:=H.2 j (ready_mono hj hji)
     obtain ⟨hun,_⟩:=mem_ready.1 hj
     have hw:waits j=false:=by
       cases hw:waits j with
       | false=>rfl
       | true=>
         have h1:=hwait listed hdown j hj hw
         have h0:=(mem_ready.1 hi).1
         rcases Nat.lt_or_ge i listed.size with h' | h'
         · simp [h'] at h0 h1;rw [h0] at h1;cases h1
         · simp [Array.getElem?_eq_none h'] at h1
     obtain ⟨st1',st2',g1,g2,g3,g4,g5⟩:=Cr (hfree j aj h1 hji hun hw) haddr h6 hev h2
     refine ⟨aj,st1',h1,g4,g1,ih (listed.setIfInBounds j true) st1' st2' (hdown.step hj) ?_ g5 (ready_mono hi (Ne.symm hji)) g2 ?_⟩
     · intro k ak hk hki hun' hwk
       refine hfree k ak hk hki ?_ hwk
       by_cases hjk:j=k
       · subst hjk;exact hun
       · rw [getD_set_ne true hjk] at hun';exact hun'
     · rw [Array.setIfInBounds_comm _ _ hji]
       exact qd hR g3.symm h3
theorem k9 (acc:List Nat) (i:Nat):∀(l:List Edge) (s:Nat),
   (l.foldl (fun s e=>if Region.binds .any e then s ||| 2 ^ e.on ||| acc.getD e.on 0 else s) s).testBit i=true →
   s.testBit i=true∨∃e∈l,Region.binds .any e=true∧(e.on=i∨(acc.getD e.on 0).testBit i=true)
 | [],s,h=>.inl h
 | e::l,s,h=>by
   simp only [List.foldl_cons] at h
   rcases k9 acc i l _ h with h1 | ⟨e',h2,h3⟩
   · split at h1
     · rename_i hb
       rw [Nat.testBit_or,Nat.testBit_or,Bool.or_eq_true,Bool.or_eq_true] at h1
       rcases h1 with (h1 | h1) | h1
       · exact .inl h1
       · refine .inr ⟨e,by simp,hb,.inl ?_⟩
         rw [Nat.testBit_two_pow] at h1
         simpa using h1
       · exact .inr ⟨e,by simp,hb,.inr h1⟩
     · exact .inl h1
   · exact .inr ⟨e',by simp [h2],h3⟩
theorem nV:∀(l:List Oper) (acc:List Nat),(jq l acc).length=acc.length+l.length∧(∀j,j<acc.length→(jq l acc).getD j 0=acc.getD j 0) ∧
   ∀k o,l[k]?=some o→∀i,((jq l acc).getD (acc.length+k) 0).testBit i=true→∃e∈o.after.toList,Region.binds .any e=true∧(e.on=i∨((jq l acc).getD e.on 0).testBit i=true)
 | [],acc=>⟨by simp [jq],fun j _=>rfl,fun k o h=>by simp at h⟩
 | o::l,acc=>by
   simp only [jq]
   obtain ⟨h1,h2,h3⟩:=nV l (acc++[o.after.toList.foldl (fun s e=>if Region.binds .any e then s ||| 2 ^ e.on ||| acc.getD e.on 0 else s) 0])
   refine ⟨by rw [h1];simp;omega,fun j hj=>?_,fun k o' ho i hi=>?_⟩
   · rw [h2 j (by simp;omega)]
     simp [List.getD,List.getElem?_append_left hj]
   · cases k with
     | zero=>
       simp at ho;subst ho
       rw [Nat.add_zero,h2 acc.length (by simp)] at hi
       have:(acc++[o.after.toList.foldl (fun s e=>if Region.binds .any e then s ||| 2 ^ e.on ||| acc.getD e.on 0 else s) 0]).getD acc.length 0 =
           o.after.toList.foldl (fun s e=>if Region.binds .any e then s ||| 2 ^ e.on ||| acc.getD e.on 0 else s) 0:=by
         simp [List.getD]
       rw [this] at hi
       rcases k9 acc i _ _ hi with h | ⟨e,h4,h5,h6⟩
       · simp at h
       · refine ⟨e,h4,h5,EF h6 fun h=>?_⟩
         have hlt:e.on<acc.length:=by
           rcases Nat.lt_or_ge e.on acc.length with h' | h'
           · exact h'
           · simp [List.getD,List.getElem?_eq_none h'] at h
         rw [h2 e.on (by simp;omega)]
         simpa [List.getD,List.getElem?_append_left hlt] using h
     | succ k=>
       have:=h3 k o' (by simpa using ho) i (by simpa [Nat.add_assoc,Nat.add_comm 1 k] using hi)
       exact this
theorem dT:∀(l:List Oper) (i:Nat),dV i l=true→∀k o,l[k]?=some o→∀e∈o.after,Region.binds .any e=true→e.on<i+k
 | [],_,_,k,o,h,_,_,_=>by simp at h
 | o::l,i,hd,k,o',ho,e,he,hb=>by
   simp only [dV,Bool.and_eq_true,List.all_eq_true] at hd
   cases k with
   | zero=>
     simp at ho;subst ho
     have:=hd.1 e (by simpa using he)
     simpa [hb] using this
   | succ k=>
     have:=dT l (i+1) hd.2 k o' (by simpa using ho) e he hb
     omega
theorem q' {l:List Oper} (hl:ops.toList=l) (hd:dV 0 l=true) {listed:Array Bool} (hdown:Down ops listed) (i:Nat):∀(j:Nat) (o:Oper),ops[j]?=some o →
   (∀e∈o.after,Region.binds .any e=true→listed.getD e.on false=true)→((jq l []).getD j 0).testBit i=true→listed.getD i false=true:=by
 intro j
 induction j using Nat.strongRecOn with
 | _ j ih=>
   intro o ho hall hbit
   have hlo:l[j]?=some o:=by rw [←hl];simpa using ho
   obtain ⟨e,h1,h2,h3⟩:=(nV l []).2.2 j o hlo i (by simpa using hbit)
   have he:e∈o.after:=by simpa using h1
   rcases h3 with h3 | h3
   · rw [←h3];exact hall e he h2
   · have hlt:=dT l 0 hd j o hlo e he h2
     have hlt':e.on<j:=by omega
     have hjs:j<ops.size:=(Array.getElem?_eq_some_iff.1 ho).1
     have hoo:ops[e.on]?=some (ops[e.on]'(by omega)):=Array.getElem?_eq_getElem (by omega)
     exact ih e.on hlt' _ hoo (fun e' he' hb'=>hdown e.on _ hoo (hall e he h2) e' he' hb') h3
theorem k_ {ds:List (Nat×Nat)} {ms:List Nat} {i:Nat} {x:cr}:∀(l:List cr) (j:Nat),mU ds ms i x j l=true→∀k y,l[k]?=some y→(ms.getD (j+k) 0).testBit i=true∨(indep x y || sf ds x y)=true
 | [],_,_,k,y,h=>by simp at h
 | z::l,j,hp,k,y,hy=>by
   simp only [mU,Bool.and_eq_true,Bool.or_eq_true] at hp
   cases k with
   | zero=>simp at hy;subst hy;simpa [or_assoc] using hp.1
   | succ k=>
     have:=k_ l (j+1) hp.2 k y (by simpa using hy)
     rwa [show j+1+k=j+(k+1) from by omega] at this
theorem j8 {ds:List (Nat×Nat)} {ms:List Nat}:∀(l:List cr) (i:Nat),jr ds ms i l=true→∀k m x y,k<m→l[k]?=some x→l[m]?=some y→(ms.getD (i+m) 0).testBit (i+k)=true∨(indep x y || sf ds x y)=true
 | [],_,_,k,m,x,y,_,h,_=>by simp at h
 | z::l,i,hp,k,m,x,y,hkm,hx,hy=>by
   simp only [jr,Bool.and_eq_true] at hp
   cases m with
   | zero=>omega
   | succ m=>
     cases k with
     | zero=>
       simp at hx;subst hx
       have:=k_ l (i+1) hp.1 m y (by simpa using hy)
       rwa [show i+1+m=i+(m+1) from by omega] at this
     | succ k=>
       have:=j8 l (i+1) hp.2 k m x y (by omega) (by simpa using hx) (by simpa using hy)
       rwa [show i+1+m=i+(m+1) from by omega,show i+1+k=i+(k+1) from by omega] at this
theorem mP {n:Nat} (hd:dV 0 ops.toList=true) {k:Nat} {o:Oper} {listed:Array Bool} (hs:listed.size=n) (hl:∀j,j<n→listed[j]?=some (decide (j<k))) (hn:ops.size=n) (ho:ops[k]?=some o) :
   k∈Region.ready .any ops listed:=by
 have hk:k<ops.size:=(Array.getElem?_eq_some_iff.1 ho).1
 rw [mem_ready]
 refine ⟨by simp [hl k (by omega)],o,ho,fun e he hb=>?_⟩
 have:=dT _ 0 hd k o (by simpa using ho) e he hb
 simp [hl e.on (by omega)]
 omega
theorem zA {ds:List (Nat×Nat)} {x y:cr} (h:sf ds x y=true) :
   (∀d,x.dst=some d→d∉y.looks∧y.dst≠some d)∧(∀d,y.dst=some d→d∉x.looks)∧∃a b,x.addr=some a∧y.addr=some b∧(a,b)∈ds:=by
 simp only [sf,Bool.and_eq_true] at h
 obtain ⟨⟨h1,h2⟩,h3⟩:=h
 refine ⟨fun d hd=>?_,fun d hd=>?_,?_⟩
 · rw [hd] at h1
   simp at h1
   exact h1
 · rw [hd] at h2
   simpa using h2
 · split at h3
   · rename_i a b ha hb
     exact ⟨a,b,ha,hb,by simpa using h3⟩
   · cases h3
theorem nW {env:List (Nat×AV)}:∀{ds:List (Nat×Nat)},eA env ds=true→∀a b,(a,b)∈ds→apart (look env a) (look env b)=true
 | [],_,a,b,h=>by simp at h
 | (a',b')::r,h,a,b,hm=>by
   simp only [eA,Bool.and_eq_true] at h
   simp only [List.mem_cons,Prod.mk.injEq] at hm
   rcases hm with ⟨rfl,rfl⟩ | hm
   · exact h.1
   · exact nW h.2 a b hm
theorem nX {t:Nat}:∀{l:List cr} {st st':St},l.all (fun o=>o.dst != some t)=true→aW orc l st=some st'→look st'.env t=look st.env t
 | [],st,st',_,h=>by simp [aW] at h;subst h;rfl
 | o::l,st,st',hl,h=>by
   simp only [List.all_cons,Bool.and_eq_true,bne_iff_ne,ne_eq] at hl
   simp only [aW] at h
   split at h
   · simp at h
   · rename_i st1 h1
     rw [nX (by simpa using hl.2) h]
     rw [cU,Option.map_eq_some_iff] at h1
     obtain ⟨r1,_,rfl⟩:=h1
     simp only [dm]
     rw [if_neg hl.1]
theorem nY {ds:List (Nat×Nat)} (hR:∀x y,gN x y→R x→R y) (hd:dV 0 ops.toList=true) (hp:jr ds (jq ops.toList []) 0 as=true) (hlen:as.length=ops.size)
   (hF:∀a b,(a,b)∈ds→apart (F a) (F b)=true) :
   ∀(l:List cr) (k:Nat) (listed:Array Bool) (st st':St),(∀j,l[j]?=as[k+j]?)→l.length+k=ops.size→listed.size=ops.size→(∀j,j<ops.size→listed[j]?=some (decide (j<k)))→Down ops listed →
     qK l=true→(∀a,F a=look st'.env a)→aW orc l st=some st'→R st'→pG orc ops as F R l.length listed st
 | [],k,listed,st,st',_,hk,hs,hl,_,_,_,hev,hr=>by
   simp [aW] at hev;subst hev
   refine ⟨?_,hr⟩
   rw [List.eq_nil_iff_forall_not_mem]
   intro i hi
   obtain ⟨h1,o,ho,_⟩:=mem_ready.1 hi
   have hi':i<ops.size:=(Array.getElem?_eq_some_iff.1 ho).1
   simp at hk
   simp [hl i hi'] at h1
   omega
 | x::l,k,listed,st,st',hlk,hk,hs,hl,hdown,hlt,hFe,hev,hr=>by
   have hev0:=hev
   simp only [qK,Bool.and_eq_true] at hlt
   simp only [aW] at hev
   split at hev
   · simp at hev
   · rename_i st1 hst1
     simp only [List.length_cons] at hk ⊢
     have hx:as[k]?=some x:=by simpa using (hlk 0).symm
     have hks:k<ops.size:=by omega
     have ho:ops[k]?=some ops[k]:=Array.getElem?_eq_getElem hks
     have hready:=mP hd hs hl rfl ho
     refine vr hR hx (waits:=fun j=>((jq ops.toList []).getD j 0).testBit k) ?_ l.length listed st st1 hdown ?_ (fun a ha=>?_) hready hst1 ?_
     · intro listed' hdown' j hj hw
       obtain ⟨_,o,hoj,hall⟩:=mem_ready.1 hj
       exact q' rfl hd hdown' k j o hoj hall hw
     · intro j aj hj hjk hun hw
       have hj':j<ops.size:=by rw [←hlen];exact (List.getElem?_eq_some_iff.1 hj).1
       have hkj:k<j:=by
         simp [hl j hj'] at hun
         omega
       have:=j8 as 0 hp k j x aj hkj hx hj
       simp only [Nat.zero_add] at this
       rcases this with h | h
       · rw [h] at hw;simp at hw
       · rcases Bool.or_eq_true _ _ |>.mp h with h | h
         · exact .inl h
         · obtain ⟨f1,f2,a,b,f3,f4,f5⟩:=zA h
           exact .inr ⟨f1,f2,a,b,f3,f4,hF a b f5⟩
     · have h1:=hlt.1
       rw [ha] at h1
       rw [hFe a]
       exact (nX h1 hev0).symm
     · refine nY hR hd hp hlen hF l (k+1) (listed.setIfInBounds k true) st1 st' (fun j=>?_) (by omega) (by simp [hs]) (fun j hj=>?_) (hdown.step hready) hlt.2 hFe hev hr
       · have:=hlk (j+1)
         rw [show k+(j+1)=k+1+j from by omega] at this
         simpa using this
       · by_cases hkj:k=j
         · subst hkj;simp [hs,hks]
         · rw [Array.getElem?_setIfInBounds_ne hkj,hl j hj]
           congr 1
           simp
           omega
end
section
variable {n0:Nat} {P:Program} {ns:Names}
theorem dM.EP {n0 N:Nat} {G:Gh} {x y:St} {a:Act} {w:World} (h:dM (num ns) n0 N G x a w) (hl:gN x y):dM (num ns) n0 N G y a w:=by
 refine ⟨⟨h.env.size,fun t v ht=>h.env.env t v (by rw [hl.env];exact ht)⟩,?_,h.marks⟩
 have hi:=h.inv
 rw [hl.sh,hl.aa] at hi
 exact { hi with
   bM:=fun d cells hd=>hi.bM d cells (by rw [hl.mem];exact hd)
   eR:=fun d b hd=>by rw [←hl.mem];exact hi.eR d b hd }
theorem dM.drew {n0 N:Nat} {G:Gh} {x:St} {a:Act} {w:World} (h:dM (num ns) n0 N G x a w):dM (num ns) n0 N G x a w.drew:=⟨h.env,h.inv.drew,h.marks.pd (aZ.drew G w) rfl⟩
end
end Go.Ab
namespace Go.Ab
section
variable {n0:Nat} {P:Program} {ns:Names} {ro:Option Nat} {n:Nat}
def je (ro:Option Nat):Fence:={ Fence.wide with round:=ro }
theorem zB {f:FuncId} {args:Array Value} {w:World} {R:Ending→World→Prop} (h:Calls P f args w R):CallsIn (je ro) n P f args w R:=by
 have h0:=callsIn_wide (n:=n).2 h
 cases ro with
 | none=>exact h0
 | some l=>exact h0.inRound l
theorem Cs {row:String} {args:Array Value} {w:World} {R:Value→World→Prop} (h:Rows P row args w R):RowsIn (je ro) n P row args w R:=by
 intro c cs _
 obtain ⟨v,w',r,s⟩:=h c cs
 have h0:=stepsIn_wide.2 s
 exact ⟨v,w',r,h0⟩
theorem mW {o:Oper} (hd:∀c,o.op≠.defer c) {a:Act} {w:World} {next:Act→World→Prop} {Q:Exit→Act→World→Prop}
   (h:o.wp P a w next (fun _ _ _=>False)):o.wpIn (je ro) n P a w next Q:=by
 refine ⟨fun _ _=>trivial,?_⟩
 rw [Oper.semAt_eq _ _ _ hd]
 unfold Oper.wp at h
 generalize (execOp a.eval o).run P w=r at h ⊢
 cases r with
 | ok x w'=>
   cases x<;>simp only [Oper.upon,Oper.uponIn] at h ⊢<;>try exact h
   · refine ⟨fun e=>by simp [je,Fence.wide] at e,zB (h.mono ?_)⟩
     intro e w'' he
     cases e with
     | returned v=>exact he
     | panicked c=>exact he.elim
     | outgrown=>obtain ⟨_,_,hf⟩:=he;exact hf.elim
   · exact ⟨fun e=>by simp [je,Fence.wide] at e,Cs h⟩
 | halt x w'=>cases x<;>simp only [Oper.upon,Oper.uponIn] at h ⊢<;>exact h.elim
theorem la {A:gm} {N:Nat} {ops:Array Oper} {o:Oper} {ao:cr} (hc:bH P ns A N ops o=some ao):∀c,o.op≠.defer c:=by
 intro c e
 obtain ⟨args,h1,_⟩:=eB hc
 rw [e] at h1
 simp [aU] at h1
theorem mX {G:Gh} {w:World} (hB:dZ P ns) {orc:dh} (horc:fe P ns orc) {A:gm} {N:Nat} {ops:Array Oper} {o:Oper} {ao:cr} (hc:bH P ns A N ops o=some ao)
   {st st':St} {a:Act} (hs:dM (num ns) n0 N G st a w) (hev:bj orc ao st=some st') {next:Act→World→Prop} {Q:Exit→Act→World→Prop}
   (hn:∀G' v w',dM (num ns) n0 N G' st' (a.put o.dst v) w'→aZ G w G' w'→next (a.put o.dst v) w') :
   if Region.wanted o (yielded ops a.tmps) then o.wpIn (je ro) n P a w next Q else (∀f,o.about P w a.eval=some f→(je ro).fn f)∧next (a.put o.dst undef) w:=by
 rcases vq (Q:=fun _ _ _=>False) hB horc hc hs hev hn with ⟨h1,h2⟩ | ⟨h1,h2⟩
 · rw [if_pos h1];exact mW (la hc) h2
 · rw [h1,if_neg (by simp)];exact ⟨fun _ _=>trivial,h2⟩
theorem tj (hB:dZ P ns) {orc:dh} (horc:fe P ns orc) {A:gm} {N:Nat} {ops:Array Oper} {Q:Exit→Act→World→Prop}:∀{l:List Oper} {as:List cr} {st st':St} {G:Gh} {a:Act} {w:World},
   bB (bH P ns A N ops) l=some as→dM (num ns) n0 N G st a w→aW orc as st=some st' →
   (∀G' a' w',dM (num ns) n0 N G' st' a' w'→aZ G w G' w'→Q .normal a' w')→wpListIn (je ro) n P ops Q l a w
 | [],as,st,st',G,a,w,hc,hs,hev,hq=>by
   simp [bB] at hc;subst hc
   simp [aW] at hev;subst hev
   exact hq G a w hs (aZ.refl G w)
 | o::l,as,st,st',G,a,w,hc,hs,hev,hq=>by
   simp only [bB] at hc
   split at hc
   · rename_i ao aos h1 h2
     simp at hc;subst hc
     simp only [aW] at hev
     split at hev
     · simp at hev
     · rename_i st1 hst1
       unfold wpListIn
       exact mX hB horc h1 hs hst1 (fun G' a' w' hs' he=>tj hB horc h2 hs' hev (fun G'' a'' w'' hs'' he'=>hq G'' a'' w'' hs'' (he.trans he')))
   · simp at hc
theorem yx (hB:dZ P ns) {orc:dh} (horc:fe P ns orc) {A:gm} {N:Nat} {ops:Array Oper} {as:List cr} (hc:bB (bH P ns A N ops) ops.toList=some as) {F:Nat→Option AV} {R:St→Prop} {Q:Exit→Act→World→Prop} :
   ∀{fuel:Nat} {listed:Array Bool} {st:St} {G:Gh} {a:Act} {w:World},dM (num ns) n0 N G st a w→pG orc ops as F R fuel listed st →
     (∀st' G' a' w',R st'→dM (num ns) n0 N G' st' a' w'→aZ G w G' w'→Q .normal a' w')→wpAnyIn (je ro) n P .any ops Q fuel listed a w
 | 0,_,st,G,a,w,hs,h,hq=>⟨h.1,hq st G a w h.2 hs (aZ.refl G w)⟩
 | fuel+1,listed,st,G,a,w,hs,h,hq=>by
   refine ⟨fun h0=>hq st G a w (h.1 h0) hs (aZ.refl G w),fun i hi=>?_⟩
   obtain ⟨ao,st',h1,_,h2,h3⟩:=h.2 i hi
   obtain ⟨_,o,ho,_⟩:=mem_ready.1 hi
   have hco:bH P ns A N ops o=some ao:=by
     obtain ⟨y,g1,g2⟩:=gB hc (i:=i) (x:=o) (by simpa using ho)
     rw [h1] at g1;cases g1;exact g2
   unfold wpOpIn
   simp only [ho]
   exact mX hB horc hco hs h2 (fun G' a' w' hs' he=>yx hB horc hc hs' h3 (fun st'' G'' a'' w'' hr hs'' he'=>hq st'' G'' a'' w'' hr hs'' (he.trans he')))
theorem qe (hm:P.follows .mixedOrders=true) (hB:dZ P ns) {orc:dh} (horc:fe P ns orc) {A:gm} {N id:Nat} {ops:Array Oper} {draw:Bool} {as:List cr}
   (hc:bB (bH P ns A N ops) ops.toList=some as) {ds:List (Nat×Nat)} (hd:draw=true→lz ds ops.toList as=true) {st st':St} {G:Gh} {a:Act} {w:World} (hs:dM (num ns) n0 N G st a w) (hev:aW orc as st=some st') (hfar:eA st'.env ds=true)
   {Q:Exit→Act→World→Prop} (hq:∀G' a' w',dM (num ns) n0 N G' st' a' w'→aZ G w G' w'→Q .normal a' w'):(Code.region id ops draw).wpIn (je ro) n P Q a w:=by
 cases draw with
 | false=>exact wpIn_region_list (tj hB horc hc hs hev hq)
 | true=>
   have hd':=hd rfl
   simp only [lz,Bool.and_eq_true] at hd'
   have hlen:as.length=ops.size:=by have:=eF hc;simpa using this
   refine wpIn_region_any hm ?_
   have hany:pG orc ops as (look st'.env) (fun s=>gN s st') ops.size (Array.replicate ops.size false) st:=by
     have:=nY (orc:=orc) (ops:=ops) (as:=as) (F:=look st'.env) (R:=fun s=>gN s st') (fun x y hl hr=>hl.symm.trans hr) hd'.1 hd'.2.1 hlen (fun a b=>nW hfar a b) as 0 (Array.replicate ops.size false) st st' (fun j=>by simp) (by simp [hlen]) (by simp)
       (fun j hj=>by simp [hj]) (fun k o ho hk=>by
         exfalso
         have hk':k<ops.size:=(Array.getElem?_eq_some_iff.1 ho).1
         simp [hk'] at hk) hd'.2.2 (fun _=>rfl) hev (gN.refl _)
     rwa [hlen] at this
   exact yx hB horc hc hs.drew hany fun s G' a' w' hl hs' he=>hq G' a' w' (hs'.EP hl) ((aZ.drew G w).trans he)
end
end Go.Ab
namespace Go.Ab
def tm {α:Type} (f:Nat→Option α):Prop:=∀k k' r,k≤k'→f k=some r→f k'=some r
open Classical in
noncomputable def Cb {α:Type} (f:Nat→Option α):Option α:=if h:∃r k,f k=some r then some h.choose else none
theorem nZ {α:Type} {f:Nat→Option α} (hf:tm f) {k:Nat} {r:α} (h:f k=some r):Cb f=some r:=by
 have hex:∃r k,f k=some r:=⟨r,k,h⟩
 unfold Cb
 rw [dif_pos hex]
 obtain ⟨k',h'⟩:=hex.choose_spec
 have h1:=hf _ (max k k') _ (Nat.le_max_right _ _) h'
 have h2:=hf _ (max k k') _ (Nat.le_max_left _ _) h
 rw [h1] at h2
 exact h2
theorem eX {α:Type} {f:Nat→Option α} {r:α} (h:Cb f=some r):∃k,f k=some r:=by
 unfold Cb at h
 split at h
 · rename_i hex
   obtain ⟨k,hk⟩:=hex.choose_spec
   cases h
   exact ⟨k,hk⟩
 · simp at h
theorem n_ {α:Type} {f:Nat→Option α} (h:∀k,f k=none):Cb f=none:=by
 cases hl:Cb f with
 | none=>rfl
 | some r=>obtain ⟨k,hk⟩:=eX hl;rw [h k] at hk;simp at hk
theorem jT {α:Type} {f:Nat→Option α} (hf:tm f) {o:Option α} (h1:∀k r,f k=some r→o=some r) (h2:∀r,o=some r→∃k,f k=some r):Cb f=o:=by
 cases ho:o with
 | none=>exact n_ fun k=>by cases hk:f k with | none=>rfl | some r=>rw [h1 k r hk] at ho;simp at ho
 | some r=>obtain ⟨k,hk⟩:=h2 r ho;exact nZ hf hk
structure dh.le (a b:dh):Prop where
 p:∀g x r,a.p g x=some r→b.p g x=some r
 i:∀g x s t r,a.i g x s t=some r→b.i g x s t=some r
theorem dh.le_refl (a:dh):a.le a:=⟨fun _ _ _ h=>h,fun _ _ _ _ _ h=>h⟩
theorem ig {a b:dh} (h:a.le b) {g:Nat} {own:List Nat} {vals:List AV} {sh:Sh} {aa:al} {r:AV×Sh×al} (e:cY a g own vals sh aa=some r):cY b g own vals sh aa=some r:=by
 unfold cY at *
 split at e
 · rename_i hp
   rw [if_pos hp]
   simp only [Option.map_eq_some_iff] at e ⊢
   obtain ⟨x,h1,h2⟩:=e
   exact ⟨x,h.i _ _ _ _ _ h1,h2⟩
 · simp at e
theorem zC {a b:dh} (h:a.le b) {op:AK} {vals:List AV} {cells:Option (List AV)} {sh:Sh} {aa:al} {r:Out} (e:exec a op vals cells sh aa=some r):exec b op vals cells sh aa=some r:=by
 cases op with
 | aN g=>
   simp only [exec] at e ⊢
   split at e
   · simp only [Option.map_eq_some_iff] at e ⊢
     obtain ⟨x,h1,h2⟩:=e
     exact ⟨x,h.p _ _ _ h1,h2⟩
   · simp at e
 | gq g=>
   simp only [exec] at e ⊢
   split at e
   · simp only [Option.map_eq_some_iff] at e ⊢
     obtain ⟨x,h1,h2⟩:=e
     exact ⟨x,h.p _ _ _ h1,h2⟩
   · simp at e
 | bJ g own=>
   simp only [exec,Option.map_eq_some_iff] at e ⊢
   obtain ⟨x,h1,h2⟩:=e
   exact ⟨x,ig h h1,h2⟩
 | ik g=>
   simp only [exec] at e ⊢
   split at e
   · split at e
     · rename_i rs ts h1
       rw [h.i _ _ _ _ _ h1]
       exact e
     · simp at e
   · simp at e
 | dN=>
   cases vals with
   | nil=>simp [exec] at e
   | cons f vals=>
     cases f with
     | fn g cap=>
       simp only [exec,Option.bind_eq_some_iff] at e ⊢
       obtain ⟨x,h1,h2⟩:=e
       exact ⟨x,ig h h1,h2⟩
     | _=>simp [exec] at e
 | fC=>
   cases vals with
   | nil=>simp [exec] at e
   | cons f vals=>
     cases f with
     | fn g cap=>
       simp only [exec,Option.map_eq_some_iff] at e ⊢
       obtain ⟨x,h1,h2⟩:=e
       exact ⟨x,ig h h1,h2⟩
     | _=>simp [exec] at e
 | _=>rw [←e];unfold exec;split<;>first | rfl | (rename_i heq;cases heq;done) | (simp at *;done)
theorem qf {a b:dh} (h:a.le b) {o:cr} {st r:St} (e:bj a o st=some r):bj b o st=some r:=by
 unfold bj at *
 cases hw:a_ st.env o.guard with
 | none=>rw [hw] at e;simp at e
 | some t=>
   cases t with
   | false=>rw [hw] at e;exact e
   | true=>
     rw [hw] at e
     dsimp only at e ⊢
     cases hv:bc st.env o.args with
     | none=>rw [hv] at e;simp at e
     | some vals=>
       rw [hv] at e
       dsimp only at e ⊢
       cases ho:exec a o.op vals (o.op.key.bind (look st.mem)) st.sh st.aa with
       | none=>rw [ho] at e;simp at e
       | some out=>
         rw [ho] at e
         rw [zC h ho]
         exact e
theorem kj {a b:dh} (h:a.le b):∀{l:List cr} {st r:St},aW a l st=some r→aW b l st=some r
 | [],_,_,e=>e
 | o::l,st,r,e=>by
   simp only [aW] at e ⊢
   split at e
   · simp at e
   · rename_i st' ho
     rw [qf h ho]
     exact kj h e
theorem gO {f f':St→Option (aG×St)} {pre:St→St} (h:∀s r,f s=some r→f' s=some r):∀{n n':Nat} {st:St} {r:aG×St},n≤n'→dQ f pre n st=some r→dQ f' pre n' st=some r
 | 0,_,_,_,_,e=>by simp [dQ] at e
 | n+1,0,_,_,hn,_=>by omega
 | n+1,n'+1,st,r,hn,e=>by
   simp only [dQ] at e ⊢
   cases hf:f (pre st) with
   | none=>rw [hf] at e;simp at e
   | some q=>
     rw [h _ _ hf]
     rw [hf] at e
     obtain ⟨x,s⟩:=q
     cases x with
     | normal=>exact gO h (by omega) e
     | ret=>exact e
     | exit id=>exact e
theorem kk {f f':St→Option (aG×St)} (h:∀s r,f s=some r→f' s=some r) {live:List Nat} {pi px sz:Nat} {ag:Bool} {env:List (Nat×AV)}:∀{l:List (PV×Nat)} {st:St} {r:aG×St},
   gv f live pi px sz ag env l st=some r→gv f' live pi px sz ag env l st=some r
 | [],_,_,e=>e
 | (el,i)::l,st,r,e=>by
   simp only [gv] at e ⊢
   cases hv:po sz ag el with
   | none=>rw [hv] at e;simp at e
   | some v=>
     rw [hv] at e
     simp only at e ⊢
     cases hf:f (norm (restrict live { st with env:=bN (bN env pi (.pv (.int .i64 i))) px v })) with
     | none=>rw [hf] at e;simp at e
     | some q=>
       rw [h _ _ hf]
       rw [hf] at e
       obtain ⟨x,s⟩:=q
       cases x with
       | normal=>exact kk h e
       | ret=>exact e
       | exit id=>exact e
theorem pH {f f':St→Option (aG×St)} (h:∀s r,f s=some r→f' s=some r) {v:Option AV} {gb pi px sz:Nat} {ag:Bool} {live:List Nat} {st:St} {r:aG×St}
   (e:gw f v gb pi px sz ag live st=some r):gw f' v gb pi px sz ag live st=some r:=by
 unfold gw at e ⊢
 split at e
 · split at e
   · rename_i hg
     rw [if_pos hg]
     split at e
     · split at e
       · rename_i hl
         rw [if_pos hl]
         exact kk h e
       · simp at e
     · simp at e
   · simp at e
 · simp at e
theorem lb {f g f' g':St→Option (aG×St)} (h:∀s r,f s=some r→f' s=some r) (k:∀s r,g s=some r→g' s=some r):∀s r,andThen f g s=some r→andThen f' g' s=some r:=by
 intro s r e
 unfold andThen at e ⊢
 cases hf:f s with
 | none=>rw [hf] at e;simp at e
 | some q=>
   rw [h _ _ hf]
   rw [hf] at e
   obtain ⟨x,t⟩:=q
   cases x with
   | normal=>exact k _ _ e
   | ret=>simp at e
   | exit id=>simp at e
theorem bD {a b:dh} (h:a.le b) {k k':Nat} (hk:k≤k'):∀{c:aq} {st:St} {r:aG×St},bX a k c st=some r→bX b k' c st=some r
 | .skip,_,_,e=>e
 | .gQ _,_,_,e=>e
 | .F9 _,_,_,e=>e
 | .jj _,_,_,e=>e
 | .jk _,_,_,e=>e
 | .Gt _,_,_,e=>e
 | .kb ops live,st,r,e=>by
   simp only [bX] at e ⊢
   split at e
   · rename_i st' ho
     rw [kj h ho]
     exact e
   · simp at e
 | .seq x y,st,r,e=>by
   simp only [bX] at e ⊢
   cases hx:bX a k x st with
   | none=>rw [hx] at e;simp at e
   | some q=>
     rw [bD h hk hx]
     rw [hx] at e
     obtain ⟨ex,s⟩:=q
     cases ex with
     | normal=>exact bD h hk e
     | ret=>exact e
     | exit id=>exact e
 | .cond c x y,st,r,e=>by
   simp only [bX] at e ⊢
   split at e
   · rename_i t hc
     split at e
     · rename_i ht;rw [if_pos ht];exact bD h hk e
     · rename_i ht;rw [if_neg ht];exact bD h hk e
   · simp at e
 | .block id x,st,r,e=>by
   simp only [bX] at e ⊢
   cases hx:bX a k x st with
   | none=>rw [hx] at e;simp at e
   | some q=>
     rw [bD h hk hx]
     rw [hx] at e
     exact e
 | .loop live x,st,r,e=>by
   simp only [bX] at e ⊢
   exact gO (fun s r hs=>bD h hk hs) hk e
 | .exit id,_,_,e=>e
 | .ret,_,_,e=>e
 | .back c gb pi px sz ag live x y,st,r,e=>by
   simp only [bX] at e ⊢
   exact pH (lb (fun s r hs=>bD h hk hs) (fun s r hs=>bD h hk hs)) e
theorem dG {a b:dh} (h:a.le b) {k k':Nat} (hk:k≤k') {aD:Bool} {af:aw} {args:List AV} {sh:Sh} {ts:al} {r:List AV×Sh×al} (e:bu a k aD af args sh ts=some r):bu b k' aD af args sh ts=some r:=by
 unfold bu at *
 cases hc:bX a k af.body { env:=bt 0 args,mem:=[],sh,aa:=ts } with
 | none=>rw [hc] at e;simp at e
 | some q=>rw [bD h hk hc];rw [hc] at e;exact e
variable {AP:Nat→Option aw}
theorem bW:∀{n n' k k':Nat},n≤n'→k≤k'→(run AP k n).le (run AP k' n')
 | 0,_,_,_,_,_=>⟨fun g x r e=>by simp [run] at e,fun g x s t r e=>by simp [run] at e⟩
 | n+1,0,_,_,h,_=>by omega
 | n+1,n'+1,k,k',h,hk=>by
   have ih:(run AP k n).le (run AP k' n'):=bW (by omega) hk
   refine ⟨fun g x r e=>?_,fun g x s t r e=>?_⟩
   · simp only [run] at e ⊢
     cases hg:AP g with
     | none=>rw [hg] at e;simp at e
     | some af=>
       rw [hg] at e
       dsimp only at e ⊢
       cases hp:af.ng with
       | some f=>rw [hp] at e;exact f.mono ih.p e
       | none=>
         rw [hp] at e
         dsimp only at e ⊢
         split at e
         · rename_i hc
           rw [if_pos hc]
           cases hb:bu (run AP k n) k false af (x.map .pv) [] [] with
           | none=>rw [hb] at e;simp at e
           | some q=>rw [dG ih hk hb];rw [hb] at e;exact e
         · simp at e
   · simp only [run] at e ⊢
     cases hg:AP g with
     | none=>rw [hg] at e;simp at e
     | some af=>
       rw [hg] at e
       dsimp only at e ⊢
       split at e
       · rename_i hc
         rw [if_pos hc]
         exact dG ih hk e
       · simp at e
noncomputable def aC (AP:Nat→Option aw):dh where
 p:=fun g x=>Cb fun n=>(run AP n n).p g x
 i:=fun g x s t=>Cb fun n=>(run AP n n).i g x s t
theorem mY (g:Nat) (x:List PV):tm fun n=>(run AP n n).p g x:=fun _ _ _ h e=>(bW h h).p _ _ _ e
theorem yy (g:Nat) (x:List AV) (s:Sh) (t:al):tm fun n=>(run AP n n).i g x s t:=fun _ _ _ h e=>(bW h h).i _ _ _ _ _ e
theorem Ct (n:Nat):(run AP n n).le (aC AP):=⟨fun g x _ e=>nZ (mY g x) e,fun g x s t _ e=>nZ (yy g x s t) e⟩
theorem mZ {g:Nat} {x:List PV} {r:List PV} (h:(aC AP).p g x=some r):∃n,(run AP n n).p g x=some r:=eX h
theorem yz {g:Nat} {x:List AV} {s:Sh} {t:al} {r:List AV×Sh×al} (h:(aC AP).i g x s t=some r):∃n,(run AP n n).i g x s t=some r:=eX h
theorem kl {g:Nat} {own:List Nat} {vals:List AV} {sh:Sh} {aa:al} {r:AV×Sh×al} (e:cY (aC AP) g own vals sh aa=some r):∃n,cY (run AP n n) g own vals sh aa=some r:=by
 unfold cY at *
 split at e
 · rename_i hp
   simp only [Option.map_eq_some_iff] at e
   obtain ⟨x,h1,h2⟩:=e
   obtain ⟨n,hn⟩:=yz h1
   exact ⟨n,by rw [if_pos hp,hn];simp only [Option.map_some,h2]⟩
 · simp at e
theorem vt {op:AK} {vals:List AV} {cells:Option (List AV)} {sh:Sh} {aa:al} {r:Out} (e:exec (aC AP) op vals cells sh aa=some r):∃n,exec (run AP n n) op vals cells sh aa=some r:=by
 cases op with
 | aN g=>
   simp only [exec] at e ⊢
   split at e
   · rename_i cM hp
     simp only [Option.map_eq_some_iff] at e
     obtain ⟨x,h1,h2⟩:=e
     obtain ⟨n,hn⟩:=mZ h1
     exact ⟨n,by rw [hn];simp only [Option.map_some,h2]⟩
   · simp at e
 | gq g=>
   simp only [exec] at e ⊢
   split at e
   · rename_i cM hp
     simp only [Option.map_eq_some_iff] at e
     obtain ⟨x,h1,h2⟩:=e
     obtain ⟨n,hn⟩:=mZ h1
     exact ⟨n,by rw [hn];simp only [Option.map_some,h2]⟩
   · simp at e
 | bJ g own=>
   simp only [exec,Option.map_eq_some_iff] at e ⊢
   obtain ⟨x,h1,h2⟩:=e
   obtain ⟨n,hn⟩:=kl h1
   exact ⟨n,x,hn,h2⟩
 | ik g=>
   simp only [exec] at e ⊢
   split at e
   · split at e
     · rename_i rs ts h1
       obtain ⟨n,hn⟩:=yz h1
       exact ⟨n,by rw [hn];exact e⟩
     · simp at e
   · simp at e
 | dN=>
   cases vals with
   | nil=>simp [exec] at e
   | cons f vals=>
     cases f with
     | fn g cap=>
       simp only [exec,Option.bind_eq_some_iff] at e ⊢
       obtain ⟨x,h1,h2⟩:=e
       obtain ⟨n,hn⟩:=kl h1
       exact ⟨n,x,hn,h2⟩
     | _=>simp [exec] at e
 | fC=>
   cases vals with
   | nil=>simp [exec] at e
   | cons f vals=>
     cases f with
     | fn g cap=>
       simp only [exec,Option.map_eq_some_iff] at e ⊢
       obtain ⟨x,h1,h2⟩:=e
       obtain ⟨n,hn⟩:=kl h1
       exact ⟨n,x,hn,h2⟩
     | _=>simp [exec] at e
 | _=>exact ⟨0,by rw [←e];unfold exec;split<;>first | rfl | (rename_i heq;cases heq;done) | (simp at *;done)⟩
theorem Cu {o:cr} {st r:St} (e:bj (aC AP) o st=some r):∃n,bj (run AP n n) o st=some r:=by
 unfold bj at *
 cases hw:a_ st.env o.guard with
 | none=>rw [hw] at e;simp at e
 | some t=>
   cases t with
   | false=>rw [hw] at e;exact ⟨0,e⟩
   | true=>
     rw [hw] at e
     dsimp only at e ⊢
     cases hv:bc st.env o.args with
     | none=>rw [hv] at e;simp at e
     | some vals=>
       rw [hv] at e
       dsimp only at e ⊢
       cases ho:exec (aC AP) o.op vals (o.op.key.bind (look st.mem)) st.sh st.aa with
       | none=>rw [ho] at e;simp at e
       | some out=>
         obtain ⟨n,hn⟩:=vt ho
         rw [ho] at e
         exact ⟨n,by rw [hn];exact e⟩
theorem qg:∀{l:List cr} {st r:St},aW (aC AP) l st=some r→∃n,aW (run AP n n) l st=some r
 | [],_,_,e=>⟨0,e⟩
 | o::l,st,r,e=>by
   simp only [aW] at e ⊢
   cases ho:bj (aC AP) o st with
   | none=>rw [ho] at e;simp at e
   | some s=>
     rw [ho] at e
     obtain ⟨n,hn⟩:=Cu ho
     obtain ⟨m,hm⟩:=qg (l:=l) e
     refine ⟨max n m,?_⟩
     rw [qf (bW (Nat.le_max_left n m) (Nat.le_max_left n m)) hn]
     exact kj (bW (Nat.le_max_right n m) (Nat.le_max_right n m)) hm
theorem oe {k:Nat} {c:aq} {pre:St→St} (ih:∀{st:St} {r:aG×St},bX (aC AP) k c st=some r→∃n,bX (run AP n n) n c st=some r) :
   ∀{j:Nat} {st:St} {r:aG×St},dQ (bX (aC AP) k c) pre j st=some r→∃n,dQ (bX (run AP n n) n c) pre n st=some r
 | 0,_,_,e=>by simp [dQ] at e
 | j+1,st,r,e=>by
   simp only [dQ] at e
   cases hf:bX (aC AP) k c (pre st) with
   | none=>rw [hf] at e;simp at e
   | some q=>
     obtain ⟨n,hn⟩:=ih hf
     rw [hf] at e
     obtain ⟨x,s⟩:=q
     cases x with
     | normal=>
       obtain ⟨m,hm⟩:=oe ih e
       refine ⟨max n m+1,?_⟩
       simp only [dQ]
       rw [bD (bW (n:=n) (n':=max n m+1) (by omega) (by omega)) (k:=n) (k':=max n m+1) (by omega) hn]
       exact gO (fun s r hs=>bD (bW (n:=m) (by omega) (by omega)) (k:=m) (by omega) hs) (n:=m) (by omega) hm
     | ret=>
       refine ⟨n+1,?_⟩
       simp only [dQ]
       rw [bD (bW (n:=n) (n':=n+1) (by omega) (by omega)) (k:=n) (k':=n+1) (by omega) hn]
       exact e
     | exit id=>
       refine ⟨n+1,?_⟩
       simp only [dQ]
       rw [bD (bW (n:=n) (n':=n+1) (by omega) (by omega)) (k:=n) (k':=n+1) (by omega) hn]
       exact e
theorem lK {n m:Nat} (h:n≤m) {c:aq} {st:St} {r:aG×St} (e:bX (run AP n n) n c st=some r):bX (run AP m m) m c st=some r:=bD (bW h h) h e
theorem pI {k:Nat} {x y:aq} (ihx:∀{st:St} {r:aG×St},bX (aC AP) k x st=some r→∃n,bX (run AP n n) n x st=some r) (ihy:∀{st:St} {r:aG×St},bX (aC AP) k y st=some r→∃n,bX (run AP n n) n y st=some r)
   {st:St} {r:aG×St} (e:andThen (bX (aC AP) k x) (bX (aC AP) k y) st=some r):∃n,andThen (bX (run AP n n) n x) (bX (run AP n n) n y) st=some r:=by
 unfold andThen at e ⊢
 cases hx:bX (aC AP) k x st with
 | none=>rw [hx] at e;simp at e
 | some q=>
   obtain ⟨n,hn⟩:=ihx hx
   rw [hx] at e
   obtain ⟨ex,s⟩:=q
   cases ex with
   | normal=>
     obtain ⟨m,hm⟩:=ihy e
     exact ⟨max n m,by rw [lK (Nat.le_max_left n m) hn];exact lK (Nat.le_max_right n m) hm⟩
   | ret=>simp at e
   | exit id=>simp at e
theorem og {F:St→Option (aG×St)} {f:Nat→St→Option (aG×St)} (hm:∀{n m:Nat},n≤m→∀s r,f n s=some r→f m s=some r) (ih:∀{st:St} {r:aG×St},F st=some r→∃n,f n st=some r)
   {live:List Nat} {pi px sz:Nat} {ag:Bool} {env:List (Nat×AV)}:∀{l:List (PV×Nat)} {st:St} {r:aG×St},gv F live pi px sz ag env l st=some r→∃n,gv (f n) live pi px sz ag env l st=some r
 | [],_,_,e=>⟨0,e⟩
 | (el,i)::l,st,r,e=>by
   simp only [gv] at e ⊢
   cases hv:po sz ag el with
   | none=>rw [hv] at e;simp at e
   | some v=>
     rw [hv] at e
     simp only at e ⊢
     cases hf:F (norm (restrict live { st with env:=bN (bN env pi (.pv (.int .i64 i))) px v })) with
     | none=>rw [hf] at e;simp at e
     | some q=>
       obtain ⟨n,hn⟩:=ih hf
       rw [hf] at e
       obtain ⟨x,s⟩:=q
       cases x with
       | normal=>
         obtain ⟨m,hm'⟩:=og hm ih e
         exact ⟨max n m,by rw [hm (Nat.le_max_left n m) _ _ hn];exact kk (hm (Nat.le_max_right n m)) hm'⟩
       | ret=>exact ⟨n,by rw [hn];exact e⟩
       | exit id=>exact ⟨n,by rw [hn];exact e⟩
theorem gj {k:Nat}:∀{c:aq} {st:St} {r:aG×St},bX (aC AP) k c st=some r→∃n,bX (run AP n n) n c st=some r
 | .skip,_,_,e=>⟨0,e⟩
 | .gQ _,_,_,e=>⟨0,e⟩
 | .F9 _,_,_,e=>⟨0,e⟩
 | .jj _,_,_,e=>⟨0,e⟩
 | .jk _,_,_,e=>⟨0,e⟩
 | .Gt _,_,_,e=>⟨0,e⟩
 | .kb ops live,st,r,e=>by
   simp only [bX] at e ⊢
   cases ho:aW (aC AP) ops st with
   | none=>rw [ho] at e;simp at e
   | some s=>obtain ⟨n,hn⟩:=qg ho;rw [ho] at e;exact ⟨n,by rw [hn];exact e⟩
 | .seq x y,st,r,e=>by
   simp only [bX] at e ⊢
   cases hx:bX (aC AP) k x st with
   | none=>rw [hx] at e;simp at e
   | some q=>
     obtain ⟨n,hn⟩:=gj hx
     rw [hx] at e
     obtain ⟨ex,s⟩:=q
     cases ex with
     | normal=>
       obtain ⟨m,hm⟩:=gj (c:=y) e
       exact ⟨max n m,by rw [lK (Nat.le_max_left n m) hn];exact lK (Nat.le_max_right n m) hm⟩
     | ret=>exact ⟨n,by rw [hn];exact e⟩
     | exit id=>exact ⟨n,by rw [hn];exact e⟩
 | .cond c x y,st,r,e=>by
   simp only [bX] at e ⊢
   split at e
   · rename_i t hc
     split at e
     · rename_i ht
       obtain ⟨n,hn⟩:=gj e
       exact ⟨n,by rw [if_pos ht];exact hn⟩
     · rename_i ht
       obtain ⟨n,hn⟩:=gj e
       exact ⟨n,by rw [if_neg ht];exact hn⟩
   · simp at e
 | .block id x,st,r,e=>by
   simp only [bX] at e ⊢
   cases hx:bX (aC AP) k x st with
   | none=>rw [hx] at e;simp at e
   | some q=>
     obtain ⟨n,hn⟩:=gj hx
     rw [hx] at e
     exact ⟨n,by rw [hn];exact e⟩
 | .loop live x,st,r,e=>by
   simp only [bX] at e ⊢
   exact oe (fun h=>gj h) e
 | .exit id,_,_,e=>⟨0,e⟩
 | .ret,_,_,e=>⟨0,e⟩
 | .back c gb pi px sz ag live x y,st,r,e=>by
   simp only [bX] at e ⊢
   unfold gw at e ⊢
   split at e
   · split at e
     · rename_i hg
       split at e
       · split at e
         · rename_i hl
           obtain ⟨n,hn⟩:=og (f:=fun n=>andThen (bX (run AP n n) n x) (bX (run AP n n) n y)) (fun h=>lb (fun s r hs=>lK h hs) (fun s r hs=>lK h hs)) (pI (fun h=>gj h) (fun h=>gj h)) e
           exact ⟨n,by rw [if_pos hg,if_pos hl];exact hn⟩
         · simp at e
       · simp at e
     · simp at e
   · simp at e
noncomputable def cl (AP:Nat→Option aw) (c:aq) (st:St):Option (aG×St):=Cb fun k=>bX (aC AP) k c st
theorem m_ (c:aq) (st:St):tm fun k=>bX (aC AP) k c st:=fun _ _ _ h e=>bD (dh.le_refl _) h e
theorem jH {c:aq} {st:St} {k:Nat} {r:aG×St} (h:bX (aC AP) k c st=some r):cl AP c st=some r:=nZ (m_ c st) h
theorem ER {st:St}:cl AP .skip st=some (.normal,st):=jH (k:=0) rfl
theorem ES {id:Nat} {st:St}:cl AP (.exit id) st=some (.exit id,st):=jH (k:=0) rfl
theorem GJ {st:St}:cl AP .ret st=some (.ret,st):=jH (k:=0) rfl
theorem GK {ops:List cr} {live:List Nat} {st:St}:cl AP (.kb ops live) st=(aW (aC AP) ops st).map fun st'=>(.normal,restrict live st'):=by
 cases h:aW (aC AP) ops st with
 | none=>exact n_ fun k=>by simp only [bX,h]
 | some s=>exact jH (k:=0) (by simp only [bX,h])
def after (f:St→Option (aG×St)):Option (aG×St)→Option (aG×St)
 | some (.normal,st)=>f st
 | r=>r
theorem GL {a b:aq} {st:St}:cl AP (.seq a b) st=after (cl AP b) (cl AP a st):=by
 refine jT (m_ _ _) (fun k r h=>?_) fun r h=>?_
 · simp only [bX] at h
   cases hx:bX (aC AP) k a st with
   | none=>rw [hx] at h;simp at h
   | some q=>
     rw [jH hx]
     rw [hx] at h
     obtain ⟨ex,s⟩:=q
     cases ex with
     | normal=>exact jH h
     | ret=>exact h
     | exit id=>exact h
 · cases hx:cl AP a st with
   | none=>rw [hx] at h;simp [after] at h
   | some q=>
     obtain ⟨k,hk⟩:=eX hx
     rw [hx] at h
     obtain ⟨ex,s⟩:=q
     cases ex with
     | normal=>
       obtain ⟨k',hk'⟩:=eX (show Cb (fun k=>bX (aC AP) k b s)=some r from h)
       refine ⟨max k k',?_⟩
       simp only [bX]
       rw [bD (dh.le_refl _) (Nat.le_max_left k k') hk]
       exact bD (dh.le_refl _) (Nat.le_max_right k k') hk'
     | ret=>exact ⟨k,by simp only [bX];rw [hk];exact h⟩
     | exit id=>exact ⟨k,by simp only [bX];rw [hk];exact h⟩
theorem ET {c:dL} {a b:aq} {st:St} {t:Bool} (h:b_ st.env c=some (.pv (.bool t))):cl AP (.cond c a b) st=if t then cl AP a st else cl AP b st:=by
 unfold cl
 simp only [bX,h]
 cases t<;>rfl
def leave (id:Nat):Option (aG×St)→Option (aG×St)
 | some (.exit id',st)=>if id'=id then some (.normal,st) else some (.exit id',st)
 | r=>r
theorem Cv {id:Nat} {b:aq} {st:St}:cl AP (.block id b) st=leave id (cl AP b st):=by
 refine jT (m_ _ _) (fun k r h=>?_) fun r h=>?_
 · simp only [bX] at h
   cases hx:bX (aC AP) k b st with
   | none=>rw [hx] at h;simp at h
   | some q=>rw [jH hx];rw [hx] at h;exact h
 · cases hx:cl AP b st with
   | none=>rw [hx] at h;simp [leave] at h
   | some q=>
     obtain ⟨k,hk⟩:=eX hx
     rw [hx] at h
     exact ⟨k,by simp only [bX];rw [hk];exact h⟩
theorem br {live:List Nat} {b:aq} {st:St}:cl AP (.loop live b) st=after (cl AP (.loop live b)) (cl AP b (norm (restrict live st))):=by
 refine jT (m_ _ _) (fun k r h=>?_) fun r h=>?_
 · simp only [bX] at h
   cases k with
   | zero=>simp [dQ] at h
   | succ k=>
     simp only [dQ] at h
     cases hx:bX (aC AP) (k+1) b (norm (restrict live st)) with
     | none=>rw [hx] at h;simp at h
     | some q=>
       rw [jH hx]
       rw [hx] at h
       obtain ⟨ex,s⟩:=q
       cases ex with
       | normal=>exact jH (k:=k+1) (by simp only [bX];exact gO (fun _ _ h=>h) (Nat.le_succ k) h)
       | ret=>exact h
       | exit id=>exact h
 · cases hx:cl AP b (norm (restrict live st)) with
   | none=>rw [hx] at h;simp [after] at h
   | some q=>
     obtain ⟨k,hk⟩:=eX hx
     rw [hx] at h
     obtain ⟨ex,s⟩:=q
     have up:∀m,k≤m→bX (aC AP) m b (norm (restrict live st))=some (ex,s):=fun m hm=>bD (dh.le_refl _) hm hk
     cases ex with
     | normal=>
       obtain ⟨k',hk'⟩:=eX (show Cb (fun k=>bX (aC AP) k (.loop live b) s)=some r from h)
       refine ⟨max k k'+1,?_⟩
       simp only [bX,dQ]
       rw [up _ (by omega)]
       simp only [bX] at hk'
       exact gO (fun _ _ h=>bD (dh.le_refl _) (by omega) h) (by omega) hk'
     | ret=>exact ⟨k+1,by simp only [bX,dQ];rw [up _ (by omega)];exact h⟩
     | exit id=>exact ⟨k+1,by simp only [bX,dQ];rw [up _ (by omega)];exact h⟩
def finish (aD:Bool) (af:aw) (sh:Sh):Option (aG×St)→Option (List AV×Sh×al)
 | some (e,st)=>
   if e=.ret∨e=.normal then
     match dj st af.results with
     | some vs=>
       let rs:=bG aD af.ks st.sh vs
       let sh':=if rs.all (au sh.length)=true then (dH aD af.ks st.sh vs).take sh.length else dH aD af.ks st.sh vs
       if rs.all a9=true then some ((cf st.aa rs sh').1,(cf st.aa rs sh').2.1,(cf st.aa rs sh').2.2.2) else none
     | none=>none
   else none
 | none=>none
theorem eo {orc:dh} {k:Nat} {aD:Bool} {af:aw} {args:List AV} {sh:Sh} {ts:al}:bu orc k aD af args sh ts=finish aD af sh (bX orc k af.body { env:=bt 0 args,mem:=[],sh,aa:=ts }):=by
 unfold bu finish
 cases bX orc k af.body { env:=bt 0 args,mem:=[],sh,aa:=ts } with
 | none=>rfl
 | some q=>obtain ⟨e,st⟩:=q;rfl
noncomputable def j9 (AP:Nat→Option aw) (aD:Bool) (af:aw) (args:List AV) (sh:Sh) (ts:al):Option (List AV×Sh×al):=
 finish aD af sh (cl AP af.body { env:=bt 0 args,mem:=[],sh,aa:=ts })
theorem qh {aD:Bool} {af:aw} {args:List AV} {sh:Sh} {ts:al} {r:List AV×Sh×al} (h:j9 AP aD af args sh ts=some r):∃n,bu (run AP n n) n aD af args sh ts=some r:=by
 unfold j9 at h
 cases hc:cl AP af.body { env:=bt 0 args,mem:=[],sh,aa:=ts } with
 | none=>rw [hc] at h;simp [finish] at h
 | some q=>
   obtain ⟨k,hk⟩:=eX hc
   obtain ⟨n,hn⟩:=gj hk
   exact ⟨n,by rw [eo,hn,←hc];exact h⟩
theorem yA {n:Nat} {aD:Bool} {af:aw} {args:List AV} {sh:Sh} {ts:al} {r:List AV×Sh×al} (h:bu (run AP n n) n aD af args sh ts=some r):j9 AP aD af args sh ts=some r:=by
 rw [eo] at h
 unfold j9
 cases hc:bX (run AP n n) n af.body { env:=bt 0 args,mem:=[],sh,aa:=ts } with
 | none=>rw [hc] at h;simp [finish] at h
 | some q=>
   rw [jH (bD (Ct n) (Nat.le_refl n) hc)]
   rw [hc] at h
   exact h
theorem Gc {g:Nat} {af:aw} {x:List PV} (hg:AP g=some af) (hp:af.ng=none) (h1:x.length=af.nparams) (h2:x.length≤af.ntmps) :
   (aC AP).p g x=(j9 AP false af (x.map .pv) [] []).bind fun r=>dX r.1:=by
 refine jT (mY g x) (fun k r h=>?_) fun r h=>?_
 · cases k with
   | zero=>simp [run] at h
   | succ k=>
     simp only [run,hg,hp] at h
     rw [if_pos ⟨h1,h2⟩] at h
     cases hb:bu (run AP (k+1) k) (k+1) false af (x.map .pv) [] [] with
     | none=>rw [hb] at h;simp at h
     | some q=>
       rw [yA (n:=k+1) (dG (bW (Nat.le_succ k) (Nat.le_refl _)) (Nat.le_refl _) hb)]
       rw [hb] at h
       exact h
 · cases hb:j9 AP false af (x.map .pv) [] [] with
   | none=>rw [hb] at h;simp at h
   | some q=>
     obtain ⟨n,hn⟩:=qh hb
     rw [hb] at h
     refine ⟨n+1,?_⟩
     simp only [run,hg,hp]
     rw [if_pos ⟨h1,h2⟩,dG (bW (n:=n) (n':=n) (k:=n) (k':=n+1) (Nat.le_refl _) (Nat.le_succ n)) (Nat.le_succ n) hn]
     exact h
theorem qi:∀(l:List (Nat×List PV×List PV)),(∀c∈l,(aC AP).p c.1 c.2.1=some c.2.2)→∃n,∀c∈l,(run AP n n).p c.1 c.2.1=some c.2.2
 | [],_=>⟨0,by simp⟩
 | c::l,h=>by
   obtain ⟨n,hn⟩:=mZ (h c (by simp))
   obtain ⟨m,hm⟩:=qi l fun c' hc=>h c' (by simp [hc])
   refine ⟨max n m,fun c' hc=>?_⟩
   simp only [List.mem_cons] at hc
   rcases hc with rfl | hc
   · exact (bW (Nat.le_max_left n m) (Nat.le_max_left n m)).p _ _ _ hn
   · exact (bW (Nat.le_max_right n m) (Nat.le_max_right n m)).p _ _ _ (hm c' hc)
theorem EU {g:Nat} {af:aw} {x:List PV} {f:Prim} (hg:AP g=some af) (hp:af.ng=some f):(aC AP).p g x=f.f (aC AP).p x:=by
 refine jT (mY g x) (fun k r h=>?_) fun r h=>?_
 · cases k with
   | zero=>simp [run] at h
   | succ k=>
     simp only [run,hg,hp] at h
     exact f.mono (fun g x r e=>(Ct (k+1)).p _ _ _ ((bW (Nat.le_succ k) (Nat.le_refl _)).p _ _ _ e)) h
 · obtain ⟨l,h1,h2⟩:=f.fin _ _ _ h
   obtain ⟨n,hn⟩:=qi l h1
   refine ⟨n+1,?_⟩
   simp only [run,hg,hp]
   exact h2 _ fun c hc=>(bW (n:=n) (n':=n) (k:=n) (k':=n+1) (Nat.le_refl _) (Nat.le_succ n)).p _ _ _ (hn c hc)
theorem Gd {g:Nat} {af:aw} {x:List AV} {sh:Sh} {ts:al} (hg:AP g=some af) (h2:x.length≤af.ntmps):(aC AP).i g x sh ts=j9 AP true af x sh ts:=by
 refine jT (yy g x sh ts) (fun k r h=>?_) fun r h=>?_
 · cases k with
   | zero=>simp [run] at h
   | succ k=>
     simp only [run,hg] at h
     rw [if_pos h2] at h
     exact yA (n:=k+1) (dG (bW (Nat.le_succ k) (Nat.le_refl _)) (Nat.le_refl _) h)
 · obtain ⟨n,hn⟩:=qh h
   refine ⟨n+1,?_⟩
   simp only [run,hg]
   rw [if_pos h2]
   exact dG (bW (n:=n) (n':=n) (k:=n) (k':=n+1) (Nat.le_refl _) (Nat.le_succ n)) (Nat.le_succ n) hn
end Go.Ab
