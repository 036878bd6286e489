import Derived.Test.YtcjggpmnbcfedaaDoorAbCopy
import Derived.Test.YtcjggpmnbcfedaaDoorAbDup
/-
  What an operation Bx compiled from, and what its run looked at.
-/
set_option linter.unusedVariables false
set_option linter.unusedSimpArgs false
set_option linter.unnecessarySimpa false
set_option maxRecDepth 100000
set_option maxHeartbeats 8000000
namespace Go.Ab
section
variable {P:Program} {ns:Names} {A:hO} {dst:Option Nat} {op:Op} {args:List Operand}
theorem pd {k o sz:Nat} {ag:Bool} (h:aG P ns A dst op=some (.dv k o sz ag,args)) :
   ∃t tx,op=.load t (.tmp tx)∧args=[.tmp tx]∧bt P t=some sz∧dE P t=some ag:=by
 cases op<;>simp only [aG] at h
 all_goals (repeat' (split at h))
 all_goals (try (simp at h;done))
 all_goals
   simp only [Option.some.injEq,Prod.mk.injEq,AK.dv.injEq] at h
   obtain ⟨⟨rfl,rfl,rfl,rfl⟩,rfl⟩:=h
   exact ⟨_,_,rfl,rfl,by assumption,by assumption⟩
theorem pg {sz:Nat} {ag:Bool} (h:aG P ns A dst op=some (.ck sz ag,args)) :
   ∃t tx,op=.load t (.tmp tx)∧args=[.tmp tx]∧bt P t=some sz∧dE P t=some ag:=by
 cases op<;>simp only [aG] at h
 all_goals (repeat' (split at h))
 all_goals (try (simp at h;done))
 all_goals
   simp only [Option.some.injEq,Prod.mk.injEq,AK.ck.injEq] at h
   obtain ⟨⟨rfl,rfl⟩,rfl⟩:=h
   exact ⟨_,_,rfl,rfl,by assumption,by assumption⟩
theorem nI {k o sz:Nat} (h:aG P ns A dst op=some (.dL k o sz,args)) :
   ∃t tx v,op=.store t (.tmp tx) v∧args=[.tmp tx,v]∧bt P t=some sz:=by
 cases op<;>simp only [aG] at h
 all_goals (repeat' (split at h))
 all_goals (try (simp at h;done))
 all_goals
   simp only [Option.some.injEq,Prod.mk.injEq,AK.dL.injEq] at h
   obtain ⟨⟨rfl,rfl,rfl⟩,rfl⟩:=h
   exact ⟨_,_,_,rfl,rfl,by assumption⟩
theorem nJ {sz:Nat} (h:aG P ns A dst op=some (.d4 sz,args)) :
   ∃t tx v,op=.store t (.tmp tx) v∧args=[.tmp tx,v]∧bt P t=some sz:=by
 cases op<;>simp only [aG] at h
 all_goals (repeat' (split at h))
 all_goals (try (simp at h;done))
 all_goals
   simp only [Option.some.injEq,Prod.mk.injEq,AK.d4.injEq] at h
   obtain ⟨rfl,rfl⟩:=h
   exact ⟨_,_,_,rfl,rfl,by assumption⟩
theorem nK {sz:Nat} (h:aG P ns A dst op=some (.gn sz,args)) :
   ∃t tx v,op=.store t (.tmp tx) v∧args=[.tmp tx,v]∧bt P t=some sz:=by
 cases op<;>simp only [aG] at h
 all_goals (repeat' (split at h))
 all_goals (try (simp at h;done))
 all_goals
   simp only [Option.some.injEq,Prod.mk.injEq,AK.gn.injEq] at h
   obtain ⟨rfl,rfl⟩:=h
   exact ⟨_,_,_,rfl,rfl,by assumption⟩
theorem ph {k:Nat} {z:List PV} (h:aG P ns A dst op=some (.alloc k z,args)) :
   ∃t,op=.alloc t∧args=[]∧bc P t=some z∧dst=some k:=by
 cases op<;>simp only [aG] at h
 all_goals (repeat' (split at h))
 all_goals (try (simp at h;done))
 all_goals
   simp only [Option.some.injEq,Prod.mk.injEq,AK.alloc.injEq] at h
   obtain ⟨⟨rfl,rfl⟩,rfl⟩:=h
   exact ⟨_,rfl,rfl,by assumption,rfl⟩
theorem nL {z:List PV} (h:aG P ns A dst op=some (.fR z,args)) :
   ∃t,op=.alloc t∧args=[]∧bc P t=some z:=by
 cases op<;>simp only [aG] at h
 all_goals (repeat' (split at h))
 all_goals (try (simp at h;done))
 all_goals
   simp only [Option.some.injEq,Prod.mk.injEq,AK.fR.injEq] at h
   obtain ⟨rfl,rfl⟩:=h
   exact ⟨_,rfl,rfl,by assumption⟩
theorem uo {k sz:Nat} (h:aG P ns A dst op=some (.box k sz,args)) :
   ∃t x,op=.box t x∧args=[x]∧bt P t=some sz∧dst=some k:=by
 cases op<;>simp only [aG] at h
 all_goals (repeat' (split at h))
 all_goals (try (simp at h;done))
 all_goals
   simp only [Option.some.injEq,Prod.mk.injEq,AK.box.injEq] at h
   obtain ⟨⟨rfl,rfl⟩,rfl⟩:=h
   exact ⟨_,_,rfl,rfl,by assumption,rfl⟩
theorem rf {sz:Nat} (h:aG P ns A dst op=some (.kV sz,args)) :
   ∃t x,op=.box t x∧args=[x]∧bt P t=some sz:=by
 cases op<;>simp only [aG] at h
 all_goals (repeat' (split at h))
 all_goals (try (simp at h;done))
 all_goals
   simp only [Option.some.injEq,Prod.mk.injEq,AK.kV.injEq] at h
   obtain ⟨rfl,rfl⟩:=h
   exact ⟨_,_,rfl,rfl,by assumption⟩
theorem rh {sz:Nat} (h:aG P ns A dst op=some (.nq sz,args)) :
   ∃t x,op=.box t x∧args=[x]∧bt P t=some sz:=by
 cases op<;>simp only [aG] at h
 all_goals (repeat' (split at h))
 all_goals (try (simp at h;done))
 all_goals
   simp only [Option.some.injEq,Prod.mk.injEq,AK.nq.injEq] at h
   obtain ⟨rfl,rfl⟩:=h
   exact ⟨_,_,rfl,rfl,by assumption⟩
theorem lz {k:AK} (h:aG P ns A dst op=some (k,args)) (hk:(∃sz by_ ag z,k=.gO sz by_ ag z)∨∃d sz by_ z,k=.fp d sz by_ z) :
   ∃t e l c sz by_ ag z,op=.makeSlice t l c∧args=[l,c]∧P.underlying t=some (.slice e)∧bt P e=some sz∧cD P e=some by_∧bc P e=some z∧z.length=sz∧0<sz ∧
     (k=.gO sz by_ ag z∨∃d,dst=some d∧k=.fp d sz by_ z):=by
 have hno:∀{o:mi},k≠.v o:=by rintro o rfl;rcases hk with ⟨_,_,_,_,e⟩ | ⟨_,_,_,_,e⟩<;>cases e
 cases op with
 | makeSlice t l c=>
   simp only [aG] at h
   split at h
   · rename_i e he
     split at h
     · rename_i sz by_ ag z h1 h2 h3 h4
       rw [Option.ite_none_right_eq_some] at h
       obtain ⟨⟨h5,h6⟩,h⟩:=h
       split at h
       · rename_i k' d hd
         rw [Option.ite_none_right_eq_some] at h
         obtain ⟨_,h⟩:=h
         simp only [Option.some.injEq,Prod.mk.injEq] at h
         exact ⟨t,e,l,c,sz,by_,ag,z,rfl,h.2.symm,bF he,h1,h2,h4,h5,h6,.inr ⟨d,rfl,h.1.symm⟩⟩
       · simp at h
       · simp only [Option.some.injEq,Prod.mk.injEq] at h
         exact ⟨t,e,l,c,sz,by_,ag,z,rfl,h.2.symm,bF he,h1,h2,h4,h5,h6,.inl h.1.symm⟩
     · simp at h
   · simp at h
 | _=>
   exfalso
   simp only [aG] at h
   (repeat' (split at h))
   all_goals (try (simp at h;done))
   all_goals (try simp only [Option.some.injEq,Prod.mk.injEq,Option.map_eq_some_iff,Option.ite_none_right_eq_some] at h)
   all_goals (rcases hk with ⟨_,_,_,_,rfl⟩ | ⟨_,_,_,_,rfl⟩<;>simp at h)
theorem pj {sz by_:Nat} {ag:Bool} {z:List PV} (h:aG P ns A dst op=some (.gO sz by_ ag z,args)) :
   ∃t e l c,op=.makeSlice t l c∧args=[l,c]∧P.underlying t=some (.slice e)∧bt P e=some sz∧cD P e=some by_∧bc P e=some z∧z.length=sz∧0<sz:=by
 obtain ⟨t,e,l,c,sz',by',ag',z',h1,h2,h3,h4,h5,h6,h7,h8,h9⟩:=lz h (.inl ⟨_,_,_,_,rfl⟩)
 rcases h9 with h9 | ⟨d,_,h9⟩<;>cases h9
 exact ⟨t,e,l,c,h1,h2,h3,h4,h5,h6,h7,h8⟩
theorem pk {d sz by_:Nat} {z:List PV} (h:aG P ns A dst op=some (.fp d sz by_ z,args)) :
   ∃t e l c,op=.makeSlice t l c∧args=[l,c]∧P.underlying t=some (.slice e)∧bt P e=some sz∧cD P e=some by_∧bc P e=some z∧z.length=sz∧0<sz∧dst=some d:=by
 obtain ⟨t,e,l,c,sz',by',ag',z',h1,h2,h3,h4,h5,h6,h7,h8,h9⟩:=lz h (.inr ⟨_,_,_,_,rfl⟩)
 rcases h9 with h9 | ⟨d',h0,h9⟩<;>cases h9
 exact ⟨t,e,l,c,h1,h2,h3,h4,h5,h6,h7,h8,h0⟩
theorem nM {sz by_:Nat} (h:aG P ns A dst op=some (.append sz by_,args)):∃c,op=.call c:=by
 cases op<;>simp only [aG] at h
 all_goals (repeat' (split at h))
 all_goals (try (simp at h;done))
 all_goals exact ⟨_,rfl⟩
theorem mz {sz by_:Nat} {ag:Bool} (h:aG P ns A dst op=some (.cS sz by_ ag,args)):∃c,op=.call c:=by
 cases op<;>simp only [aG] at h
 all_goals (repeat' (split at h))
 all_goals (try (simp at h;done))
 all_goals exact ⟨_,rfl⟩
theorem mA {sz by_:Nat} (h:aG P ns A dst op=some (.dz sz by_,args)):∃c,op=.call c:=by
 cases op<;>simp only [aG] at h
 all_goals (repeat' (split at h))
 all_goals (try (simp at h;done))
 all_goals exact ⟨_,rfl⟩
theorem pn {sz:Nat} (h:aG P ns A dst op=some (.gP sz,args)):∃c,op=.call c:=by
 cases op<;>simp only [aG] at h
 all_goals (repeat' (split at h))
 all_goals (try (simp at h;done))
 all_goals exact ⟨_,rfl⟩
theorem nN {sz:Nat} {z:List PV} (h:aG P ns A dst op=some (.eM sz z,args)):∃c,op=.call c:=by
 cases op<;>simp only [aG] at h
 all_goals (repeat' (split at h))
 all_goals (try (simp at h;done))
 all_goals exact ⟨_,rfl⟩
theorem po (h:aG P ns A dst op=some (.jc,args)):∃t,op=.makeMap t none∧args=[]:=by
 cases op<;>simp only [aG] at h
 case makeMap t r=>
   split at h
   · rename_i hr
     cases r with
     | none=>simp only [Option.some.injEq,Prod.mk.injEq,true_and] at h;exact ⟨_,rfl,h.symm⟩
     | some _=>simp at hr
   · simp at h
 all_goals (repeat' (split at h))
 all_goals (try (simp at h;done))
theorem pq {c:CK} {ok:Bool} {z:PV} (h:aG P ns A dst op=some (.gf c ok z,args)) :
   ∃t x i k e,op=.lookup t x i ok∧args=[x,i]∧P.underlying t=some (.map k e)∧dN P k=some c∧zeroOf P e=some z:=by
 cases op<;>simp only [aG] at h
 all_goals (repeat' (split at h))
 all_goals (try (simp at h;done))
 all_goals
   simp only [Option.some.injEq,Prod.mk.injEq,AK.gf.injEq] at h
   obtain ⟨⟨rfl,rfl,rfl⟩,rfl⟩:=h
   exact ⟨_,_,_,_,_,rfl,rfl,by assumption,by assumption,by assumption⟩
theorem ri {c:CK} (h:aG P ns A dst op=some (.kW c,args)) :
   ∃t m i x k e,(op=.mapUpdate t m i x∨op=.insert t m i x)∧args=[m,i,x]∧P.underlying t=some (.map k e)∧dN P k=some c:=by
 cases op<;>simp only [aG] at h
 case mapUpdate t m i x=>
   split at h
   · rename_i k e hu
     simp only [Option.map_eq_some_iff,Prod.mk.injEq,AK.kW.injEq] at h
     obtain ⟨c',h1,rfl,rfl⟩:=h
     exact ⟨_,_,_,_,_,_,.inl rfl,rfl,hu,h1⟩
   · simp at h
 case insert t m i x=>
   split at h
   · rename_i k e hu
     simp only [Option.map_eq_some_iff,Prod.mk.injEq,AK.kW.injEq] at h
     obtain ⟨c',h1,rfl,rfl⟩:=h
     exact ⟨_,_,_,_,_,_,.inr rfl,rfl,hu,h1⟩
   · simp at h
 all_goals (repeat' (split at h))
 all_goals (try (simp at h;done))
theorem rj {k:AK} (hk:(match k with | .aQ _ | .eo _ | .gQ .. | .gY _ | .fq | .bP | .clone .. | .gp ..=>true | _=>false)=true) (h:aG P ns A dst op=some (k,args)):∃c,op=.call c:=by
 cases op<;>simp only [aG] at h
 all_goals (repeat' (split at h))
 all_goals (try (simp at h;done))
 all_goals (first | exact ⟨_,rfl⟩ | skip)
 all_goals (simp at h;first | (obtain ⟨rfl,_⟩:=h;simp at hk;done) | (obtain ⟨_,_,rfl,_⟩:=h;simp at hk;done))
end
section
variable {orc:cZ} {vals:List AV} {cells:Option (List AV)} {sh:Sh} {aa:al} {out:Out}
theorem d8 {key off sz:Nat} {ag:Bool} (h:exec orc (.dv key off sz ag) vals cells sh aa=some out) :
   ∃cs x,vals=[.bJ key off]∧cells=some cs∧bl ag sz cs off=some x∧out=⟨x,none,sh,aa⟩:=by
 rcases vals with _ | ⟨v,_ | ⟨u,r⟩⟩
 · simp [exec] at h
 · cases v with
   | bJ d o=>
     simp only [exec,Option.ite_none_right_eq_some] at h
     obtain ⟨⟨rfl,rfl⟩,h⟩:=h
     cases cells with
     | none=>simp at h
     | some cs=>
       simp only [Option.map_eq_some_iff] at h
       obtain ⟨x,h1,rfl⟩:=h
       exact ⟨cs,x,rfl,rfl,h1,rfl⟩
   | _=>simp [exec] at h
 · cases v<;>simp [exec] at h
theorem eh {key off sz:Nat} (h:exec orc (.dL key off sz) vals cells sh aa=some out) :
   ∃cs v,vals=[.bJ key off,v]∧cells=some cs∧(au v).length=sz∧(au v).all aA=true∧off+sz≤cs.length∧out=⟨.un,some (aD cs off (au v)),sh,aa⟩:=by
 rcases vals with _ | ⟨v,_ | ⟨u,_ | ⟨_,_⟩⟩⟩
 · simp [exec] at h
 · cases v<;>simp [exec] at h
 · cases v with
   | bJ d o=>
     simp only [exec,Option.ite_none_right_eq_some] at h
     obtain ⟨⟨rfl,rfl,h1,h2⟩,h⟩:=h
     cases cells with
     | none=>simp at h
     | some cs=>
       simp only [Option.ite_none_right_eq_some,Option.some.injEq] at h
       obtain ⟨h3,rfl⟩:=h
       exact ⟨cs,u,rfl,rfl,h1,h2,h3,rfl⟩
   | _=>simp [exec] at h
 · cases v<;>simp [exec] at h
theorem e7 {key:Nat} {z:List PV} (h:exec orc (.alloc key z) vals cells sh aa=some out) :
   vals=[]∧cells=none∧out=⟨.bJ key 0,some (z.map aV.zeroCell),sh,aa⟩:=by
 cases vals with
 | nil=>cases cells with
   | none=>simp [exec] at h;exact ⟨rfl,rfl,h.symm⟩
   | some _=>simp [exec] at h
 | cons _ _=>simp [exec] at h
theorem ik {key sz:Nat} (h:exec orc (.box key sz) vals cells sh aa=some out) :
   ∃v,vals=[v]∧cells=none∧(au v).length=sz∧(au v).all aA=true∧out=⟨.bJ key 0,some (au v),sh,aa⟩:=by
 rcases vals with _ | ⟨v,_ | ⟨u,r⟩⟩
 · simp [exec] at h
 · cases cells with
   | none=>
     simp only [exec,Option.ite_none_right_eq_some,Option.some.injEq] at h
     obtain ⟨⟨h1,h2⟩,rfl⟩:=h
     exact ⟨v,rfl,rfl,h1,h2,rfl⟩
   | some _=>simp [exec] at h
 · simp [exec] at h
theorem gw {sz:Nat} {ag:Bool} (h:exec orc (.ck sz ag) vals cells sh aa=some out) :
   ∃p x,vals=[p]∧out=⟨x,none,sh,aa⟩∧((∃cs,p=.cj cs∧cq ag sz cs=some x)∨∃b off cs,p=.a0 b off∧sh[b]?=some (some cs)∧cJ cs=false∧bl ag sz cs off=some x):=by
 rcases vals with _ | ⟨v,_ | ⟨u,r⟩⟩
 · simp [exec] at h
 · simp only [exec] at h
   split at h
   · rename_i cs
     simp only [Option.map_eq_some_iff] at h
     obtain ⟨x,h1,rfl⟩:=h
     exact ⟨_,x,rfl,rfl,.inl ⟨cs,rfl,h1⟩⟩
   · rename_i b off
     split at h
     · rename_i cs hcs
       split at h
       · cases h
       · rename_i hm
         simp only [Option.map_eq_some_iff] at h
         obtain ⟨x,h1,rfl⟩:=h
         exact ⟨_,x,rfl,rfl,.inr ⟨b,off,cs,rfl,hcs,by simpa using hm,h1⟩⟩
     · simp at h
   · simp at h
 · simp [exec] at h
theorem ei {sz:Nat} (h:exec orc (.d4 sz) vals cells sh aa=some out) :
   ∃b off v cs,vals=[.a0 b off,v]∧sh[b]?=some (some cs)∧cJ cs=false∧(bA v).length=sz∧off+sz≤cs.length∧(bA v).all bm=true∧(bA v).all (aq (b+1))=true ∧
     out=⟨.un,none,sh.set b (some (aD cs off (bA v))),aa⟩:=by
 rcases vals with _ | ⟨v,_ | ⟨u,_ | ⟨_,_⟩⟩⟩
 · simp [exec] at h
 · cases v<;>simp [exec] at h
 · cases v with
   | a0 b off=>
     simp only [exec] at h
     split at h
     · rename_i cs hcs
       simp only [Option.ite_none_right_eq_some,Option.some.injEq] at h
       obtain ⟨⟨h0,h1,h2,h3,h4⟩,rfl⟩:=h
       exact ⟨b,off,u,cs,rfl,hcs,h0,h1,h2,h3,h4,rfl⟩
     · simp at h
   | _=>simp [exec] at h
 · cases v<;>simp [exec] at h
theorem fH {sz:Nat} (h:exec orc (.gn sz) vals cells sh aa=some out) :
   ∃b off v cs,vals=[.a0 b off,v]∧sh[b]?=some (some cs)∧cJ cs=false∧(au v).length=sz∧off+sz≤cs.length∧(au v).all bm=true∧(au v).all (aq (b+1))=true ∧
     out=⟨.un,none,sh.set b (some (aD cs off (au v))),aa⟩:=by
 rcases vals with _ | ⟨v,_ | ⟨u,_ | ⟨_,_⟩⟩⟩
 · simp [exec] at h
 · cases v<;>simp [exec] at h
 · cases v with
   | a0 b off=>
     simp only [exec] at h
     split at h
     · rename_i cs hcs
       simp only [Option.ite_none_right_eq_some,Option.some.injEq] at h
       obtain ⟨⟨h0,h1,h2,h3,h4⟩,rfl⟩:=h
       exact ⟨b,off,u,cs,rfl,hcs,h0,h1,h2,h3,h4,rfl⟩
     · simp at h
   | _=>simp [exec] at h
 · cases v<;>simp [exec] at h
theorem iB {sz:Nat} (h:exec orc (.kV sz) vals cells sh aa=some out) :
   ∃v,vals=[v]∧(bA v).length=sz∧(bA v).all bm=true∧(bA v).all (aq sh.length)=true∧out=⟨.a0 sh.length 0,none,sh++[some (bA v)],aa⟩:=by
 rcases vals with _ | ⟨v,_ | ⟨u,r⟩⟩
 · simp [exec] at h
 · simp only [exec,Option.ite_none_right_eq_some,Option.some.injEq] at h
   obtain ⟨⟨h1,h2,h3⟩,rfl⟩:=h
   exact ⟨v,rfl,h1,h2,h3,rfl⟩
 · simp [exec] at h
theorem iC {sz:Nat} (h:exec orc (.nq sz) vals cells sh aa=some out) :
   ∃v,vals=[v]∧(au v).length=sz∧(au v).all bm=true∧(au v).all (aq sh.length)=true∧out=⟨.a0 sh.length 0,none,sh++[some (au v)],aa⟩:=by
 rcases vals with _ | ⟨v,_ | ⟨u,r⟩⟩
 · simp [exec] at h
 · simp only [exec,Option.ite_none_right_eq_some,Option.some.injEq] at h
   obtain ⟨⟨h1,h2,h3⟩,rfl⟩:=h
   exact ⟨v,rfl,h1,h2,h3,rfl⟩
 · simp [exec] at h
theorem fJ {z:List PV} (h:exec orc (.fR z) vals cells sh aa=some out):vals=[]∧out=⟨.a0 sh.length 0,none,sh++[some (z.map aV.zeroCell)],aa⟩:=by
 cases vals with
 | nil=>simp [exec] at h;exact ⟨rfl,h.symm⟩
 | cons _ _=>simp [exec] at h
theorem gz {sz by_:Nat} {ag:Bool} {z:List PV} (h:exec orc (.gO sz by_ ag z) vals cells sh aa=some out) :
   ∃k k' n,vals=[.pv (.int k n),.pv (.int k' n)]∧0≤n∧n≤9223372036854775807∧n*by_≤140737488355328∧z.length=sz ∧
     out=⟨.aU sh.length sz n.toNat ag,none,sh++[some ((List.replicate n.toNat (z.map .pv)).flatten)],aa⟩:=by
 rcases vals with _ | ⟨v,_ | ⟨u,_ | ⟨_,_⟩⟩⟩
 · simp [exec] at h
 · simp [exec] at h
 · cases v with
   | pv p=>cases p with
     | int k n=>cases u with
       | pv q=>cases q with
         | int k' n'=>
           simp only [exec,Option.ite_none_right_eq_some,Option.some.injEq] at h
           obtain ⟨⟨rfl,h1,h2,h3,h4⟩,rfl⟩:=h
           exact ⟨k,k',n,rfl,h1,h2,h3,h4,rfl⟩
         | _=>simp [exec] at h
       | _=>simp [exec] at h
     | _=>simp [exec] at h
   | _=>simp [exec] at h
 · simp [exec] at h
theorem e8 {d sz by_:Nat} {z:List PV} (h:exec orc (.fp d sz by_ z) vals cells sh aa=some out) :
   ∃k k' n,vals=[.pv (.int k n),.pv (.int k' n)]∧0≤n∧n≤9223372036854775807∧n*by_≤140737488355328∧z.length=sz∧cells=none ∧
     out=⟨.fk d n.toNat,some ((List.replicate n.toNat (z.map .pv)).flatten),sh,aa⟩:=by
 rcases vals with _ | ⟨v,_ | ⟨u,_ | ⟨_,_⟩⟩⟩
 · simp [exec] at h
 · simp [exec] at h
 · cases v with
   | pv p=>cases p with
     | int k n=>cases u with
       | pv q=>cases q with
         | int k' n'=>
           cases cells with
           | some _=>simp [exec] at h
           | none=>
           simp only [exec,Option.ite_none_right_eq_some,Option.some.injEq] at h
           obtain ⟨⟨rfl,h1,h2,h3,h4⟩,rfl⟩:=h
           exact ⟨k,k',n,rfl,h1,h2,h3,h4,rfl,rfl⟩
         | _=>simp [exec] at h
       | _=>simp [exec] at h
     | _=>simp [exec] at h
   | _=>simp [exec] at h
 · simp [exec] at h
theorem gA (h:exec orc .jc vals cells sh aa=some out):vals=[]∧out=⟨.dK sh.length,none,sh++[some [.cz []]],aa⟩:=by
 cases vals with
 | nil=>simp [exec] at h;exact ⟨rfl,h.symm⟩
 | cons _ _=>simp [exec] at h
theorem e9 {c:CK} {ok:Bool} {z:PV} (h:exec orc (.gf c ok z) vals cells sh aa=some out) :
   ∃s k kvs r,vals=[.dK s,.pv k]∧sh[s]?=some (some [.cz kvs])∧fU c kvs k=some r∧out=⟨fu ok z r,none,sh,aa⟩:=by
 rcases vals with _ | ⟨v,_ | ⟨u,_ | ⟨_,_⟩⟩⟩
 · simp [exec] at h
 · simp [exec] at h
 · simp only [exec] at h
   split at h
   · rename_i s k
     split at h
     · rename_i kvs hs
       simp only [Option.map_eq_some_iff] at h
       obtain ⟨r,h1,rfl⟩:=h
       exact ⟨s,k,kvs,r,rfl,hs,h1,rfl⟩
     · cases h
   · cases h
 · simp [exec] at h
theorem iD {c:CK} (h:exec orc (.kW c) vals cells sh aa=some out) :
   ∃s k v kvs p kvs',vals=[.dK s,.pv k,v]∧sh[s]?=some (some [.cz kvs])∧gX [] v=some p∧hG c kvs k p=some kvs'∧out=⟨.un,none,sh.set s (some [.cz kvs']),aa⟩:=by
 rcases vals with _ | ⟨v,_ | ⟨u,_ | ⟨t,_ | ⟨_,_⟩⟩⟩⟩
 · simp [exec] at h
 · simp [exec] at h
 · simp [exec] at h
 · simp only [exec] at h
   split at h
   · rename_i s k
     split at h
     · rename_i kvs p hs hp
       simp only [Option.map_eq_some_iff] at h
       obtain ⟨r,h1,rfl⟩:=h
       exact ⟨s,k,t,kvs,p,r,rfl,hs,hp,h1,rfl⟩
     · cases h
   · cases h
 · simp [exec] at h
theorem iT {sz by_:Nat} (h:exec orc (.clone sz by_) vals cells sh aa=some out) :
   ∃x y ts,vals=[x]∧bd sz by_ (.cw []) x aa=some (y,ts)∧out=⟨y,none,sh,ts⟩:=by
 rcases vals with _ | ⟨v,_ | ⟨_,_⟩⟩
 · simp [exec] at h
 · simp only [exec,Option.map_eq_some_iff] at h
   obtain ⟨⟨y,ts⟩,h1,rfl⟩:=h
   exact ⟨v,y,ts,rfl,h1,rfl⟩
 · simp [exec] at h
theorem fK {sz by_:Nat} (h:exec orc (.append sz by_) vals cells sh aa=some out) :
   ∃s x y ts,vals=[s,x]∧bd sz by_ s x aa=some (y,ts)∧out=⟨y,none,sh,ts⟩:=by
 rcases vals with _ | ⟨v,_ | ⟨u,_ | ⟨_,_⟩⟩⟩
 · simp [exec] at h
 · simp [exec] at h
 · simp only [exec,Option.map_eq_some_iff] at h
   obtain ⟨⟨y,ts⟩,h1,rfl⟩:=h
   exact ⟨v,u,y,ts,rfl,h1,rfl⟩
 · simp [exec] at h
theorem eJ {sz by_:Nat} (h:exec orc (.dz sz by_) vals cells sh aa=some out) :
   ∃s x e xs p,vals=[s,x,e]∧bw x=some xs∧oM sz by_ xs s e aa=some p∧out=⟨.pv p,none,sh,aa⟩:=by
 rcases vals with _ | ⟨v,_ | ⟨u,_ | ⟨e,_ | ⟨_,_⟩⟩⟩⟩
 · simp [exec] at h
 · simp [exec] at h
 · simp [exec] at h
 · simp only [exec] at h
   cases hx:bw u with
   | none=>rw [hx] at h;simp at h
   | some xs=>
     rw [hx] at h
     simp only [Option.map_eq_some_iff] at h
     obtain ⟨p,h1,rfl⟩:=h
     exact ⟨v,u,e,xs,p,rfl,hx,h1,rfl⟩
 · simp [exec] at h
theorem gB {sz:Nat} (h:exec orc (.gP sz) vals cells sh aa=some out) :
   ∃x y xs k sh',vals=[x,y]∧bw y=some xs∧k6 sz sh xs x=some (k,sh')∧out=⟨.pv (.int .i64 (k:Int)),none,sh',aa⟩:=by
 rcases vals with _ | ⟨v,_ | ⟨u,_ | ⟨_,_⟩⟩⟩
 · simp [exec] at h
 · simp [exec] at h
 · simp only [exec] at h
   cases hx:bw u with
   | none=>rw [hx] at h;simp at h
   | some xs=>
     rw [hx] at h
     simp only [Option.map_eq_some_iff] at h
     obtain ⟨⟨k,sh'⟩,h1,rfl⟩:=h
     exact ⟨v,u,xs,k,sh',rfl,hx,h1,rfl⟩
 · simp [exec] at h
theorem kd {sz:Nat} {z:List PV} (h:exec orc (.eM sz z) vals cells sh aa=some out) :
   ∃x sh',vals=[x]∧kZ sz z sh (oL sz x)=some sh'∧out=⟨.j1 [],none,sh',aa⟩:=by
 rcases vals with _ | ⟨v,_ | ⟨u,_⟩⟩
 · simp [exec] at h
 · simp only [exec,Option.map_eq_some_iff] at h
   obtain ⟨sh',h1,rfl⟩:=h
   exact ⟨v,sh',rfl,h1,rfl⟩
 · simp [exec] at h
theorem gC {sz by_:Nat} {ag:Bool} (h:exec orc (.cS sz by_ ag) vals cells sh aa=some out) :
   ∃s x xs y sh',vals=[s,x]∧bw x=some xs∧aP sz xs=true∧ml sz by_ ag s xs sh aa=some (y,sh')∧out=⟨y,none,sh',aa⟩:=by
 rcases vals with _ | ⟨v,_ | ⟨u,_ | ⟨_,_⟩⟩⟩
 · simp [exec] at h
 · simp [exec] at h
 · simp only [exec] at h
   split at h
   · rename_i xs hxs
     simp only [Option.ite_none_right_eq_some,Option.map_eq_some_iff] at h
     obtain ⟨h0,⟨y,sh'⟩,h1,rfl⟩:=h
     exact ⟨v,u,xs,y,sh',rfl,hxs,h0,h1,rfl⟩
   · simp at h
 · simp [exec] at h
end
end Go.Ab
