import Derived.Test.YtjegoeahhcieaaaGreatDoorAbA
import Derived.Orders
import Derived.Tactics
import Derived.OrdersIn
import Derived.TacticsIn
import Derived.LoopNIn
import Derived.RangeFuncCalls
/-
  What an operation Tv compiled from, and what its run looked at.
  Each operation that calls nothing.
  Calls: the contracts of the callees, and what they Kl the caller.
  Shared arrays that are frozen: from then on they are known for Wg.
  Forgetting what is no longer wanted; tokens named anew at the head of a loop.
  Tokens named anew.
  Handing over to a callee and taking back.
  One operation of a region: what the evaluator gives is what the model does.
  A region: in the order of the text, and in whatever order the tape picks.
  A region that draws its order: whatever order is picked, the end is that of the text's order.
  Two operations that have nothing to do with one another may change places; so the order of the text serves every order.
  Operations and regions inside the fence that asks nothing, in a round of a range over a function or not.
  Without fuel: the limit of the evaluator.
-/
set_option linter.unusedVariables false
set_option linter.unusedSimpArgs false
set_option linter.unnecessarySimpa false
set_option maxRecDepth 100000
set_option maxHeartbeats 8000000
namespace Go.Ab
section
variable {P:Program} {ns:Names} {A:kD} {dst:Option Nat} {op:Op} {args:List Operand}
theorem zt{k o sz:Nat}{ag:Bool}(h:bo P ns A dst op=some (.cd k o sz ag,args)) :
   ∃t tx,op=.load t (.tmp tx)∧args=[.tmp tx]∧cQ P t=some sz∧gp P t=some ag:=by
 cases op<;>simp only[bo]at h
 all_goals (repeat' (split at h))
 all_goals (try (simp at h;done))
 all_goals
   simp only[Option.some.injEq,Prod.mk.injEq,AK.cd.injEq]at h;obtain⟨⟨rfl,rfl,rfl,rfl⟩,rfl⟩:=h;exact⟨_,_,rfl,rfl,by assumption,by assumption⟩
theorem zu{sz:Nat}{ag:Bool}(h:bo P ns A dst op=some (.eK sz ag,args)) :
   ∃t tx,op=.load t (.tmp tx)∧args=[.tmp tx]∧cQ P t=some sz∧gp P t=some ag:=by
 cases op<;>simp only[bo]at h
 all_goals (repeat' (split at h))
 all_goals (try (simp at h;done))
 all_goals
   simp only[Option.some.injEq,Prod.mk.injEq,AK.eK.injEq]at h;obtain⟨⟨rfl,rfl⟩,rfl⟩:=h;exact⟨_,_,rfl,rfl,by assumption,by assumption⟩
theorem xn{k o sz:Nat}(h:bo P ns A dst op=some (.bI k o sz,args)) :
   ∃t tx v,op=.store t (.tmp tx) v∧args=[.tmp tx,v]∧cQ P t=some sz:=by
 cases op<;>simp only[bo]at h
 all_goals (repeat' (split at h))
 all_goals (try (simp at h;done))
 all_goals
   simp only[Option.some.injEq,Prod.mk.injEq,AK.bI.injEq]at h;obtain⟨⟨rfl,rfl,rfl⟩,rfl⟩:=h;exact⟨_,_,_,rfl,rfl,by assumption⟩
theorem xp{sz:Nat}(h:bo P ns A dst op=some (.eR sz,args)) :
   ∃t tx v,op=.store t (.tmp tx) v∧args=[.tmp tx,v]∧cQ P t=some sz:=by
 cases op<;>simp only[bo]at h
 all_goals (repeat' (split at h))
 all_goals (try (simp at h;done))
 all_goals
   simp only[Option.some.injEq,Prod.mk.injEq,AK.eR.injEq]at h;obtain⟨rfl,rfl⟩:=h;exact⟨_,_,_,rfl,rfl,by assumption⟩
theorem xq{sz:Nat}(h:bo P ns A dst op=some (.kX sz,args)) :
   ∃t tx v,op=.store t (.tmp tx) v∧args=[.tmp tx,v]∧cQ P t=some sz:=by
 cases op<;>simp only[bo]at h
 all_goals (repeat' (split at h))
 all_goals (try (simp at h;done))
 all_goals
   simp only[Option.some.injEq,Prod.mk.injEq,AK.kX.injEq]at h;obtain⟨rfl,rfl⟩:=h;exact⟨_,_,_,rfl,rfl,by assumption⟩
theorem zw{k:Nat}{z:List PV}(h:bo P ns A dst op=some (.alloc k z,args)) :
   ∃t,op=.alloc t∧args=[]∧ck P t=some z∧dst=some k:=by
 cases op<;>simp only[bo]at h
 all_goals (repeat' (split at h))
 all_goals (try (simp at h;done))
 all_goals
   simp only[Option.some.injEq,Prod.mk.injEq,AK.alloc.injEq]at h;obtain⟨⟨rfl,rfl⟩,rfl⟩:=h;exact⟨_,rfl,rfl,by assumption,rfl⟩
theorem xu{z:List PV}(h:bo P ns A dst op=some (.iH z,args)) :
   ∃t,op=.alloc t∧args=[]∧ck P t=some z:=by
 cases op<;>simp only[bo]at h
 all_goals (repeat' (split at h))
 all_goals (try (simp at h;done))
 all_goals
   simp only[Option.some.injEq,Prod.mk.injEq,AK.iH.injEq]at h;obtain⟨rfl,rfl⟩:=h;exact⟨_,rfl,rfl,by assumption⟩
theorem GN{k sz:Nat}(h:bo P ns A dst op=some (.box k sz,args)) :
   ∃t x,op=.box t x∧args=[x]∧cQ P t=some sz∧dst=some k:=by
 cases op<;>simp only[bo]at h
 all_goals (repeat' (split at h))
 all_goals (try (simp at h;done))
 all_goals
   simp only[Option.some.injEq,Prod.mk.injEq,AK.box.injEq]at h;obtain⟨⟨rfl,rfl⟩,rfl⟩:=h;exact⟨_,_,rfl,rfl,by assumption,rfl⟩
theorem Cl{sz:Nat}(h:bo P ns A dst op=some (.re sz,args)) :
   ∃t x,op=.box t x∧args=[x]∧cQ P t=some sz:=by
 cases op<;>simp only[bo]at h
 all_goals (repeat' (split at h))
 all_goals (try (simp at h;done))
 all_goals
   simp only[Option.some.injEq,Prod.mk.injEq,AK.re.injEq]at h;obtain⟨rfl,rfl⟩:=h;exact⟨_,_,rfl,rfl,by assumption⟩
theorem Cm{sz:Nat}(h:bo P ns A dst op=some (.su sz,args)) :
   ∃t x,op=.box t x∧args=[x]∧cQ P t=some sz:=by
 cases op<;>simp only[bo]at h
 all_goals (repeat' (split at h))
 all_goals (try (simp at h;done))
 all_goals
   simp only[Option.some.injEq,Prod.mk.injEq,AK.su.injEq]at h;obtain⟨rfl,rfl⟩:=h;exact⟨_,_,rfl,rfl,by assumption⟩
theorem sS{k:AK}(h:bo P ns A dst op=some (k,args))(hk:(∃sz by_ ag z,k=.jb sz by_ ag z)∨∃d sz by_ z,k=.iq d sz by_ z) :
   ∃t e l c sz by_ ag z,op=.makeSlice t l c∧args=[l,c]∧P.underlying t=some (.slice e)∧cQ P e=some sz∧d6 P e=some by_∧ck P e=some z∧z.length=sz∧0<sz ∧
     (k=.jb sz by_ ag z∨∃d,dst=some d∧k=.iq d sz by_ z):=by
 have hno:∀{o:N2},k≠.v o:=by rintro o rfl;rcases hk with⟨_,_,_,_,e⟩|⟨_,_,_,_,e⟩<;>cases e
 cases op with
 |makeSlice t l c=>
   simp only[bo]at h;split at h
   · rename_i e he;split at h
     · rename_i sz by_ ag z h1 h2 h3 h4;rw[Option.ite_none_right_eq_some]at h;obtain⟨⟨h5,h6⟩,h⟩:=h;split at h
       ·rename_i k' d hd;rw[Option.ite_none_right_eq_some]at h;obtain⟨_,h⟩:=h;simp only[Option.some.injEq,Prod.mk.injEq]at h;exact⟨t,e,l,c,sz,by_,ag,z,rfl,h.2.symm,cV he,h1,h2,h4,h5,h6,.inr ⟨d,rfl,h.1.symm⟩⟩
       ·simp at h
       ·simp only[Option.some.injEq,Prod.mk.injEq]at h;exact⟨t,e,l,c,sz,by_,ag,z,rfl,h.2.symm,cV he,h1,h2,h4,h5,h6,.inl h.1.symm⟩
     ·simp at h
   ·simp at h
 |_=>
   exfalso;simp only[bo]at h
   (repeat' (split at h))
   all_goals (try (simp at h;done))
   all_goals (try simp only[Option.some.injEq,Prod.mk.injEq,Option.map_eq_some_iff,Option.ite_none_right_eq_some]at h)
   all_goals (rcases hk with⟨_,_,_,_,rfl⟩|⟨_,_,_,_,rfl⟩<;>simp at h)
theorem zx{sz by_:Nat}{ag:Bool}{z:List PV}(h:bo P ns A dst op=some (.jb sz by_ ag z,args)) :
   ∃t e l c,op=.makeSlice t l c∧args=[l,c]∧P.underlying t=some (.slice e)∧cQ P e=some sz∧d6 P e=some by_∧ck P e=some z∧z.length=sz∧0<sz:=by
 obtain⟨t,e,l,c,sz',by',ag',z',h1,h2,h3,h4,h5,h6,h7,h8,h9⟩:=sS h (.inl ⟨_,_,_,_,rfl⟩);rcases h9 with h9|⟨d,_,h9⟩<;>cases h9;exact⟨t,e,l,c,h1,h2,h3,h4,h5,h6,h7,h8⟩
theorem zy{d sz by_:Nat}{z:List PV}(h:bo P ns A dst op=some (.iq d sz by_ z,args)) :
   ∃t e l c,op=.makeSlice t l c∧args=[l,c]∧P.underlying t=some (.slice e)∧cQ P e=some sz∧d6 P e=some by_∧ck P e=some z∧z.length=sz∧0<sz∧dst=some d:=by
 obtain⟨t,e,l,c,sz',by',ag',z',h1,h2,h3,h4,h5,h6,h7,h8,h9⟩:=sS h (.inr ⟨_,_,_,_,rfl⟩);rcases h9 with h9|⟨d',h0,h9⟩<;>cases h9;exact⟨t,e,l,c,h1,h2,h3,h4,h5,h6,h7,h8,h0⟩
theorem xv{sz by_:Nat}(h:bo P ns A dst op=some (.append sz by_,args)):∃c,op=.call c:=by
 cases op<;>simp only[bo]at h
 all_goals (repeat' (split at h))
 all_goals (try (simp at h;done))
 all_goals exact⟨_,rfl⟩
theorem uV{sz by_:Nat}{ag:Bool}(h:bo P ns A dst op=some (.dQ sz by_ ag,args)):∃c,op=.call c:=by
 cases op<;>simp only[bo]at h
 all_goals (repeat' (split at h))
 all_goals (try (simp at h;done))
 all_goals exact⟨_,rfl⟩
theorem uW{sz by_:Nat}(h:bo P ns A dst op=some (.ga sz by_,args)):∃c,op=.call c:=by
 cases op<;>simp only[bo]at h
 all_goals (repeat' (split at h))
 all_goals (try (simp at h;done))
 all_goals exact⟨_,rfl⟩
theorem zA{sz:Nat}(h:bo P ns A dst op=some (.lS sz,args)):∃c,op=.call c:=by
 cases op<;>simp only[bo]at h
 all_goals (repeat' (split at h))
 all_goals (try (simp at h;done))
 all_goals exact⟨_,rfl⟩
theorem xy{sz:Nat}{z:List PV}(h:bo P ns A dst op=some (.jd sz z,args)):∃c,op=.call c:=by
 cases op<;>simp only[bo]at h
 all_goals (repeat' (split at h))
 all_goals (try (simp at h;done))
 all_goals exact⟨_,rfl⟩
theorem zB(h:bo P ns A dst op=some (.oH,args)):∃t,op=.makeMap t none∧args=[]:=by
 cases op<;>simp only[bo]at h
 case makeMap t r=>
   split at h
   · rename_i hr;cases r with
     |none=>simp only[Option.some.injEq,Prod.mk.injEq,true_and]at h;exact⟨_,rfl,h.symm⟩
     |some _=>simp at hr
   ·simp at h
 all_goals (repeat' (split at h))
 all_goals (try (simp at h;done))
theorem zE{c:CK}{ok:Bool}{z:PV}(h:bo P ns A dst op=some (.kz c ok z,args)) :
   ∃t x i k e,op=.lookup t x i ok∧args=[x,i]∧P.underlying t=some (.map k e)∧gC P k=some c∧zeroOf P e=some z:=by
 cases op<;>simp only[bo]at h
 all_goals (repeat' (split at h))
 all_goals (try (simp at h;done))
 all_goals
   simp only[Option.some.injEq,Prod.mk.injEq,AK.kz.injEq]at h;obtain⟨⟨rfl,rfl,rfl⟩,rfl⟩:=h;exact⟨_,_,_,_,_,rfl,rfl,by assumption,by assumption,by assumption⟩
theorem Cn{c:CK}(h:bo P ns A dst op=some (.sv c,args)) :
   ∃t m i x k e,(op=.mapUpdate t m i x∨op=.insert t m i x)∧args=[m,i,x]∧P.underlying t=some (.map k e)∧gC P k=some c:=by
 cases op<;>simp only[bo]at h
 case mapUpdate t m i x=>
   split at h
   ·rename_i k e hu;simp only[Option.map_eq_some_iff,Prod.mk.injEq,AK.sv.injEq]at h;obtain⟨c',h1,rfl,rfl⟩:=h;exact⟨_,_,_,_,_,_,.inl rfl,rfl,hu,h1⟩
   ·simp at h
 case insert t m i x=>
   split at h
   ·rename_i k e hu;simp only[Option.map_eq_some_iff,Prod.mk.injEq,AK.sv.injEq]at h;obtain⟨c',h1,rfl,rfl⟩:=h;exact⟨_,_,_,_,_,_,.inr rfl,rfl,hu,h1⟩
   ·simp at h
 all_goals (repeat' (split at h))
 all_goals (try (simp at h;done))
theorem Co{k:AK}(hk:(match k with| .aJ _| .d0 _| .bp ..| .je _| .ir| .eS| .clone ..| .jc ..=>true|_=>false)=true)(h:bo P ns A dst op=some (k,args)):∃c,op=.call c:=by
 cases op<;>simp only[bo]at h
 all_goals (repeat' (split at h))
 all_goals (try (simp at h;done))
 all_goals (first|exact⟨_,rfl⟩|skip)
 all_goals (simp at h;first|(obtain⟨rfl,_⟩:=h;simp at hk;done)|(obtain⟨_,_,rfl,_⟩:=h;simp at hk;done))
end
section
variable {orc:eH} {vals:List AV} {cells:Option (List AV)} {sh:Sh} {aa:aG} {out:Out}
theorem h_{key off sz:Nat}{ag:Bool}(h:exec orc (.cd key off sz ag) vals cells sh aa=some out) :
   ∃cs x,vals=[.au key off]∧cells=some cs∧bO ag sz cs off=some x∧out=⟨x,none,sh,aa⟩:=by
 rcases vals with _|⟨v,_|⟨u,r⟩⟩
 ·simp[exec]at h
 · cases v with
   |au d o=>
     simp only[exec,Option.ite_none_right_eq_some]at h;obtain⟨⟨rfl,rfl⟩,h⟩:=h;cases cells with
     |none=>simp at h
     |some cs=>
       simp only[Option.map_eq_some_iff]at h;obtain⟨x,h1,rfl⟩:=h;exact⟨cs,x,rfl,rfl,h1,rfl⟩
   |_=>simp[exec]at h
 ·cases v<;>simp[exec]at h
theorem iy{key off sz:Nat}(h:exec orc (.bI key off sz) vals cells sh aa=some out) :
   ∃cs v,vals=[.au key off,v]∧cells=some cs∧(aX v).length=sz∧(aX v).all a0=true∧off+sz≤cs.length∧out=⟨.un,some (aR cs off (aX v)),sh,aa⟩:=by
 rcases vals with _|⟨v,_|⟨u,_|⟨_,_⟩⟩⟩
 ·simp[exec]at h
 ·cases v<;>simp[exec]at h
 · cases v with
   |au d o=>
     simp only[exec,Option.ite_none_right_eq_some]at h;obtain⟨⟨rfl,rfl,h1,h2⟩,h⟩:=h;cases cells with
     |none=>simp at h
     |some cs=>
       simp only[Option.ite_none_right_eq_some,Option.some.injEq]at h;obtain⟨h3,rfl⟩:=h;exact⟨cs,u,rfl,rfl,h1,h2,h3,rfl⟩
   |_=>simp[exec]at h
 ·cases v<;>simp[exec]at h
theorem jr{key:Nat}{z:List PV}(h:exec orc (.alloc key z) vals cells sh aa=some out) :
   vals=[]∧cells=none∧out=⟨.au key 0,some (z.map bA.zeroCell),sh,aa⟩:=by
 cases vals with
 |nil=>cases cells with
   |none=>simp[exec]at h;exact⟨rfl,rfl,h.symm⟩
   |some _=>simp[exec]at h
 |cons _ _=>simp[exec]at h
theorem mu{key sz:Nat}(h:exec orc (.box key sz) vals cells sh aa=some out) :
   ∃v,vals=[v]∧cells=none∧(aX v).length=sz∧(aX v).all a0=true∧out=⟨.au key 0,some (aX v),sh,aa⟩:=by
 rcases vals with _|⟨v,_|⟨u,r⟩⟩
 ·simp[exec]at h
 · cases cells with
   |none=>
     simp only[exec,Option.ite_none_right_eq_some,Option.some.injEq]at h;obtain⟨⟨h1,h2⟩,rfl⟩:=h;exact⟨v,rfl,rfl,h1,h2,rfl⟩
   |some _=>simp[exec]at h
 ·simp[exec]at h
theorem lf{sz:Nat}{ag:Bool}(h:exec orc (.eK sz ag) vals cells sh aa=some out) :
   ∃p x,vals=[p]∧out=⟨x,none,sh,aa⟩∧((∃cs,p=.dM cs∧cJ ag sz cs=some x)∨∃b off cs,p=.aM b off∧sh[b]?=some (some cs)∧bY cs=false∧bO ag sz cs off=some x):=by
 rcases vals with _|⟨v,_|⟨u,r⟩⟩
 ·simp[exec]at h
 · simp only[exec]at h;split at h
   ·rename_i cs;simp only[Option.map_eq_some_iff]at h;obtain⟨x,h1,rfl⟩:=h;exact⟨_,x,rfl,rfl,.inl ⟨cs,rfl,h1⟩⟩
   · rename_i b off;split at h
     · rename_i cs hcs;split at h
       ·cases h
       ·rename_i hm;simp only[Option.map_eq_some_iff]at h;obtain⟨x,h1,rfl⟩:=h;exact⟨_,x,rfl,rfl,.inr ⟨b,off,cs,rfl,hcs,by simpa using hm,h1⟩⟩
     ·simp at h
   ·simp at h
 ·simp[exec]at h
theorem iz{sz:Nat}(h:exec orc (.eR sz) vals cells sh aa=some out) :
   ∃b off v cs,vals=[.aM b off,v]∧sh[b]?=some (some cs)∧bY cs=false∧(cE v).length=sz∧off+sz≤cs.length∧(cE v).all cI=true∧(cE v).all (aI (b+1))=true ∧
     out=⟨.un,none,sh.set b (some (aR cs off (cE v))),aa⟩:=by
 rcases vals with _|⟨v,_|⟨u,_|⟨_,_⟩⟩⟩
 ·simp[exec]at h
 ·cases v<;>simp[exec]at h
 · cases v with
   |aM b off=>
     simp only[exec]at h;split at h
     ·rename_i cs hcs;simp only[Option.ite_none_right_eq_some,Option.some.injEq]at h;obtain⟨⟨h0,h1,h2,h3,h4⟩,rfl⟩:=h;exact⟨b,off,u,cs,rfl,hcs,h0,h1,h2,h3,h4,rfl⟩
     ·simp at h
   |_=>simp[exec]at h
 ·cases v<;>simp[exec]at h
theorem jU{sz:Nat}(h:exec orc (.kX sz) vals cells sh aa=some out) :
   ∃b off v cs,vals=[.aM b off,v]∧sh[b]?=some (some cs)∧bY cs=false∧(aX v).length=sz∧off+sz≤cs.length∧(aX v).all cI=true∧(aX v).all (aI (b+1))=true ∧
     out=⟨.un,none,sh.set b (some (aR cs off (aX v))),aa⟩:=by
 rcases vals with _|⟨v,_|⟨u,_|⟨_,_⟩⟩⟩
 ·simp[exec]at h
 ·cases v<;>simp[exec]at h
 · cases v with
   |aM b off=>
     simp only[exec]at h;split at h
     ·rename_i cs hcs;simp only[Option.ite_none_right_eq_some,Option.some.injEq]at h;obtain⟨⟨h0,h1,h2,h3,h4⟩,rfl⟩:=h;exact⟨b,off,u,cs,rfl,hcs,h0,h1,h2,h3,h4,rfl⟩
     ·simp at h
   |_=>simp[exec]at h
 ·cases v<;>simp[exec]at h
theorem m5{sz:Nat}(h:exec orc (.re sz) vals cells sh aa=some out) :
   ∃v,vals=[v]∧(cE v).length=sz∧(cE v).all cI=true∧(cE v).all (aI sh.length)=true∧out=⟨.aM sh.length 0,none,sh++[some (cE v)],aa⟩:=by
 rcases vals with _|⟨v,_|⟨u,r⟩⟩
 ·simp[exec]at h
 ·simp only[exec,Option.ite_none_right_eq_some,Option.some.injEq]at h;obtain⟨⟨h1,h2,h3⟩,rfl⟩:=h;exact⟨v,rfl,h1,h2,h3,rfl⟩
 ·simp[exec]at h
theorem m6{sz:Nat}(h:exec orc (.su sz) vals cells sh aa=some out) :
   ∃v,vals=[v]∧(aX v).length=sz∧(aX v).all cI=true∧(aX v).all (aI sh.length)=true∧out=⟨.aM sh.length 0,none,sh++[some (aX v)],aa⟩:=by
 rcases vals with _|⟨v,_|⟨u,r⟩⟩
 ·simp[exec]at h
 ·simp only[exec,Option.ite_none_right_eq_some,Option.some.injEq]at h;obtain⟨⟨h1,h2,h3⟩,rfl⟩:=h;exact⟨v,rfl,h1,h2,h3,rfl⟩
 ·simp[exec]at h
theorem jV{z:List PV}(h:exec orc (.iH z) vals cells sh aa=some out):vals=[]∧out=⟨.aM sh.length 0,none,sh++[some (z.map bA.zeroCell)],aa⟩:=by
 cases vals with
 |nil=>simp[exec]at h;exact⟨rfl,h.symm⟩
 |cons _ _=>simp[exec]at h
theorem lg{sz by_:Nat}{ag:Bool}{z:List PV}(h:exec orc (.jb sz by_ ag z) vals cells sh aa=some out) :
   ∃k k' n,vals=[.pv (.int k n),.pv (.int k' n)]∧0≤n∧n≤9223372036854775807∧n*by_≤140737488355328∧z.length=sz ∧
     out=⟨.aT sh.length sz n.toNat ag,none,sh++[some ((List.replicate n.toNat (z.map .pv)).flatten)],aa⟩:=by
 rcases vals with _|⟨v,_|⟨u,_|⟨_,_⟩⟩⟩
 ·simp[exec]at h
 ·simp[exec]at h
 · cases v with
   |pv p=>cases p with
     |int k n=>cases u with
       |pv q=>cases q with
         |int k' n'=>
           simp only[exec,Option.ite_none_right_eq_some,Option.some.injEq]at h;obtain⟨⟨rfl,h1,h2,h3,h4⟩,rfl⟩:=h;exact⟨k,k',n,rfl,h1,h2,h3,h4,rfl⟩
         |_=>simp[exec]at h
       |_=>simp[exec]at h
     |_=>simp[exec]at h
   |_=>simp[exec]at h
 ·simp[exec]at h
theorem js{d sz by_:Nat}{z:List PV}(h:exec orc (.iq d sz by_ z) vals cells sh aa=some out) :
   ∃k k' n,vals=[.pv (.int k n),.pv (.int k' n)]∧0≤n∧n≤9223372036854775807∧n*by_≤140737488355328∧z.length=sz∧cells=none ∧
     out=⟨.jJ d n.toNat,some ((List.replicate n.toNat (z.map .pv)).flatten),sh,aa⟩:=by
 rcases vals with _|⟨v,_|⟨u,_|⟨_,_⟩⟩⟩
 ·simp[exec]at h
 ·simp[exec]at h
 · cases v with
   |pv p=>cases p with
     |int k n=>cases u with
       |pv q=>cases q with
         |int k' n'=>
           cases cells with
           |some _=>simp[exec]at h
           |none=>
           simp only[exec,Option.ite_none_right_eq_some,Option.some.injEq]at h;obtain⟨⟨rfl,h1,h2,h3,h4⟩,rfl⟩:=h;exact⟨k,k',n,rfl,h1,h2,h3,h4,rfl,rfl⟩
         |_=>simp[exec]at h
       |_=>simp[exec]at h
     |_=>simp[exec]at h
   |_=>simp[exec]at h
 ·simp[exec]at h
theorem lh(h:exec orc .oH vals cells sh aa=some out):vals=[]∧out=⟨.fR sh.length,none,sh++[some [.dB []]],aa⟩:=by
 cases vals with
 |nil=>simp[exec]at h;exact⟨rfl,h.symm⟩
 |cons _ _=>simp[exec]at h
theorem jt{c:CK}{ok:Bool}{z:PV}(h:exec orc (.kz c ok z) vals cells sh aa=some out) :
   ∃s k kvs r,vals=[.fR s,.pv k]∧sh[s]?=some (some [.dB kvs])∧ki c kvs k=some r∧out=⟨iR ok z r,none,sh,aa⟩:=by
 rcases vals with _|⟨v,_|⟨u,_|⟨_,_⟩⟩⟩
 ·simp[exec]at h
 ·simp[exec]at h
 · simp only[exec]at h;split at h
   · rename_i s k;split at h
     ·rename_i kvs hs;simp only[Option.map_eq_some_iff]at h;obtain⟨r,h1,rfl⟩:=h;exact⟨s,k,kvs,r,rfl,hs,h1,rfl⟩
     ·cases h
   ·cases h
 ·simp[exec]at h
theorem m7{c:CK}(h:exec orc (.sv c) vals cells sh aa=some out) :
   ∃s k v kvs p kvs',vals=[.fR s,.pv k,v]∧sh[s]?=some (some [.dB kvs])∧bR [] v=some p∧mf c kvs k p=some kvs'∧out=⟨.un,none,sh.set s (some [.dB kvs']),aa⟩:=by
 rcases vals with _|⟨v,_|⟨u,_|⟨t,_|⟨_,_⟩⟩⟩⟩
 ·simp[exec]at h
 ·simp[exec]at h
 ·simp[exec]at h
 · simp only[exec]at h;split at h
   · rename_i s k;split at h
     ·rename_i kvs p hs hp;simp only[Option.map_eq_some_iff]at h;obtain⟨r,h1,rfl⟩:=h;exact⟨s,k,t,kvs,p,r,rfl,hs,hp,h1,rfl⟩
     ·cases h
   ·cases h
 ·simp[exec]at h
theorem nV{sz by_:Nat}(h:exec orc (.clone sz by_) vals cells sh aa=some out) :
   ∃x y ts,vals=[x]∧bS sz by_ (.cY []) x aa=some (y,ts)∧out=⟨y,none,sh,ts⟩:=by
 rcases vals with _|⟨v,_|⟨_,_⟩⟩
 ·simp[exec]at h
 ·simp only[exec,Option.map_eq_some_iff]at h;obtain⟨⟨y,ts⟩,h1,rfl⟩:=h;exact⟨v,y,ts,rfl,h1,rfl⟩
 ·simp[exec]at h
theorem jW{sz by_:Nat}(h:exec orc (.append sz by_) vals cells sh aa=some out) :
   ∃s x y ts,vals=[s,x]∧bS sz by_ s x aa=some (y,ts)∧out=⟨y,none,sh,ts⟩:=by
 rcases vals with _|⟨v,_|⟨u,_|⟨_,_⟩⟩⟩
 ·simp[exec]at h
 ·simp[exec]at h
 ·simp only[exec,Option.map_eq_some_iff]at h;obtain⟨⟨y,ts⟩,h1,rfl⟩:=h;exact⟨v,u,y,ts,rfl,h1,rfl⟩
 ·simp[exec]at h
theorem iY{sz by_:Nat}(h:exec orc (.ga sz by_) vals cells sh aa=some out) :
   ∃s x e xs p,vals=[s,x,e]∧cf x=some xs∧nS sz by_ xs s e aa=some p∧out=⟨.pv p,none,sh,aa⟩:=by
 rcases vals with _|⟨v,_|⟨u,_|⟨e,_|⟨_,_⟩⟩⟩⟩
 ·simp[exec]at h
 ·simp[exec]at h
 ·simp[exec]at h
 · simp only[exec]at h;cases hx:cf u with
   |none=>rw[hx]at h;simp at h
   |some xs=>
     rw[hx]at h;simp only[Option.map_eq_some_iff]at h;obtain⟨p,h1,rfl⟩:=h;exact⟨v,u,e,xs,p,rfl,hx,h1,rfl⟩
 ·simp[exec]at h
theorem lj{sz:Nat}(h:exec orc (.lS sz) vals cells sh aa=some out) :
   ∃x y xs k sh',vals=[x,y]∧cf y=some xs∧sF sz sh xs x=some (k,sh')∧out=⟨.pv (.int .i64 (k:Int)),none,sh',aa⟩:=by
 rcases vals with _|⟨v,_|⟨u,_|⟨_,_⟩⟩⟩
 ·simp[exec]at h
 ·simp[exec]at h
 · simp only[exec]at h;cases hx:cf u with
   |none=>rw[hx]at h;simp at h
   |some xs=>
     rw[hx]at h;simp only[Option.map_eq_some_iff]at h;obtain⟨⟨k,sh'⟩,h1,rfl⟩:=h;exact⟨v,u,xs,k,sh',rfl,hx,h1,rfl⟩
 ·simp[exec]at h
theorem qA{sz:Nat}{z:List PV}(h:exec orc (.jd sz z) vals cells sh aa=some out) :
   ∃x sh',vals=[x]∧sD sz z sh (y1 sz x)=some sh'∧out=⟨.pJ [],none,sh',aa⟩:=by
 rcases vals with _|⟨v,_|⟨u,_⟩⟩
 ·simp[exec]at h
 ·simp only[exec,Option.map_eq_some_iff]at h;obtain⟨sh',h1,rfl⟩:=h;exact⟨v,sh',rfl,h1,rfl⟩
 ·simp[exec]at h
theorem lp{sz by_:Nat}{ag:Bool}(h:exec orc (.dQ sz by_ ag) vals cells sh aa=some out) :
   ∃s x xs y sh',vals=[s,x]∧cf x=some xs∧a_ sz xs=true∧rn sz by_ ag s xs sh aa=some (y,sh')∧out=⟨y,none,sh',aa⟩:=by
 rcases vals with _|⟨v,_|⟨u,_|⟨_,_⟩⟩⟩
 ·simp[exec]at h
 ·simp[exec]at h
 · simp only[exec]at h;split at h
   ·rename_i xs hxs;simp only[Option.ite_none_right_eq_some,Option.map_eq_some_iff]at h;obtain⟨h0,⟨y,sh'⟩,h1,rfl⟩:=h;exact⟨v,u,xs,y,sh',rfl,hxs,h0,h1,rfl⟩
   ·simp at h
 ·simp[exec]at h
end
end Go.Ab
namespace Go.Ab
section
variable {P:Program} {ns:Names} {G:Gh} {w:World}
def AK.calls:AK→Bool
 | .aJ _| .d0 _| .bp ..| .je _| .ir| .eS| .clone ..| .jc ..=>true
 |_=>false
theorem eD{mem:List (Nat×List AV)}(k:Option Nat):ez mem k none=mem:=by cases k<;>rfl
theorem qB{v:AV}{rv:Value}(h:aA (num ns) G v rv)(hl:(cE v).all a0=true):az (num ns) G (cE v) rv.cells.toList:=by
 cases v with
 |cY l=>exact aA.cells (x:=.cY l) h hl
 |own l τ=>exact aA.cells (x:=.own l τ) h hl
 |_=>
   simp only[cE]at hl⊢;split
   ·rename_i p hp;simp only[hp]at hl;exact aA.cells (by simp only[aA];exact mZ hp h) hl
   ·rename_i hp;simp only[hp]at hl;exact h.cells hl
theorem bU{mem:List (Nat×List AV)}{sh:Sh}{aa:aG}{s:Sem Value}{s':Sem Next}{x:AV}{v:Value}{w':World}{G':Gh}(hs:s'=(do pure (.value (←s))))(h1:s.run P w=.ok v w')(h2:aA (num ns) G' x v)
   (h3:Inv (num ns) G' w' mem sh aa) (h4:G.le G') (h5:bu G w G' w'):T6 ns P G w mem sh aa s' x:=
 ⟨.value v,v,w',G',by rw[hs];simp only[Sem.run_bind,h1,Result.andThen_ok,Sem.run_pure],.inl rfl,h2,h3,h4,h5⟩
theorem qC{A:kD}{o:Oper}{k:AK}{args:List Operand}{orc:eH}(hc:bo P ns A o.dst o.op=some (k,args))(hk:k.calls=false){a:Act}{vals:List AV}{out:Out}
   {mem:List (Nat×List AV)} {sh:Sh} {aa:aG} (hr:az (num ns) G vals (args.map a.eval)) (hi:Inv (num ns) G w mem sh aa)
   (h:exec orc k vals (k.key.bind (look mem)) sh aa=some out) :
   T6 ns P G w (ez mem k.key out.cells) out.sh out.aa (execOp a.eval o) out.val:=by
 obtain⟨dst,op,type,pos,after,guard⟩:=o;cases k with
 |v vo=>
   simp only[exec,Option.map_eq_some_iff]at h;obtain⟨x,h1,rfl⟩:=h;obtain⟨v,w',G',g1,g2,g3,g4,g5⟩:=zj hc hr hi h1;exact⟨.value v,v,w',G',g1,.inl rfl,g2,by simpa[eD] using g3,g4,g5⟩
 |aJ g=>simp[AK.calls]at hk
 |d0 g=>simp[AK.calls]at hk
 |bp g own=>simp[AK.calls]at hk
 |je g=>simp[AK.calls]at hk
 |ir=>simp[AK.calls]at hk
 |eS=>simp[AK.calls]at hk
 |clone sz by_=>simp[AK.calls]at hk
 |jc sz by_ ag=>simp[AK.calls]at hk
 |oH=>
   obtain⟨t,rfl,rfl⟩:=zB hc;obtain⟨rfl,rfl⟩:=lh h;obtain⟨g1,g2,g3⟩:=hi.allocMap;refine bU (s:=Instr.makeMap t none) (v:=.map (some w.heap.size)) rfl ?_ ?_ g1 g2 g3
   ·rfl
   ·simp only[aA];exact⟨(w.heap.size,0),by simp[Gh.cM],rfl⟩
 |kz c ok z=>
   obtain⟨t,x,i,kt,et,rfl,rfl,hu,hk1,hz⟩:=zE hc;obtain⟨s,k,kvs,r,rfl,hs,hf,rfl⟩:=jt h;obtain⟨x1,x2,e,h1,h2⟩:=cW (by simpa using hr);cases e;simp only[aA]at h1 h2;obtain⟨b,hp,hv⟩:=h1;obtain⟨b',hp',hblk,_⟩:=hi.cR _ _ hs;rw[hp]at hp';cases hp';obtain⟨_,o,hh,hold⟩:=hblk;rcases hold with⟨_,_,_,_,_,_,_,hbad⟩|⟨es,clock,kvs',rfl,e,hm⟩
   ·exact absurd (sK hbad) (by simp[bY])
   · cases e
     obtain⟨zv,hz1,hz2⟩:=Cg (P:=P) (w:=w) (K:=G.K) hz;obtain⟨d,hd⟩:=oO hk1;have hget:(getObj b.1).run P w=.ok (.map es clock) w:=by simp[getObj,Sem.run,hh]
     have key:∃u,(Instr.lookup t (a.eval x) (a.eval i) ok).run P w=.ok u w∧aA (num ns) G (iR ok z r) u:=by
       rcases qu hk1 hd h2 0 hm hf with⟨rfl,hfn⟩|⟨p,v,j,rfl,hfn,hpv⟩
       · refine⟨if ok then .tuple #[zv,.bool false] else zv,?_,?_⟩
         ·rw[hv];simp only[Instr.lookup,Sem.run_bind,run_underlying hu,Result.andThen_ok,hget,Sem.run_pure,gG hk1,jS hd hfn,hz1]
         · unfold iR;cases ok
           ·simpa[aA] using hz2
           ·simp only[if_true,aA];exact⟨[zv,.bool false],by simp,by simp only[az,aA];exact⟨_,_,rfl,by simpa using hz2,_,_,rfl,eZ.2 rfl,rfl⟩⟩
       · refine⟨if ok then .tuple #[v,.bool true] else v,?_,?_⟩
         ·rw[hv];simp only[Instr.lookup,Sem.run_bind,run_underlying hu,Result.andThen_ok,hget,Sem.run_pure,gG hk1,jS hd hfn]
         · unfold iR;cases ok
           ·simpa[aA] using hpv
           ·simp only[if_true,aA];exact⟨[v,.bool true],by simp,by simp only[az,aA];exact⟨_,_,rfl,by simpa using hpv,_,_,rfl,eZ.2 rfl,rfl⟩⟩
     obtain⟨u,g1,g2⟩:=key;exact bU (s:=Instr.lookup t (a.eval x) (a.eval i) ok) (v:=u) (w':=w) rfl g1 g2 (by simpa[eD] using hi) G.le_refl (bu.refl G w)
 |sv c=>
   obtain⟨t,m,i,x,kt,et,hop,rfl,hu,hk1⟩:=Cn hc;obtain⟨s,k,v,kvs,p,kvs',rfl,hs,hfz,hput,rfl⟩:=m7 h;obtain⟨x1,x2,x3,e,h1,h2,h3⟩:=mq (by simpa using hr);cases e;have h3:=mZ hfz h3;simp only[aA]at h1 h2;obtain⟨b,hp,hv⟩:=h1;obtain⟨b',hp',hblk,_⟩:=hi.cR _ _ hs;rw[hp]at hp';cases hp';obtain⟨_,o,hh,hold⟩:=hblk;rcases hold with⟨_,_,_,_,_,_,_,hbad⟩|⟨es,clock,kvs0,rfl,e,hm⟩
   ·exact absurd (sK hbad) (by simp[bY])
   · cases e
     obtain⟨d,hd⟩:=oO hk1;obtain⟨es',clock',hrun,hm'⟩:=uS (P:=P) (w:=w) hu hk1 hd hh h2 h3 hm hput;obtain⟨g1,g2⟩:=hi.Kj (es:=es') (clock:=clock') hs hp hm'
     have:(execOp a.eval ⟨dst,op,type,pos,after,guard⟩).run P w=.ok .skip (w.putObj b.1 (.map es' clock')):=by
       rcases hop with rfl|rfl<;>simp[execOp,hv,hrun]
     exact⟨.skip,undef,_,G,this,.inr ⟨rfl,rfl⟩,by simp[aA],by simpa[AK.key,ez] using g1,G.le_refl,g2⟩
 |cd key off sz ag=>
   obtain⟨t,tx,rfl,rfl,hsz,hag⟩:=zt hc;obtain⟨cs,x,rfl,hcs,hx,rfl⟩:=h_ h;simp only[AK.key,Option.bind_some]at hcs;obtain⟨x',e,h1⟩:=bZ (by simpa using hr);cases e;simp only[aA]at h1;obtain⟨b,hp,hv⟩:=h1;obtain⟨b',hp',hblk,_⟩:=hi.cG _ _ hcs;rw[hp]at hp';cases hp';obtain⟨_,c,ty,hh,hrel⟩:=hblk;obtain⟨u,g1,g2⟩:=iU (w:=w) hsz hag hx hrel (kj hh);refine bU (s:=Instr.loadAt t (a.eval (.tmp tx))) (v:=u) (w':=w) rfl ?_ g2 (by simpa[eD] using hi) G.le_refl (bu.refl G w);rw[hv];simp[Instr.loadAt,Instr.sureAddr,g1]
 |eK sz ag=>
   obtain⟨t,tx,rfl,rfl,hsz,hag⟩:=zu hc;obtain⟨p,x,rfl,rfl,hor⟩:=lf h;obtain⟨x',e,h1⟩:=bZ (by simpa using hr);cases e;rcases hor with⟨cs,rfl,hx⟩|⟨s,off,cs,rfl,hcs,hx⟩
   ·simp only[aA]at h1;obtain⟨b,o,vs,hv,ha,hrl⟩:=h1;obtain⟨u,g1,g2⟩:=nK (ns:=ns) (w:=w) hsz hag hx hrl (fun j v hj=>hi.known _ _ _ (ha j v hj));refine bU (s:=Instr.loadAt t (a.eval (.tmp tx))) (v:=u) (w':=w) rfl ?_ g2 (by simpa[eD] using hi) G.le_refl (bu.refl G w);rw[hv];simp[Instr.loadAt,Instr.sureAddr,g1]
   ·obtain⟨hmb,hx⟩:=hx;simp only[aA]at h1;obtain⟨b,hp,hv⟩:=h1;obtain⟨b',hp',hblk,_⟩:=hi.cR _ _ hcs;rw[hp]at hp';cases hp';obtain⟨_,c,ty,vs,suf,hh,_,hsp,hrel⟩:=hblk.cells hmb;obtain⟨u,g1,g2⟩:=iU (w:=w) hsz hag hx hrel (oK hh hsp);refine bU (s:=Instr.loadAt t (a.eval (.tmp tx))) (v:=u) (w':=w) rfl ?_ g2 (by simpa[eD] using hi) G.le_refl (bu.refl G w);rw[hv];simp[Instr.loadAt,Instr.sureAddr,g1]
 |bI key off sz=>
   obtain⟨t,tx,v,rfl,rfl,hsz⟩:=xn hc;obtain⟨cs,x,rfl,hcs,hl,hlf,hle,rfl⟩:=iy h;simp only[AK.key,Option.bind_some]at hcs;obtain⟨x1,x2,e,h1,h2⟩:=cW (by simpa using hr);cases e;simp only[aA]at h1;obtain⟨b,hp,hv⟩:=h1;obtain⟨b',hp',hblk,hcl⟩:=hi.cG _ _ hcs;rw[hp]at hp';cases hp';obtain⟨_,c,ty,hh,hrel⟩:=hblk;have hcells:=h2.cells hlf;have hcsz:(a.eval v).cells.size=sz:=by have:=hcells.length;simp at this;omega
   have hsize:=hrel.length;simp at hsize;have hrun:=kZ (P:=P) (w:=w) hsz hcsz hh (off:=off) (by omega) (jo hcells hlf)
   obtain⟨g1,g2⟩:=hi.GH (cells':=aR cs off (aX x)) hcs hp (c':=(c.toList.take off++(a.eval v).cells.toList++c.toList.drop (off+(a.eval v).cells.toList.length)).toArray)
     (by simpa using d_ off hrel hcells) (fo hcl hlf)
   refine⟨.skip,undef,_,G,?_,.inr ⟨rfl,rfl⟩,by simp[aA],g1,G.le_refl,g2⟩;simp[execOp,hv,Instr.storeAt,Instr.sureAddr,hrun]
 |eR sz=>
   obtain⟨t,tx,v,rfl,rfl,hsz⟩:=xp hc;obtain⟨s,off,x,cs,rfl,hcs,hmb,hl,hle,hlf,hrf,rfl⟩:=iz h;obtain⟨x1,x2,e,h1,h2⟩:=cW (by simpa using hr);cases e;simp only[aA]at h1;obtain⟨b,hp,hv⟩:=h1;obtain⟨b',hp',hblk,hcl,hcr⟩:=hi.cR _ _ hcs;rw[hp]at hp';cases hp';obtain⟨_,c,ty,vs,suf,hh,hcz,hsp,hrel⟩:=hblk.cells hmb;have hcells:=qB h2 (gf hlf);have hcsz:(a.eval v).cells.size=sz:=by have:=hcells.length;simp at this;omega
   have hsize:=hrel.length;have hcl2:c.size=vs.length+suf.length:=(by rw[←Array.length_toList,hsp,List.length_append]);have hnl:(a.eval v).cells.toList.length=sz:=(by simpa using hcsz);have hrun:=kZ (P:=P) (w:=w) hsz hcsz hh (off:=off) (by omega) (jo hcells (gf hlf))
   obtain⟨g1,g2⟩:=hi.mr (cells':=aR cs off (cE x)) hcs hp hh (c':=(c.toList.take off++(a.eval v).cells.toList++c.toList.drop (off+(a.eval v).cells.toList.length)).toArray)
     (suf:=suf) (vs:=vs.take off++(a.eval v).cells.toList++vs.drop (off+(a.eval v).cells.toList.length))
     (by rw[←hcz];simp;omega)
     (by
       show c.toList.take off++(a.eval v).cells.toList++c.toList.drop (off+(a.eval v).cells.toList.length)=_;rw[hsp,List.take_append_of_le_length (by omega),List.drop_append_of_le_length (by omega)];simp[List.append_assoc])
     (d_ off hrel hcells) (fo hcl hlf) (fo hcr hrf)
   refine⟨.skip,undef,_,G,?_,.inr ⟨rfl,rfl⟩,by simp[aA],by simpa[AK.key,ez] using g1,G.le_refl,g2⟩;simp[execOp,hv,Instr.storeAt,Instr.sureAddr,hrun]
 |kX sz=>
   obtain⟨t,tx,v,rfl,rfl,hsz⟩:=xq hc;obtain⟨s,off,x,cs,rfl,hcs,hmb,hl,hle,hlf,hrf,rfl⟩:=jU h;obtain⟨x1,x2,e,h1,h2⟩:=cW (by simpa using hr);cases e;simp only[aA]at h1;obtain⟨b,hp,hv⟩:=h1;obtain⟨b',hp',hblk,hcl,hcr⟩:=hi.cR _ _ hcs;rw[hp]at hp';cases hp';obtain⟨_,c,ty,vs,suf,hh,hcz,hsp,hrel⟩:=hblk.cells hmb;have hcells:=h2.cells (gf hlf);have hcsz:(a.eval v).cells.size=sz:=by have:=hcells.length;simp at this;omega
   have hsize:=hrel.length;have hcl2:c.size=vs.length+suf.length:=(by rw[←Array.length_toList,hsp,List.length_append]);have hnl:(a.eval v).cells.toList.length=sz:=(by simpa using hcsz);have hrun:=kZ (P:=P) (w:=w) hsz hcsz hh (off:=off) (by omega) (jo hcells (gf hlf))
   obtain⟨g1,g2⟩:=hi.mr (cells':=aR cs off (aX x)) hcs hp hh (c':=(c.toList.take off++(a.eval v).cells.toList++c.toList.drop (off+(a.eval v).cells.toList.length)).toArray)
     (suf:=suf) (vs:=vs.take off++(a.eval v).cells.toList++vs.drop (off+(a.eval v).cells.toList.length))
     (by rw[←hcz];simp;omega)
     (by
       show c.toList.take off++(a.eval v).cells.toList++c.toList.drop (off+(a.eval v).cells.toList.length)=_;rw[hsp,List.take_append_of_le_length (by omega),List.drop_append_of_le_length (by omega)];simp[List.append_assoc])
     (d_ off hrel hcells) (fo hcl hlf) (fo hcr hrf)
   refine⟨.skip,undef,_,G,?_,.inr ⟨rfl,rfl⟩,by simp[aA],by simpa[AK.key,ez] using g1,G.le_refl,g2⟩;simp[execOp,hv,Instr.storeAt,Instr.sureAddr,hrun]
 |alloc key z=>
   obtain⟨t,rfl,rfl,hz,rfl⟩:=zw hc;obtain⟨rfl,hcs,rfl⟩:=jr h;simp only[AK.key,Option.bind_some]at hcs;obtain⟨zv,hz1,hz2⟩:=gv (P:=P) (w:=w) hz;obtain⟨zr,zl⟩:=ik (G:=G) (ρ:=num ns) hz2;obtain⟨g1,g2,g3⟩:=hi.pO (c:=zv.cells) t hcs zr zl;refine bU (s:=Instr.alloc t true (.tuple #[])) (v:=.pointer (some ⟨w.heap.size,0,none⟩)) rfl ?_ ?_ g1 g2 g3
   ·simp only[Instr.alloc,Sem.run_bind,hz1,Result.andThen_ok,jq,Sem.run_pure]
   ·simp only[aA];exact⟨_,by simp[Gh.dk],rfl⟩
 |box key sz=>
   obtain⟨t,y,rfl,rfl,hsz,rfl⟩:=GN hc;obtain⟨x,rfl,hcs,hl,hlf,rfl⟩:=mu h;simp only[AK.key,Option.bind_some]at hcs;obtain⟨x',e,h1⟩:=bZ (by simpa using hr);cases e;have hcells:=h1.cells hlf;obtain⟨g1,g2,g3⟩:=hi.pO (c:=(a.eval y).cells) t hcs hcells hlf;refine bU (s:=Instr.box t (a.eval y)) (v:=.pointer (some ⟨w.heap.size,0,none⟩)) rfl ?_ ?_ g1 g2 g3
   ·simp only[Instr.box,Sem.run_bind,jq,Result.andThen_ok,Sem.run_pure]
   ·simp only[aA];exact⟨_,by simp[Gh.dk],rfl⟩
 |iH z=>
   obtain⟨t,rfl,rfl,hz⟩:=xu hc;obtain⟨rfl,rfl⟩:=jV h;obtain⟨zv,hz1,hz2⟩:=gv (P:=P) (w:=w) hz;obtain⟨zr,zl⟩:=ik (G:=G) (ρ:=num ns) hz2;obtain⟨g1,g2,g3⟩:=hi.oP (c:=zv.cells) t zr zl (GK _ z);refine bU (s:=Instr.alloc t true (.tuple #[])) (v:=.pointer (some ⟨w.heap.size,0,none⟩)) rfl ?_ ?_ g1 g2 g3
   ·simp only[Instr.alloc,Sem.run_bind,hz1,Result.andThen_ok,jq,Sem.run_pure]
   ·simp only[aA];exact⟨(w.heap.size,zv.cells.size),by simp[Gh.cM],rfl⟩
 |re sz=>
   obtain⟨t,y,rfl,rfl,hsz⟩:=Cl hc;obtain⟨x,rfl,hl,hlf,hrf,rfl⟩:=m5 h;obtain⟨x',e,h1⟩:=bZ (by simpa using hr);cases e;have hcells:=qB h1 (gf hlf);obtain⟨g1,g2,g3⟩:=hi.oP (c:=(a.eval y).cells) t hcells hlf (iX (Nat.le_succ _) hrf);refine bU (s:=Instr.box t (a.eval y)) (v:=.pointer (some ⟨w.heap.size,0,none⟩)) rfl ?_ ?_ g1 g2 g3
   ·simp only[Instr.box,Sem.run_bind,jq,Result.andThen_ok,Sem.run_pure]
   ·simp only[aA];exact⟨(w.heap.size,(a.eval y).cells.size),by simp[Gh.cM],rfl⟩
 |su sz=>
   obtain⟨t,y,rfl,rfl,hsz⟩:=Cm hc;obtain⟨x,rfl,hl,hlf,hrf,rfl⟩:=m6 h;obtain⟨x',e,h1⟩:=bZ (by simpa using hr);cases e;have hcells:=h1.cells (gf hlf);obtain⟨g1,g2,g3⟩:=hi.oP (c:=(a.eval y).cells) t hcells hlf (iX (Nat.le_succ _) hrf);refine bU (s:=Instr.box t (a.eval y)) (v:=.pointer (some ⟨w.heap.size,0,none⟩)) rfl ?_ ?_ g1 g2 g3
   ·simp only[Instr.box,Sem.run_bind,jq,Result.andThen_ok,Sem.run_pure]
   ·simp only[aA];exact⟨(w.heap.size,(a.eval y).cells.size),by simp[Gh.cM],rfl⟩
 |jb sz by_ ag z=>
   obtain⟨t,e,l,c,rfl,rfl,hu,hsz,hby,hz,hzl,h0⟩:=zx hc;obtain⟨k,k',n,rfl,h1,h2,h3,_,rfl⟩:=lg h;obtain⟨x1,x2,e',r1,r2⟩:=cW (by simpa using hr);cases e';obtain⟨v,w',G',g1,g2,g3,g4,g5⟩:=zm (k:=k) (k':=k') (ag:=ag) hu hsz hby hz hzl h0 h1 h2 h3 hi;refine bU (s:=Instr.makeSlice t (a.eval l) (a.eval c)) rfl ?_ g2 g3 g4 g5;rw[jT r1,jT r2];exact g1
 |iq d sz by_ z=>
   obtain⟨t,e,l,c,rfl,rfl,hu,hsz,hby,hz,hzl,h0,rfl⟩:=zy hc;obtain⟨k,k',n,rfl,h1,h2,h3,_,hcs,rfl⟩:=js h;simp only[AK.key,Option.bind_some]at hcs;obtain⟨x1,x2,e',r1,r2⟩:=cW (by simpa using hr);cases e';obtain⟨v,w',G',g1,g2,g3,g4,g5⟩:=zn (k:=k) (k':=k') hu hsz hby hz hzl h0 h1 h2 h3 hi hcs;refine bU (s:=Instr.makeSlice t (a.eval l) (a.eval c)) rfl ?_ g2 g3 g4 g5;rw[jT r1,jT r2];exact g1
 |append sz by_=>
   obtain⟨c,rfl⟩:=xv hc;obtain⟨x,y,t,e,t1,e1,z,hcal,hargs,rfl,h0,h1,hu,hu1,hsz,hby,hz,hzl,hs0,hb0⟩:=Ci hc;obtain⟨s,x',y',ts,rfl,happ,rfl⟩:=jW h;obtain⟨x1,x2,e',r1,r2⟩:=cW (by simpa using hr);cases e';obtain⟨v,w',G',g1,g2,g3,g4,g5⟩:=xh (type:=type) h0 h1 hu hu1 hsz hby hz hzl hb0 r1 r2 hi happ;refine bU (s:=Builtin.append_ c.argTypes type #[a.eval x,a.eval y]) ?_ g1 g2 g3 g4 g5;obtain⟨callee,cargs,ctypes⟩:=c;simp only at hcal hargs;subst hcal;subst hargs;simp[execOp,resolve,invoke,builtin]
 |dQ sz by_ ag=>
   obtain⟨c,rfl⟩:=uV hc;obtain⟨x,y,t,e,t1,e1,z,hcal,hargs,rfl,h0,h1,hu,hu1,hsz,hby,hz,hzl,hs0,hb0⟩:=zk hc;obtain⟨s,x',xs,y',sh',rfl,hxs,hhx,happ,rfl⟩:=lp h;obtain⟨x1,x2,e',r1,r2⟩:=cW (by simpa using hr);cases e';obtain⟨v,w',G',g1,g2,g3,g4,g5⟩:=uT (type:=type) h0 h1 hu hu1 hsz hby hz hzl hb0 r1 r2 hi hxs hhx happ;refine bU (s:=Builtin.append_ c.argTypes type #[a.eval x,a.eval y]) ?_ g1 g2 g3 g4 g5;obtain⟨callee,cargs,ctypes⟩:=c;simp only at hcal hargs;subst hcal;subst hargs;simp[execOp,resolve,invoke,builtin]
 |ga sz by_=>
   obtain⟨c,rfl⟩:=uW hc;obtain⟨x,y,u,t,e,t1,e1,z,hcal,hargs,rfl,h0,h1,hu,hu1,hsz,hby,hz,hzl,hsz0,hb0⟩:=zs hc;obtain⟨s,x',e',xs,p,rfl,hxs,hdp,rfl⟩:=iY h;obtain⟨x1,x2,x3,e'',r1,r2,r3⟩:=mq (by simpa using hr);cases e'';obtain⟨v,w',G',g1,g2,g3,g4,g5⟩:=uU (type:=type) h0 h1 hu hu1 hsz hby hz hzl hb0 r1 r2 r3 hi hxs hdp;refine bU (s:=Builtin.append_ c.argTypes type #[a.eval x,a.eval y]) ?_ g1 g2 g3 g4 g5;obtain⟨callee,cargs,ctypes⟩:=c;simp only at hcal hargs;subst hcal;subst hargs;simp[execOp,resolve,invoke,builtin]
 |lS sz=>
   obtain⟨c,rfl⟩:=zA hc;obtain⟨x,y,t,e,t1,e1,hcal,hargs,rfl,h0,h1,hu,hu1,hsz⟩:=GM hc;obtain⟨x',y',xs,k,sh',rfl,hxs,hcp,rfl⟩:=lj h;obtain⟨x1,x2,e',r1,r2⟩:=cW (by simpa using hr);cases e';obtain⟨w',g1,g2,g3⟩:=zp (type:=type) h0 hu hsz r1 r2 hi hxs hcp;refine bU (s:=Builtin.copy_ c.argTypes type #[a.eval x,a.eval y]) (v:=.int .i64 k) ?_ g1 (by simp only[aA];exact fm.2 rfl) g2 G.le_refl g3;obtain⟨callee,cargs,ctypes⟩:=c;simp only at hcal hargs;subst hcal;subst hargs;simp[execOp,resolve,invoke,builtin]
 |jd sz z=>
   obtain⟨c,rfl⟩:=xy hc;obtain⟨x,t,e,hcal,hargs,rfl,h0,hu,hsz,hz,hzl,hs0⟩:=Ck hc;obtain⟨x',sh',rfl,hcl,rfl⟩:=qA h;obtain⟨x1,e',r1⟩:=bZ (by simpa using hr);cases e';obtain⟨w',g1,g2,g3⟩:=xm (type:=type) h0 hu hz hzl hs0 r1 hi hcl;refine bU (s:=Builtin.clear_ c.argTypes type #[a.eval x]) (v:=.tuple #[]) ?_ g1 (by simp only[aA];exact⟨[],rfl,by simp[az]⟩) g2 G.le_refl g3;obtain⟨callee,cargs,ctypes⟩:=c;simp only at hcal hargs;subst hcal;subst hargs;simp[execOp,resolve,invoke,builtin]
end
end Go.Ab
namespace Go.Ab
section
variable {P:Program} {ns:Names} {G:Gh} {w:World}
def RO(K:bm)(w:World):Prop:=∀b o v,K b o=some v→w.cell? ⟨b,o,none⟩=some v
def Oa(p:Nat→Option (Array Value))(w:World):Prop:=∀b c,p b=some c→∃t z,w.heap[b]?=some (.cells c t z)
def jv(K:bm)(rs:List PV)(v:Value):Prop:=
 match rs with
 |[r]=>Rel K r v
 |rs=>∃vs:List Value,v=.tuple vs.toArray∧jL K rs vs
def da(ρ:bK)(G:Gh)(rs:List AV)(v:Value):Prop:=
 match rs with
 |[r]=>aA ρ G r v
 |rs=>∃vs:List Value,v=.tuple vs.toArray∧az ρ G rs vs
def zF(P:Program)(ns:Names)(f:FuncId)(cz rs:List PV):Prop:=
 ∀(K:bm) (w:World) (vs:List Value),Oa ns.l5 w→RO K w→jL K cz vs →
   Calls P f vs.toArray w fun e w'=>∃v K',e=.returned v∧jv K' rs v∧K.le K'∧(∀b o u,b<w.heap.size→K' b o=some u→K b o=some u)∧RO K' w'∧RowKit.Below w.heap.size w w'
def Wk(P:Program)(ns:Names)(f:FuncId)(args:List AV)(ts:aG)(rs:List AV)(sh sh':Sh)(ts':aG):Prop:=
 ∀(G:Gh) (w:World) (vs:List Value),Inv (num ns) G w [] sh ts→az (num ns) G args vs →
   Calls P f vs.toArray w fun e w'=>∃v G',e=.returned v∧da (num ns) G' rs v∧Inv (num ns) G' w' [] sh' ts'∧bu G w G' w'
def Km(P:Program)(ns:Names)(f sz bytes:Nat):Prop:=
 ∀(o:Option Bool) (G:Gh) (w:World) (mem:List (Nat×List AV)) (sh sh':Sh) (aa toks':aG) (x y:AV) (v:Value),Inv (num ns) G w mem sh aa→aA (num ns) G x v→fF o sz bytes x sh aa=some (y,sh',toks') →
   Calls P f #[v] w fun e w'=>∃u G',e=.returned u∧aA (num ns) G' y u∧Inv (num ns) G' w' mem sh' toks'∧G.le G'∧bu G w G' w'
structure iA(P:Program)(ns:Names)(orc:eH):Prop where
 p:∀g f cz rs,ns.of f=some g→orc.p g cz=some rs→zF P ns f cz rs
 i:∀g f args ts rs sh sh' ts',ns.of f=some g→args.all bE=true→orc.i g args sh ts=some (rs,sh',ts')→Wk P ns f args ts rs sh sh' ts'∧rs.all bE=true
 c:∀g sz bytes f,look ns.cl g=some (sz,bytes)→ns.of f=some g→Km P ns f sz bytes
def gJ (P:Program) (ns:Names):Prop:=∀f g,ns.of f=some g→∃fn b,P.funcs[f]?=some fn∧fn.body=some b∧fn.name ≠ "runtime.NumGoroutine"
theorem lq{f:FuncId}{g:Nat}(hB:gJ P ns)(hf:ns.of f=some g)(args:Array Value):(callFunc f args).run P w=.ok (.enter f args) w:=by
 obtain⟨fn,b,h1,h2,h3⟩:=hB f g hf;simp[callFunc,h1,h2,h3]
mutual
theorem m8{ρ:bK}{G':Gh}(hK:G.K.le G'.K)(hs:∀s b,G.sm s=some b→G'.sm s=some b):∀{x:AV} {v:Value},bM x=true→aA ρ G x v→aA ρ G' x v
 | .pv p,_,_,h=>by simp only[aA]at h⊢;exact h.mono hK
 | .aM s o,_,_,h=>by simp only[aA]at h⊢;obtain⟨b,e,r⟩:=h;exact⟨b,hs _ _ e,r⟩
 | .aT s _ n _,_,_,h=>by simp only[aA]at h⊢;obtain⟨b,c,e,r⟩:=h;exact⟨b,c,hs _ _ e,r⟩
 | .fw,_,_,h=>by simpa only[aA] using h
 | .fR s,_,_,h=>by simp only[aA]at h⊢;obtain⟨b,e,r⟩:=h;exact⟨b,hs _ _ e,r⟩
 | .rb ..,_,hp,_=>by simp[bM]at hp
 | .dB _,_,_,h=>by simp only[aA]at h
 | .fn g cap,_,hp,h=>by
   simp only[bM]at hp;simp only[aA]at h⊢;obtain⟨f,vs,e1,e2,r⟩:=h;exact⟨f,vs,e1,e2,pR hK hs hp r⟩
 | .un,_,hp,_=>by simp[bM]at hp
 | .cY _,_,_,h=>by simp only[aA]at h⊢;obtain⟨b,l,e,r⟩:=h;exact⟨b,l,e,r.mono hK⟩
 | .own _ _,_,hp,_=>by simp[bM]at hp
 | .agg _,_,hp,h=>by
   simp only[bM]at hp;simp only[aA]at h⊢;obtain⟨vs,e,r⟩:=h;exact⟨vs,e,pR hK hs hp r⟩
 | .pJ _,_,hp,_=>by simp[bM]at hp
 | .au _ _,_,hp,_=>by simp[bM]at hp
 | .dM _,_,hp,_=>by simp[bM]at hp
theorem pR{ρ:bK}{G':Gh}(hK:G.K.le G'.K)(hs:∀s b,G.sm s=some b→G'.sm s=some b):∀{xs:List AV} {vs:List Value},bM.iu xs=true→az ρ G xs vs→az ρ G' xs vs
 |[],_,_,h=>by simpa only[az] using h
 |x::xs,_,hp,h=>by
   simp only[bM.iu,Bool.and_eq_true]at hp;simp only[az]at h⊢;obtain⟨v,r,e,e1,e2⟩:=h;exact⟨v,r,e,m8 hK hs hp.1 e1,pR hK hs hp.2 e2⟩
end
theorem Inv.pure{K':bm}{w1:World}{mem:List (Nat×List AV)}{sh:Sh}{aa:aG}(hi:Inv (num ns) G w mem sh aa)(hK:G.K.le K')(hold:∀b o u,b<w.heap.size→K' b o=some u→G.K b o=some u)
   (hk:RO K' w1) (hb:RowKit.Below w.heap.size w w1):Inv (num ns) { G with K:=K' } w1 mem sh aa∧G.le { G with K:=K' }∧bu G w { G with K:=K' } w1:=by
 have hle:G.le { G with K:=K' }:=⟨hK,fun _ _ h=>h,fun _ _ h=>h,fun _ t h=>⟨t,h,⟨Nat.le_refl _,t.gD⟩,fun _=>rfl⟩⟩
 have hevo:bu G w { G with K:=K' } w1:={
           size:=hb.size,os:=hb.os,tape:=hb.tape,output:=hb.output,K:=hK,sm:=fun _ _ h=>h,
           dH:=fun b h hr=>⟨hr,hb.block b h⟩,iK:=fun b τ _ hr=>.inr ⟨τ,hr⟩,gF:=fun b o v h _ hkk=>hold b o v h hkk }
 refine⟨⟨hk,?_,?_,?_,hi.gE,?_,hi.eo,?_,hi.eI,hi.hU hevo⟩,hle,hevo⟩
 · intro b o v hkk;by_cases h:b<w.heap.size
   ·exact hi.bh b o v (hold b o v h hkk)
   ·exact .inl (hi.fresh b (by omega))
 ·intro b h;have:=hb.size;exact hi.fresh b (by omega)
 · intro d cs hd;obtain⟨b,e1,e2,e3⟩:=hi.cG d cs hd;have hlt:b<w.heap.size:=by obtain⟨_,_,_,hh,_⟩:=e2;exact cB hh
   exact⟨b,e1,e2.mono hle rfl (hb.block b hlt),e3⟩
 ·intro s cs hs;obtain⟨b,e1,e2,e3⟩:=hi.cR s cs hs;have hlt:b.1<w.heap.size:=e2.lt;exact⟨b,e1,e2.mono hle rfl (hb.block b.1 hlt),e3⟩
 ·intro τ n hn;obtain⟨t,e1,e2,e3⟩:=hi.cT τ n hn;refine⟨t,e1,e2,e3.cap,e3.zero,fun hlt=>?_⟩;obtain⟨b,o,c,ty,f1,f2,f3,f4,f5⟩:=e3.spare hlt;have hlt':=cB f3;exact⟨b,o,c,ty,f1,f2,(hb.block b hlt').trans f3,f4,fun j v hkk=>f5 j v (hold b j v hlt' hkk)⟩
end
end Go.Ab
namespace Go.Ab
section
variable {P:Program} {ns:Names} {G:Gh} {w:World}
def Gh.freeze(G:Gh)(b:Nat)(c:Array Value):Gh:=
 { G with K:=fun k o=>if k=b then c[o]? else G.K k o,role:=fun k=>if k=b then .dH else G.role k }
theorem Inv.freeze{mem:List (Nat×List AV)}{sh:Sh}{aa:aG}(hi:Inv (num ns) G w mem sh aa){s b:Nat}{cells:List AV}{c:Array Value}{t:TypeId}
   (hr:G.role b=.shr s) (hh:w.heap[b]?=some (.cells c t (0,0))) :
   Inv (num ns) (G.freeze b c) w mem (sh.set s none) aa∧G.le (G.freeze b c)∧bu G w (G.freeze b c) w:=by
 have hK:G.K.le (G.freeze b c).K:=fun k o v hk=>by
   simp only[Gh.freeze];rw[if_neg]
   ·exact hk
   · rintro rfl
     rcases hi.bh _ _ _ hk with h|⟨τ,h⟩<;>rw[hr]at h<;>simp at h
 have hle:G.le (G.freeze b c):=⟨hK,fun _ _ h=>h,fun _ _ h=>h,fun _ t h=>⟨t,h,⟨Nat.le_refl _,t.gD⟩,fun _=>rfl⟩⟩
 have hrole:∀k r,G.role k=r→r≠.shr s→(G.freeze b c).role k=r:=by
   intro k r hk hn;simp only[Gh.freeze];rw[if_neg]
   ·exact hk
   ·rintro rfl;exact hn (hk.symm.trans hr)
 have hevo:bu G w (G.freeze b c) w:={
           size:=Nat.le_refl _,os:=rfl,tape:=rfl,output:=rfl,K:=hK,sm:=fun _ _ h=>h,
           dH:=fun k _ hk=>⟨hrole k _ hk (by simp),rfl⟩
           iK:=fun k τ _ hk=>.inr ⟨τ,hrole k _ hk (by simp)⟩
           gF:=fun k o v _ hk hkk=>by
             simp only[Gh.freeze]at hkk
             rwa [if_neg (by rintro rfl;rw[hr]at hk;simp at hk)]at hkk }
 refine⟨⟨?_,?_,?_,?_,hi.gE,?_,?_,?_,hi.eI,hi.hU hevo⟩,hle,hevo⟩
 · intro k o v hk;simp only[Gh.freeze]at hk;split at hk
   ·rename_i e;subst e;simp[World.cell?,hh,hk]
   ·exact hi.known k o v hk
 · intro k o v hk;simp only[Gh.freeze]at hk;split at hk
   ·rename_i e;subst e;left;simp[Gh.freeze]
   ·rename_i e;simp only[Gh.freeze,if_neg e];exact hi.bh k o v hk
 · intro k hk;simp only[Gh.freeze];split
   ·rfl
   ·exact hi.fresh k hk
 ·intro d cs hd;obtain⟨b',e1,e2,e3⟩:=hi.cG d cs hd;exact⟨b',e1,e2.mono hle ((hrole b' _ e2.role (by simp)).trans e2.role.symm) rfl,e3⟩
 · intro s' cs hs';rw[List.getElem?_set]at hs';split at hs'
   ·split at hs'<;>simp at hs'
   ·rename_i hne;obtain⟨b',e1,e2,e3⟩:=hi.cR s' cs hs';exact⟨b',e1,e2.mono hle ((hrole b'.1 _ e2.role (by simp;exact fun h=>hne h.symm)).trans e2.role.symm) rfl,e3⟩
 ·intro s' b' h;simpa using hi.eo s' b' h
 · intro τ n hn;obtain⟨tk,e1,e2,e3⟩:=hi.cT τ n hn;refine⟨tk,e1,e2,e3.cap,e3.zero,fun hlt=>?_⟩;obtain⟨b',o,cc,ty,f1,f2,f3,f4,f5⟩:=e3.spare hlt;refine⟨b',o,cc,ty,f1,hrole b' _ f2 (by simp),f3,f4,fun j v hk=>f5 j v ?_⟩;simp only[Gh.freeze]at hk
   rwa [if_neg (by rintro rfl;rw[hr]at f2;simp at f2)]at hk
def ia(ns:Names)(G G':Gh)(sh:Sh)(ks:List Nat):Prop:=
 ∀s∈ks,∀cells,sh[s]?=some (some cells)→bY cells=false→∃b vs,G.sm s=some b∧At G'.K b.1 0 vs∧az (num ns) G' cells vs
theorem zG{sh:Sh}{s:Nat}(h:∀cells,sh[s]?≠some (some cells)):sh.set s none=sh:=by
 apply List.ext_getElem?
 intro j;rw[List.getElem?_set];split
 · rename_i e;subst e;split
   · rename_i hlt;cases hh:sh[s] with
     |none=>rw[List.getElem?_eq_getElem hlt,hh]
     |some cells=>exact absurd (by rw[List.getElem?_eq_getElem hlt,hh]) (h cells)
   ·rename_i hge;rw[List.getElem?_eq_none (by omega)]
 ·rfl
theorem Inv.drop{mem:List (Nat×List AV)}{sh:Sh}{aa:aG}{G:Gh}(hi:Inv (num ns) G w mem sh aa)(s:Nat):Inv (num ns) G w mem (sh.set s none) aa:=
 { hi with
   cR:=fun s' cells hs=>by
     rw[List.getElem?_set]at hs;split at hs
     ·split at hs<;>simp at hs
     ·exact hi.cR s' cells hs
   eo:=fun s' b h=>by simpa using hi.eo s' b h }
theorem Inv.kill{mem:List (Nat×List AV)}{aa:aG}:∀(ks:List Nat) {sh:Sh} {G:Gh},Inv (num ns) G w mem sh aa →
   ∃G',Inv (num ns) G' w mem (kill sh ks) aa∧G.le G'∧bu G w G' w∧ia ns G G' sh ks∧G'.sm=G.sm
 |[],sh,G,hi=>⟨G,hi,G.le_refl,bu.refl G w,fun s h=>by simp at h,rfl⟩
 |s::ks,sh,G,hi=>by
   have hk:Go.Ab.kill sh (s::ks)=Go.Ab.kill (sh.set s none) ks:=rfl;by_cases hs:∃cells,sh[s]?=some (some cells)
   · obtain⟨cells,hs⟩:=hs;obtain⟨b,e1,e2,_⟩:=hi.cR s cells hs;cases hmb:bY cells with
     |true=>
       obtain⟨G',h1,h2,h3,h4,h5⟩:=Inv.kill ks (hi.drop s);refine⟨G',by rw[hk];exact h1,h2,h3,?_,h5⟩;intro s' hs' cells' hc' hm';by_cases he:s'=s
       ·subst he;rw[hs]at hc';cases hc';rw[hmb]at hm';cases hm'
       ·simp only[List.mem_cons]at hs';exact h4 s' (hs'.resolve_left he) cells' (by rw[List.getElem?_set,if_neg (fun e=>he e.symm)];exact hc') hm'
     |false=>
     obtain⟨hr,c,t,vs,suf,hh,_,hsp,hrel⟩:=e2.cells hmb;obtain⟨g1,g2,g3⟩:=hi.freeze (cells:=cells) hr hh;obtain⟨G',h1,h2,h3,h4,h5⟩:=Inv.kill ks g1;refine⟨G',by rw[hk];exact h1,Gh.le_trans g2 h2,g3.trans h3,?_,h5⟩;intro s' hs' cells' hc' hm';by_cases he:s'=s
     · subst he;rw[hs]at hc';cases hc';refine⟨b,vs,e1,?_,az.mono (Gh.le_trans g2 h2) hrel⟩;intro j v hj;apply h2.K;simp only[Gh.freeze,if_true,Nat.zero_add];have:c.toList[j]?=some v:=by rw[hsp,List.getElem?_append_left (List.getElem?_eq_some_iff.1 hj).1];exact hj
       simpa using this
     ·simp only[List.mem_cons]at hs';have:=h4 s' (hs'.resolve_left he) cells' (by rw[List.getElem?_set,if_neg (fun e=>he e.symm)];exact hc') hm';exact this
   · have hset:=zG (sh:=sh) (s:=s) (fun cells h=>hs ⟨cells,h⟩);obtain⟨G',h1,h2,h3,h4,h5⟩:=Inv.kill ks hi;refine⟨G',by rw[hk,hset];exact h1,h2,h3,?_,h5⟩;intro s' hs' cells' hc' hm';simp only[List.mem_cons]at hs';rcases hs' with rfl|hs'
     ·exact absurd ⟨cells',hc'⟩ hs
     ·exact h4 s' hs' cells' hc' hm'
theorem GO{cs:List AV}{ps:List PV}(h:fC cs=some ps):bY cs=false:=by
 cases cs with
 |nil=>rfl
 |cons c cs=>cases c<;>first|rfl|simp[fC,me]at h
theorem zH:∀{cs:List AV} {ps:List PV} {vs:List Value},fC cs=some ps→cs.all a0=true→az (num ns) G cs vs→dd G.K ps vs
 |[],ps,vs,h,_,hr=>by simp[fC]at h;subst h;simp only[az]at hr;simp[dd,hr]
 |c::cs,ps,vs,h,hl,hr=>by
   simp only[fC]at h;simp only[List.all_cons,Bool.and_eq_true]at hl;split at h
   ·rename_i p ps' h1 h2;simp at h;subst h;simp only[az]at hr;obtain⟨v,r,rfl,e1,e2⟩:=hr;simp only[dd];exact⟨v,r,rfl,(oL h1 e1).Kf (pN h1 hl.1),zH h2 hl.2 e2⟩
   ·simp at h
theorem vM{K:bm}{b sz:Nat}:∀(n:Nat) {ps:List PV} {vs:List Value} {o:Nat},dd K ps vs→ps.length=n*sz→At K b o vs→Row K b o sz ((chunk sz n ps).map .agg)
 |0,_,_,_,_,_,_=>by simp only[chunk,List.map_nil,Row]
 |n+1,ps,vs,o,hr,hl,ha=>by
   have hlv:=hr.length;rw[Nat.add_mul]at hl;simp only[chunk,List.map_cons,Row];refine⟨⟨vs.take sz,by simp;omega,?_,?_⟩,vM n (dd.drop sz hr) (by simp;omega) ?_⟩
   · intro j v hj;rw[List.getElem?_take]at hj;split at hj
     ·exact ha j v hj
     ·simp at hj
   ·simp only[R];exact⟨trivial,dd.take sz hr⟩
   · intro j v hj;rw[List.getElem?_drop]at hj;have:=ha _ v hj
     rwa [←Nat.add_assoc]at this
theorem oR{sz:Nat}:∀(n:Nat) (ps:List PV),(chunk sz n ps).length=n
 |0,_=>rfl
 |n+1,ps=>by simp[chunk,oR n]
theorem sT{K:bm}{b:Nat}:∀{ps:List PV} {vs:List Value} {o:Nat},dd K ps vs→At K b o vs→Row K b o 1 ps
 |[],_,_,_,_=>by simp only[Row]
 |p::ps,vs,o,hr,ha=>by
   simp only[dd]at hr;obtain⟨v,r,rfl,e1,e2⟩:=hr;simp only[Row];refine⟨⟨[v],rfl,?_,R.top e1⟩,sT e2 ?_⟩
   · intro j u hj;cases j with
     |zero=>simp at hj;subst hj;exact ha 0 v rfl
     |succ j=>simp at hj
   · intro j u hj;have:=ha (j+1) u (by simpa using hj)
     rwa [show o+(j+1)=o+1+j from by omega]at this
theorem Ko{l:List AV}(n:Nat)(h:l.all a0=true):(l.take n).all a0=true:=by
 rw[List.all_eq_true]at h⊢;exact fun x hx=>h x (List.mem_of_mem_take hx)
theorem oS{G':Gh}{sh:Sh}{ks:List Nat}{x:AV}{p:PV}{v:Value}(hle:G.le G')(hf:ia ns G G' sh ks)(hl:∀(s:Nat) (cells:List AV),sh[s]?=some (some cells)→cells.all a0=true)
   (ha:∀s∈ei x,s∈ks) (hx:∀cs,x≠.agg cs) (h:dR sh x=some p) (hr:aA (num ns) G x v):Rel G'.K p v:=by
 cases x with
 |aT s sz n ag=>
   simp only[dR]at h;split at h
   · rename_i cells hc
     have key:∀ps els,fC (cells.take (n*sz))=some ps→bY cells=false→n*sz≤cells.length→fD sz ag n ps=some els→Rel G'.K (.aw els) v:=by
       intro ps els h1 hmb hlen h2;obtain⟨b,vs,e1,e2,e3⟩:=hf s (ha s (by simp[ei])) cells hc hmb;simp only[aA]at hr;obtain⟨b',cap,hb,rfl,_⟩:=hr;rw[e1]at hb;cases hb;have e3':az (num ns) G' (cells.take (n*sz)) (vs.take (n*sz)):=e3.take _
       have e2':At G'.K b.1 0 (vs.take (n*sz)):=by
         intro j u hj;rw[List.getElem?_take]at hj;split at hj
         ·exact e2 j u hj
         ·simp at hj
       have hps:=zH h1 (Ko _ (hl s cells hc)) e3';have hpl:ps.length=n*sz:=(by rw[←hps.length,e3'.length,List.length_take];omega);unfold fD at h2;split at h2
       ·simp at h2;subst h2;refine bP.2 ⟨_,_,_,rfl,by omega,by simp[oR],.inr ⟨b.1,0,sz,rfl,vM n hps hpl e2'⟩⟩
       ·simp only[Option.ite_none_right_eq_some,Option.some.injEq]at h2;obtain⟨rfl,rfl⟩:=h2;exact bP.2 ⟨_,_,_,rfl,by omega,by omega,.inr ⟨b.1,0,1,rfl,sT hps e2'⟩⟩
     split at h
     ·rename_i hlen;simp only[Option.map_eq_some_iff,Option.bind_eq_some_iff]at h;obtain⟨els,⟨ps,h1,h2⟩,rfl⟩:=h;exact key ps els (by rw[List.take_of_length_le (by omega)];exact h1) (GO h1) (by omega) h2
     ·simp only[Option.ite_none_right_eq_some,Option.map_eq_some_iff,Option.bind_eq_some_iff]at h;obtain⟨⟨hmb,hlen⟩,els,⟨ps,h1,h2⟩,rfl⟩:=h;exact key ps els h1 hmb hlen h2
   ·simp at h
 |agg cs=>exact absurd rfl (hx cs)
 |_=>simp only[dR]at h;exact (oL h hr).mono hle.K
theorem uX{sh:Sh}{x:AV}{p:PV}(h:dR sh x=some p)(hl:a0 x=true):gW p=true:=by
 cases x with
 |aT s sz n ag=>
   simp only[dR]at h;split at h
   · split at h
     ·simp only[Option.map_eq_some_iff]at h;obtain⟨els,_,rfl⟩:=h;rfl
     ·simp only[Option.ite_none_right_eq_some,Option.map_eq_some_iff]at h;obtain⟨_,els,_,rfl⟩:=h;rfl
   ·simp at h
 |_=>simp only[dR]at h;exact pN h hl
theorem xz{x:AV}(h:a0 x=true):∀cs,x≠.agg cs:=by
 rintro cs rfl;simp[a0]at h
theorem lr{G':Gh}{sh:Sh}{ks:List Nat}(hle:G.le G')(hf:ia ns G G' sh ks)(hl:∀(s:Nat) (cells:List AV),sh[s]?=some (some cells)→cells.all a0=true) :
   ∀{cs:List AV} {ps:List PV} {vs:List Value},(∀s∈ei (.agg cs),s∈ks)→dF sh cs=some ps→az (num ns) G cs vs→dd G'.K ps vs
 |[],ps,vs,_,h,hr=>by simp[dF]at h;subst h;simp only[az]at hr;simp[dd,hr]
 |c::cs,ps,vs,ha,h,hr=>by
   simp only[dF,Option.ite_none_right_eq_some]at h;obtain⟨hlf,h⟩:=h;split at h
   · rename_i p ps' h1 h2;simp at h;subst h;simp only[az]at hr;obtain⟨v,r,rfl,e1,e2⟩:=hr;simp only[dd];refine⟨v,r,rfl,(oS hle hf hl ?_ (xz hlf) h1 e1).Kf (uX h1 hlf),lr hle hf hl ?_ h2 e2⟩
     ·intro s hs;refine ha s ?_;simp only[ei,List.flatMap_cons,List.mem_append];left;cases c<;>simp_all[ei,a0]
     ·intro s hs;refine ha s ?_;simp only[ei,List.flatMap_cons,List.mem_append]at hs⊢;exact .inr hs
   ·simp at h
theorem sU{G':Gh}{sh:Sh}{ks:List Nat}(hle:G.le G')(hf:ia ns G G' sh ks)(hl:∀(s:Nat) (cells:List AV),sh[s]?=some (some cells)→cells.all a0=true)
   {x:AV} {p:PV} {v:Value} (ha:∀s∈ei x,s∈ks) (h:bR sh x=some p) (hr:aA (num ns) G x v):Rel G'.K p v:=by
 by_cases hx:∃cs,x=.agg cs
 ·obtain⟨cs,rfl⟩:=hx;simp only[bR,Option.map_eq_some_iff]at h;obtain⟨ps,h1,rfl⟩:=h;simp only[aA]at hr;obtain⟨vs,rfl,hr⟩:=hr;simp only[Rel];exact⟨vs,rfl,lr hle hf hl ha h1 hr⟩
 · have hx':∀cs,x≠.agg cs:=fun cs e=>hx ⟨cs,e⟩;have:bR sh x=dR sh x:=by cases x<;>first|rfl|exact absurd rfl (hx' _)
   rw[this]at h;exact oS hle hf hl ha hx' h hr
theorem qD{G':Gh}{sh:Sh}{ks:List Nat}(hle:G.le G')(hf:ia ns G G' sh ks)(hl:∀(s:Nat) (cells:List AV),sh[s]?=some (some cells)→cells.all a0=true) :
   ∀{xs:List AV} {ps:List PV} {vs:List Value},(∀s∈xs.flatMap ei,s∈ks)→cU sh xs=some ps→az (num ns) G xs vs→jL G'.K ps vs
 |[],ps,vs,_,h,hr=>by simp[cU]at h;subst h;simp only[az]at hr;exact hr
 |c::cs,ps,vs,ha,h,hr=>by
   simp only[cU]at h;split at h
   ·rename_i p ps' h1 h2;simp at h;subst h;simp only[az]at hr;obtain⟨v,r,rfl,e1,e2⟩:=hr;simp only[List.flatMap_cons,List.mem_append]at ha;exact⟨v,r,rfl,sU hle hf hl (fun s hs=>ha s (.inl hs)) h1 e1,qD hle hf hl (fun s hs=>ha s (.inr hs)) h2 e2⟩
   ·simp at h
theorem Inv.sV{mem:List (Nat×List AV)}{sh:Sh}{aa:aG}(hi:Inv (num ns) G w mem sh aa):∀(s:Nat) (cells:List AV),sh[s]?=some (some cells)→cells.all a0=true:=by
 intro s cells hs;obtain⟨b,_,_,e3,_⟩:=hi.cR s cells hs;exact gf e3
end
end Go.Ab
namespace Go.Ab
section
variable {ns:Names} {G:Gh} {w:World}
mutual
theorem gw{ρ:bK}{G':Gh}(hK:G.K.le G'.K)(hs:∀s b,G.sm s=some b→G'.sm s=some b):∀{x:AV} {v:Value},bD x=true→aA ρ G x v→aA ρ G' x v
 | .pv p,_,_,h=>by simp only[aA]at h⊢;exact h.mono hK
 | .un,_,_,h=>by simpa only[aA] using h
 | .cY _,_,_,h=>by simp only[aA]at h⊢;obtain⟨b,l,e,r⟩:=h;exact⟨b,l,e,r.mono hK⟩
 | .aM s o,_,_,h=>by simp only[aA]at h⊢;obtain⟨b,e,r⟩:=h;exact⟨b,hs _ _ e,r⟩
 | .aT s _ n _,_,_,h=>by simp only[aA]at h⊢;obtain⟨b,c,e,r⟩:=h;exact⟨b,c,hs _ _ e,r⟩
 | .dM _,_,_,h=>by simp only[aA]at h⊢;obtain⟨b,o,vs,e,f,r⟩:=h;exact⟨b,o,vs,e,f.mono hK,dd.mono hK _ _ r⟩
 | .fw,_,_,h=>by simpa only[aA] using h
 | .fR s,_,_,h=>by simp only[aA]at h⊢;obtain⟨b,e,r⟩:=h;exact⟨b,hs _ _ e,r⟩
 | .rb s _ _,_,_,h=>by simp only[aA]at h⊢;obtain⟨b,x,c,e,r⟩:=h;exact⟨b,x,c,hs _ _ e,r⟩
 | .dB _,_,_,h=>by simp only[aA]at h
 | .fn g cap,_,hp,h=>by
   simp only[bD]at hp;simp only[aA]at h⊢;obtain⟨f,vs,e1,e2,r⟩:=h;exact⟨f,vs,e1,e2,m9 hK hs hp r⟩
 | .agg cs,_,hp,h=>by
   simp only[bD]at hp;simp only[aA]at h⊢;obtain⟨vs,e,r⟩:=h;exact⟨vs,e,m9 hK hs hp r⟩
 | .pJ cs,_,hp,h=>by
   simp only[bD]at hp;simp only[aA]at h⊢;obtain⟨vs,e,r⟩:=h;exact⟨vs,e,m9 hK hs hp r⟩
 | .own _ _,_,hp,_=>by simp[bD]at hp
 | .au _ _,_,hp,_=>by simp[bD]at hp
 | .jJ _ _,_,hp,_=>by simp[bD]at hp
theorem m9{ρ:bK}{G':Gh}(hK:G.K.le G'.K)(hs:∀s b,G.sm s=some b→G'.sm s=some b):∀{xs:List AV} {vs:List Value},bD.ew xs=true→az ρ G xs vs→az ρ G' xs vs
 |[],_,_,h=>by simpa only[az] using h
 |x::xs,_,hp,h=>by
   simp only[bD.ew,Bool.and_eq_true]at hp;simp only[az]at h⊢;obtain⟨v,r,e,e1,e2⟩:=h;exact⟨v,r,e,gw hK hs hp.1 e1,m9 hK hs hp.2 e2⟩
end
mutual
theorem lu:∀{x:AV},bM x=true→bD x=true
 | .pv _,_=>rfl
 | .aM ..,_=>rfl
 | .aT ..,_=>rfl
 | .fw,_=>rfl
 | .fR _,_=>rfl
 | .dB _,_=>rfl
 | .rb ..,h=>by simp[bM]at h
 | .fn _ cap,h=>by simp only[bM]at h;simp only[bD];exact nW h
 | .un,h=>by simp[bM]at h
 | .cY _,h=>by simp[bD]
 | .own _ _,h=>by simp[bM]at h
 | .agg _,h=>by simp only[bM]at h;simp only[bD];exact nW h
 | .pJ _,h=>by simp[bM]at h
 | .au _ _,h=>by simp[bM]at h
 | .jJ _ _,h=>by simp[bM]at h
 | .dM _,h=>by simp[bM]at h
theorem nW:∀{xs:List AV},bM.iu xs=true→bD.ew xs=true
 |[],_=>rfl
 |x::xs,h=>by
   simp only[bM.iu,Bool.and_eq_true]at h;simp only[bD.ew,Bool.and_eq_true];exact⟨lu h.1,nW h.2⟩
end
theorem vN{ρ:bK}{G':Gh}(hK:G.K.le G'.K)(hs:∀s b,G.sm s=some b→G'.sm s=some b)(ht:∀τ t,G.tk τ=some t→G'.tk τ=some t){x:AV}{v:Value}(hf:jN x=true)(h:aA ρ G x v):aA ρ G' x v:=by
 cases x with
 |own l τ=>
   simp only[aA]at h⊢;obtain⟨t,e1,e2,e3,e4⟩:=h;exact⟨t,ht _ _ e1,e2,e3.mono hK,fun hl=>⟨(e4 hl).1,N4 (e4 hl).2 fun⟨b,o,e,r⟩=>⟨b,o,e,Row.mono hK _ _ _ _ r⟩⟩⟩
 |_=>exact gw hK hs (by simpa[jN] using hf) h
theorem jw{ρ:bK}{G':Gh}(hK:G.K.le G'.K)(hs:∀s b,G.sm s=some b→G'.sm s=some b)(ht:∀τ t,G.tk τ=some t→G'.tk τ=some t):∀{xs:List AV} {vs:List Value},eT xs=true→az ρ G xs vs→az ρ G' xs vs
 |[],_,_,h=>by simpa only[az] using h
 |x::xs,_,hp,h=>by
   simp only[eT,Bool.and_eq_true]at hp;simp only[az]at h⊢;obtain⟨v,r,e,e1,e2⟩:=h;exact⟨v,r,e,vN hK hs ht hp.1 e1,jw hK hs ht hp.2 e2⟩
theorem nX{x:AV}(h:a0 x=true):bD x=true∨∃l τ,x=.own l τ:=by
 cases x with
 |own l τ=>exact .inr ⟨l,τ,rfl⟩
 |fn g cap=>exact .inl (lu (by simpa[a0] using h))
 |pv p=>exact .inl rfl
 |cY _=>exact .inl rfl
 |aM _ _=>exact .inl rfl
 |aT _ _ _ _=>exact .inl rfl
 |fw=>exact .inl rfl
 |fR _=>exact .inl rfl
 |dB _=>exact .inl rfl
 |_=>simp[a0]at h
theorem dC{live:List Nat}{env:List (Nat×AV)}:∀{l:List Nat} {t:Nat} {v:AV},look (bB live env l) t=some v→look env t=some v∧dW live v=true∧t∈l
 |[],t,v,h=>by simp[bB,look]at h
 |s::l,t,v,h=>by
   simp only[bB]at h;split at h
   · rename_i u hu;split at h
     · rename_i hk;simp only[look]at h;split at h
       ·rename_i e;subst e;cases h;exact⟨hu,hk,by simp⟩
       ·obtain⟨h1,h2,h3⟩:=dC h;exact⟨h1,h2,by simp[h3]⟩
     ·obtain⟨h1,h2,h3⟩:=dC h;exact⟨h1,h2,by simp[h3]⟩
   ·obtain⟨h1,h2,h3⟩:=dC h;exact⟨h1,h2,by simp[h3]⟩
theorem dE{mem:List (Nat×List AV)}:∀{l:List Nat} {t:Nat},look (bJ mem l) t=if t∈l then look mem t else none
 |[],t=>by simp[bJ,look]
 |s::l,t=>by
   simp only[bJ];by_cases xj:s=t
   · subst xj;cases hm:look mem s with
     |none=>simp only[hm];rw[dE,hm];simp
     |some v=>simp[look]
   · have hts:t≠s:=fun e=>xj e.symm;cases hm:look mem s with
     |none=>simp only[hm];rw[dE];simp[hts]
     |some v=>simp only[look,xj,if_false];rw[dE];simp[hts]
def Gh.aV(G:Gh)(live:List Nat):Gh:={ G with pm:=fun d=>if d∈live then G.pm d else none }
theorem zI{ρ:bK}{live:List Nat}{x:AV}{v:Value}(hk:dW live x=true)(h:aA ρ G x v):aA ρ (G.aV live) x v:=by
 have flat:bD x=true→aA ρ (G.aV live) x v:=fun hf=>gw (G:=G) (G':=G.aV live) (bm.le_refl G.K) (fun _ _ h=>h) hf h;cases x with
 |au d o=>
   simp only[aA]at h⊢;obtain⟨b,e,r⟩:=h;simp[dW]at hk;exact⟨b,by simp[Gh.aV,hk,e],r⟩
 |jJ d o=>
   simp only[aA]at h⊢;obtain⟨b,e,r⟩:=h;simp[dW]at hk;exact⟨b,by simp[Gh.aV,hk,e],r⟩
 |own l τ=>
   simp only[aA]at h⊢;exact h
 |agg cs=>
   simp only[aA]at h⊢;obtain⟨vs,e,r⟩:=h;exact⟨vs,e,jw (G:=G) (G':=G.aV live) (bm.le_refl G.K) (fun _ _ h=>h) (fun _ _ h=>h) (by simpa[dW] using hk) r⟩
 |_=>exact flat (by simpa[dW] using hk)
theorem GP{ρ:bK}{live:List Nat}{x:AV}{v:Value}(hl:a0 x=true)(h:aA ρ G x v):aA ρ (G.aV live) x v:=by
 rcases nX hl with hf|⟨l,τ,rfl⟩
 ·exact gw (G:=G) (G':=G.aV live) (bm.le_refl G.K) (fun _ _ h=>h) hf h
 ·simp only[aA]at h⊢;exact h
theorem mw{ρ:bK}{live:List Nat}:∀{xs:List AV} {vs:List Value},xs.all a0=true→az ρ G xs vs→az ρ (G.aV live) xs vs
 |[],_,_,h=>by simpa only[az] using h
 |x::xs,_,hl,h=>by
   simp only[List.all_cons,Bool.and_eq_true]at hl;simp only[az]at h⊢;obtain⟨v,r,e,e1,e2⟩:=h;exact⟨v,r,e,GP hl.1 e1,mw hl.2 e2⟩
theorem Inv.aV{mem:List (Nat×List AV)}{sh:Sh}{aa:aG}(hi:Inv (num ns) G w mem sh aa)(live:List Nat):Inv (num ns) (G.aV live) w (bJ mem live) sh aa where
 known:=hi.known
 bh:=hi.bh
 fresh:=hi.fresh
 cG:=fun d cells hd=>by
   rw[dE]at hd;split at hd
   ·rename_i hl;obtain⟨b,e1,e2,e3⟩:=hi.cG d cells hd;obtain⟨hr,c,t,hh,hrel⟩:=e2;exact⟨b,by simp[Gh.aV,hl,e1],⟨hr,c,t,hh,mw e3 hrel⟩,e3⟩
   ·simp at hd
 gE:=fun d b hd=>by
   simp only[Gh.aV]at hd;split at hd
   ·rename_i hl;rw[dE,if_pos hl];exact hi.gE d b hd
   ·simp at hd
 cR:=fun s cells hs=>by
   obtain⟨b,e1,e2,e3,e4⟩:=hi.cR s cells hs;obtain⟨hr,o,hh,hrel⟩:=e2;exact⟨b,e1,⟨hr,o,hh,hrel.to (fun _ _ _ h=>h) (fun _ e=>e) (fun _ r=>mw (gf e3) r)⟩,e3,e4⟩
 eo:=hi.eo
 cT:=fun τ n hn=>by
   obtain⟨t,e1,e2,e3⟩:=hi.cT τ n hn;exact⟨t,e1,e2,e3.cap,e3.zero,e3.spare⟩
 eI:=hi.eI
 l5:=hi.l5
theorem bu.aV(live:List Nat):bu G w (G.aV live) w:=
 { size:=Nat.le_refl _,os:=rfl,tape:=rfl,output:=rfl,K:=bm.le_refl G.K,sm:=fun _ _ h=>h,dH:=fun _ _ h=>⟨h,rfl⟩,iK:=fun _ τ _ h=>.inr ⟨τ,h⟩,gF:=fun _ _ _ _ _ h=>h }
theorem fM.restrict{n0 N:Nat}{st:St}{a:Act}(h:fM (num ns) n0 N G st a w)(live:List Nat):fM (num ns) n0 N (G.aV live) (restrict live st) a w:=
 ⟨⟨h.env.size,fun t x hx=>by
   obtain⟨h1,h2,_⟩:=dC hx;obtain⟨v,h3,h4⟩:=h.env.env t x h1;exact⟨v,h3,zI h2 h4⟩⟩,h.inv.aV live,h.marks.uQ (bu.aV live) rfl⟩
end
end Go.Ab
namespace Go.Ab
section
variable {ns:Names} {G:Gh} {w:World}
structure NS(G:Gh)(aN ts:aG)(m:Nat→Option Nat)(tks:List Tk):Prop where
 ts:ts=tks.map (·.len)
 map:∀τ k,m τ=some k→∃t,G.tk τ=some t∧tks[k]?=some t
 inj:∀τ σ k,m τ=some k→m σ=some k→τ=σ
 free:∀τ t,G.tk τ=some t→m τ=none→aN[τ]?=some t.len
 used:∀τ t k,G.tk τ=some t→m τ=some k→aN[τ]?=some (t.len+1)
 cap:∀k t,tks[k]?=some t→(∃τ,m τ=some k)∨(t.cap=t.len∧t.own=false)
def Gh.mc(G:Gh)(m:Nat→Option Nat)(tks:List Tk):Gh:=
 { G with tk:=fun k=>tks[k]?,role:=fun b=>match G.role b with| .tok τ=>(match m τ with|some k=>.tok k|none=>.dH)|r=>r }
theorem RP{m m':Nat→Option Nat}{tks ext:List Tk}:(G.mc m tks).le (G.mc m' (tks++ext)) where
 K:=bm.le_refl G.K
 pm:=fun _ _ h=>h
 sm:=fun _ _ h=>h
 tk:=fun k t h=>⟨t,by
   simp only[Gh.mc]at h⊢;rw[List.getElem?_append_left (List.getElem?_eq_some_iff.1 h).1];exact h,⟨Nat.le_refl _,Tk.gD _⟩,fun _=>rfl⟩
theorem zJ{ρ:bK}{m:Nat→Option Nat}{tks:List Tk}{x:AV}{v:Value}(hf:bD x=true)(h:aA ρ G x v):aA ρ (G.mc m tks) x v:=
 gw (G:=G) (G':=G.mc m tks) (bm.le_refl G.K) (fun _ _ h=>h) hf h
theorem lx{m:Nat→Option Nat}{tks:List Tk}{b τ:Nat}(h:G.role b=.tok τ):(G.mc m tks).role b=match m τ with|some k=>.tok k|none=>.dH:=by
 show (match G.role b with| .tok τ=>(match m τ with|some k=>mi.tok k|none=>.dH)|r=>r)=_;rw[h]
def lV:AV→Bool
 | .au ..| .jJ ..| .own ..=>true
 | .agg cs=>eT cs
 |v=>bD v
structure GQ(ns:Names)(G:Gh)(m:Nat→Option Nat)(tks:List Tk)(old' ts':aG)(m':Nat→Option Nat)(tks':List Tk):Prop where
 zK:NS G old' ts' m' tks'
 ext:∃ext,tks'=tks++ext
theorem GQ.le{m m':Nat→Option Nat}{tks tks':List Tk}{old' ts':aG}(h:GQ ns G m tks old' ts' m' tks'):(G.mc m tks).le (G.mc m' tks'):=by
 obtain⟨ext,e⟩:=h.ext;subst e;exact RP
theorem qE{aN ts:aG}{m:Nat→Option Nat}{tks:List Tk}(hN:NS G aN ts m tks){x:AV}{v:Value}(hx:jN x=true)(h:aA (num ns) G x v) :
   ∃m' tks',GQ ns G m tks (d7 aN ts x).2.1 (d7 aN ts x).2.2 m' tks'∧aA (num ns) (G.mc m' tks') (d7 aN ts x).1 v:=by
 have flat:bD x=true→d7 aN ts x=(x,aN,ts)→∃m' tks',GQ ns G m tks (d7 aN ts x).2.1 (d7 aN ts x).2.2 m' tks'∧aA (num ns) (G.mc m' tks') (d7 aN ts x).1 v:=by
   intro hf e;rw[e];exact⟨m,tks,⟨hN,[],by simp⟩,zJ hf h⟩
 cases x with
 |own l τ=>
   simp only[aA]at h;obtain⟨t,e1,e2,e3,e4⟩:=h;simp only[d7];split
   · rename_i ho
     have hm:m τ=none:=by
       cases hm:m τ with
       |none=>rfl
       |some k=>
         have:=hN.used τ t k e1 hm;rw[ho]at this;simp at this;omega
     have hlen:l.length=t.len:=by
       have:=hN.free τ t e1 hm;rw[ho]at this;simpa using this
     have hk:ts.length=tks.length:=(by rw[hN.ts];simp);refine⟨fun σ=>if σ=τ then some tks.length else m σ,tks++[t],⟨⟨?_,?_,?_,?_,?_,?_⟩,[t],rfl⟩,?_⟩
     ·rw[hN.ts,hlen];simp
     · intro σ k hk';split at hk'
       ·rename_i e;subst e;simp at hk';subst hk';exact⟨t,e1,by simp⟩
       ·obtain⟨t',g1,g2⟩:=hN.map σ k hk';exact⟨t',g1,by rw[List.getElem?_append_left (List.getElem?_eq_some_iff.1 g2).1];exact g2⟩
     · intro σ σ' k h1 h2;split at h1
       · rename_i e;subst e;split at h2
         ·rename_i e';exact e'.symm
         ·simp at h1;subst h1;obtain⟨t',_,g2⟩:=hN.map σ' _ h2;have:=(List.getElem?_eq_some_iff.1 g2).1;omega
       · split at h2
         ·rename_i e';subst e';simp at h2;subst h2;obtain⟨t',_,g2⟩:=hN.map σ _ h1;have:=(List.getElem?_eq_some_iff.1 g2).1;omega
         ·exact hN.inj σ σ' k h1 h2
     · intro σ t' h1 h2;split at h2
       ·simp at h2
       ·rename_i e;rw[List.getElem?_set,if_neg (fun e'=>e e'.symm)];exact hN.free σ t' h1 h2
     · intro σ t' k h1 h2;split at h2
       ·rename_i e;subst e;rw[e1]at h1;cases h1;rw[List.getElem?_set,if_pos rfl,if_pos (List.getElem?_eq_some_iff.1 ho).1,hlen]
       ·rename_i e;rw[List.getElem?_set,if_neg (fun e'=>e e'.symm)];exact hN.used σ t' k h1 h2
     · intro k t' hk';rw[List.getElem?_append]at hk';split at hk'
       · rcases hN.cap k t' hk' with⟨σ,hσ⟩|hc
         · left;refine⟨σ,?_⟩;rw[if_neg]
           ·exact hσ
           ·rintro rfl;rw[hm]at hσ;simp at hσ
         ·exact .inr hc
       · rename_i hge;left;refine⟨τ,?_⟩
         have:k=tks.length:=by
           have:=(List.getElem?_eq_some_iff.1 hk').1;simp at this;omega
         simp[this]
     ·simp only[aA];refine⟨t,by simp[Gh.mc,hk],⟨by omega,e2.2⟩,e3,fun _=>e4 hlen⟩
   ·exact⟨m,tks,⟨hN,[],by simp⟩,by simp only[aA];exact e3⟩
 |_=>exact flat (by simpa[jN] using hx) rfl
theorem oT:∀{xs:List AV} {vs:List Value} {aN ts:aG} {m:Nat→Option Nat} {tks:List Tk},NS G aN ts m tks→eT xs=true→az (num ns) G xs vs →
   ∃m' tks',GQ ns G m tks (cK aN ts xs).2.1 (cK aN ts xs).2.2 m' tks'∧az (num ns) (G.mc m' tks') (cK aN ts xs).1 vs
 |[],vs,aN,ts,m,tks,hN,_,h=>⟨m,tks,⟨hN,[],by simp⟩,by simpa only[cK,az] using h⟩
 |x::xs,vs,aN,ts,m,tks,hN,hl,h=>by
   simp only[eT,Bool.and_eq_true]at hl;simp only[az]at h;obtain⟨v,r,e,e1,e2⟩:=h;subst e;obtain⟨m1,t1,g1,g2⟩:=qE hN hl.1 e1;obtain⟨m2,t2,k1,k2⟩:=oT g1.zK hl.2 e2;refine⟨m2,t2,⟨k1.zK,?_⟩,?_⟩
   ·obtain⟨a,ha⟩:=g1.ext;obtain⟨b,hb⟩:=k1.ext;exact⟨a++b,by rw[hb,ha,List.append_assoc]⟩
   ·simp only[cK,az];exact⟨v,r,rfl,g2.mono k1.le,k2⟩
theorem mz{aN ts:aG}{m:Nat→Option Nat}{tks:List Tk}(hN:NS G aN ts m tks){x:AV}{v:Value}(hx:lV x=true)(h:aA (num ns) G x v) :
   ∃m' tks',GQ ns G m tks (bF aN ts x).2.1 (bF aN ts x).2.2 m' tks'∧aA (num ns) (G.mc m' tks') (bF aN ts x).1 v:=by
 have flat:bD x=true→bF aN ts x=(x,aN,ts)→∃m' tks',GQ ns G m tks (bF aN ts x).2.1 (bF aN ts x).2.2 m' tks'∧aA (num ns) (G.mc m' tks') (bF aN ts x).1 v:=by
   intro hf e;rw[e];exact⟨m,tks,⟨hN,[],by simp⟩,zJ hf h⟩
 cases x with
 |own l τ=>exact qE (x:=.own l τ) hN rfl h
 |cY l=>
   simp only[aA]at h;obtain⟨base,len,rfl,hsl⟩:=h;have hk:ts.length=tks.length:=by rw[hN.ts];simp
   have hlen:=hsl.1
   obtain⟨sz,hrow⟩:∃sz,l=[]∨∃b o,base=some ⟨b,o,none⟩∧Row G.K b o sz l:=by
     rcases hsl.2 with h1|⟨b,o,sz,e,hr⟩
     ·exact⟨0,.inl h1⟩
     ·exact⟨sz,.inr ⟨b,o,e,hr⟩⟩
   let t:Tk:=⟨base,len,len,sz,false⟩
   refine⟨m,tks++[t],⟨⟨?_,?_,hN.inj,hN.free,hN.used,?_⟩,[t],rfl⟩,?_⟩
   ·simp only[bF];rw[hN.ts];simp[t,hlen]
   ·intro σ k hk';obtain⟨t',g1,g2⟩:=hN.map σ k hk';exact⟨t',g1,by rw[List.getElem?_append_left (List.getElem?_eq_some_iff.1 g2).1];exact g2⟩
   · intro k t' hk';rw[List.getElem?_append]at hk';split at hk'
     ·exact hN.cap k t' hk'
     · right
       have:t'=t:=by
         have h1:=List.mem_of_getElem? hk';simpa using h1
       rw[this];exact⟨rfl,rfl⟩
   ·simp only[bF,aA];refine⟨t,by simp[Gh.mc,hk],⟨by simp[t,hlen],t.rP⟩,bP.2 ⟨_,_,_,rfl,Nat.le_refl _,hsl⟩,fun _=>⟨rfl,hrow⟩⟩
 |au d o=>
   simp only[bF];exact⟨m,tks,⟨hN,[],by simp⟩,by simp only[aA]at h⊢;exact h⟩
 |jJ d o=>
   simp only[bF];exact⟨m,tks,⟨hN,[],by simp⟩,by simp only[aA]at h⊢;exact h⟩
 |pv p=>exact flat rfl rfl
 |un=>exact flat rfl rfl
 |aM _ _=>exact flat rfl rfl
 |aT _ _ _ _=>exact flat rfl rfl
 |dM _=>exact flat rfl rfl
 |fw=>exact flat rfl rfl
 |fn _ _=>exact flat (by simpa[lV] using hx) rfl
 |agg cs=>
   by_cases hf:bD.ew cs=true
   ·exact flat (by simpa[bD] using hf) (by simp only[bF];rw[if_pos hf])
   · simp only[aA]at h;obtain⟨vs,rfl,r⟩:=h;obtain⟨m',tks',g1,g2⟩:=oT hN (by simpa[lV] using hx) r;have e:bF aN ts (.agg cs)=(.agg (cK aN ts cs).1,(cK aN ts cs).2.1,(cK aN ts cs).2.2):=by simp only[bF];rw[if_neg hf]
     rw[e];exact⟨m',tks',g1,by simp only[aA];exact⟨vs,rfl,g2⟩⟩
 |pJ _=>exact flat (by simpa[lV] using hx) rfl
 |fR _=>exact flat rfl rfl
 |rb _ _ _=>exact flat rfl rfl
 |dB _=>simp only[aA]at h
theorem Cp{x:AV}(h:a0 x=true):lV x=true:=by
 rcases nX h with hf|⟨l,τ,rfl⟩
 ·cases x<;>simp_all[lV,bD,a0]
 ·rfl
theorem Cq{aN ts:aG}{x:AV}(h:a0 x=true):a0 (bF aN ts x).1=true:=by
 cases x with
 |own l τ=>simp only[bF];split<;>rfl
 |cY l=>rfl
 |agg _=>simp[a0]at h
 |_=>exact h
theorem mA:∀{xs:List AV} {vs:List Value} {aN ts:aG} {m:Nat→Option Nat} {tks:List Tk},NS G aN ts m tks→xs.all a0=true→az (num ns) G xs vs →
   ∃m' tks',GQ ns G m tks (bn aN ts xs).2.1 (bn aN ts xs).2.2 m' tks'∧az (num ns) (G.mc m' tks') (bn aN ts xs).1 vs∧(bn aN ts xs).1.all a0=true
 |[],vs,aN,ts,m,tks,hN,_,h=>⟨m,tks,⟨hN,[],by simp⟩,by simpa only[bn,az] using h,rfl⟩
 |x::xs,vs,aN,ts,m,tks,hN,hl,h=>by
   simp only[List.all_cons,Bool.and_eq_true]at hl;simp only[az]at h;obtain⟨v,r,e,e1,e2⟩:=h;subst e;obtain⟨m1,t1,g1,g2⟩:=mz hN (Cp hl.1) e1;obtain⟨m2,t2,k1,k2,k3⟩:=mA g1.zK hl.2 e2;refine⟨m2,t2,⟨k1.zK,?_⟩,?_,?_⟩
   ·obtain⟨a,ha⟩:=g1.ext;obtain⟨b,hb⟩:=k1.ext;exact⟨a++b,by rw[hb,ha,List.append_assoc]⟩
   ·simp only[bn,az];exact⟨v,r,rfl,g2.mono k1.le,k2⟩
   ·simp only[bn,List.all_cons,k3,Bool.and_true];exact Cq hl.1
theorem qF{a:Act}:∀{env:List (Nat×AV)} {aN ts:aG} {m:Nat→Option Nat} {tks:List Tk},NS G aN ts m tks →
   (∀p∈env,lV p.2=true∧∃v,a.tmps[p.1]?=some v∧aA (num ns) G p.2 v) →
   ∃m' tks',GQ ns G m tks (dr aN ts env).2.1 (dr aN ts env).2.2 m' tks'∧∀p∈(dr aN ts env).1,∃v,a.tmps[p.1]?=some v∧aA (num ns) (G.mc m' tks') p.2 v
 |[],aN,ts,m,tks,hN,_=>⟨m,tks,⟨hN,[],by simp⟩,by simp[dr]⟩
 |(t,x)::env,aN,ts,m,tks,hN,h=>by
   obtain⟨hx,v,hv,hr⟩:=h (t,x) (by simp);obtain⟨m1,t1,g1,g2⟩:=mz hN hx hr;obtain⟨m2,t2,k1,k2⟩:=qF (env:=env) (a:=a) g1.zK (fun p hp=>h p (by simp[hp]));refine⟨m2,t2,⟨k1.zK,?_⟩,?_⟩
   ·obtain⟨a,ha⟩:=g1.ext;obtain⟨b,hb⟩:=k1.ext;exact⟨a++b,by rw[hb,ha,List.append_assoc]⟩
   · intro p hp;simp only[dr,List.mem_cons]at hp;rcases hp with rfl|hp
     ·exact⟨v,hv,g2.mono k1.le⟩
     ·exact k2 p hp
def RQ(ns:Names)(G:Gh)(w:World)(d:Nat)(cells:List AV)(G':Gh):Prop:=
 ∃b c t,G.pm d=some b∧G.role b=.l0 d∧w.heap[b]?=some (.cells c t (0,0))∧az (num ns) G' cells c.toList∧cells.all a0=true
theorem qG:∀{mem:List (Nat×List AV)} {aN ts:aG} {m:Nat→Option Nat} {tks:List Tk},NS G aN ts m tks →
   (∀p∈mem,RQ ns G w p.1 p.2 G) →
   ∃m' tks',GQ ns G m tks (eV aN ts mem).2.1 (eV aN ts mem).2.2 m' tks'∧∀p∈(eV aN ts mem).1,RQ ns G w p.1 p.2 (G.mc m' tks')
 |[],aN,ts,m,tks,hN,_=>⟨m,tks,⟨hN,[],by simp⟩,by simp[eV]⟩
 |(d,cells)::mem,aN,ts,m,tks,hN,h=>by
   obtain⟨b,c,t,h1,h2,h3,h4,h5⟩:=h (d,cells) (by simp);obtain⟨m1,t1,g1,g2,g3⟩:=mA hN h5 h4;obtain⟨m2,t2,k1,k2⟩:=qG (mem:=mem) g1.zK (fun p hp=>h p (by simp[hp]));refine⟨m2,t2,⟨k1.zK,?_⟩,?_⟩
   ·obtain⟨a,ha⟩:=g1.ext;obtain⟨b,hb⟩:=k1.ext;exact⟨a++b,by rw[hb,ha,List.append_assoc]⟩
   · intro p hp;simp only[eV,List.mem_cons]at hp;rcases hp with rfl|hp
     ·exact⟨b,c,t,h1,h2,h3,az.mono k1.le g2,g3⟩
     ·exact k2 p hp
theorem Cr{aN ts:aG}{n:Nat}{x:AV}(h:aI n x=true):aI n (d7 aN ts x).1=true:=by
 unfold d7;split
 ·split<;>simp[aI]
 ·exact h
theorem qH{n:Nat}:∀{xs:List AV} {aN ts:aG},aI.cD n xs=true→aI.cD n (cK aN ts xs).1=true
 |[],_,_,_=>rfl
 |x::xs,aN,ts,h=>by
   simp only[aI.cD,Bool.and_eq_true]at h;simp only[cK,aI.cD,Cr h.1,Bool.true_and];exact qH h.2
theorem Cs{aN ts:aG}{n:Nat}{x:AV}(h:aI n x=true):aI n (bF aN ts x).1=true:=by
 unfold bF;split
 ·split<;>simp[aI]
 ·simp[aI]
 · split
   ·exact h
   ·simp only[aI]at h⊢;exact qH h
 ·exact h
theorem sW{n:Nat}:∀{xs:List AV} {aN ts:aG},xs.all (aI n)=true→(bn aN ts xs).1.all (aI n)=true
 |[],_,_,_=>rfl
 |x::xs,aN,ts,h=>by
   simp only[List.all_cons,Bool.and_eq_true]at h;simp only[bn,List.all_cons,Cs h.1,Bool.true_and];exact sW h.2
theorem jX:∀{sh:Sh} {aN ts:aG} {m:Nat→Option Nat} {tks:List Tk} (R:Nat→Option (Obj×Nat)),NS G aN ts m tks →
   (∀s cells,sh[s]?=some (some cells)→cells.all a0=true∧∃o,R s=some o∧Holds (num ns) G o.1 o.2 cells) →
   ∃m' tks',GQ ns G m tks (cg aN ts sh).2.1 (cg aN ts sh).2.2 m' tks'∧(cg aN ts sh).1.length=sh.length ∧
     ∀s cells',(cg aN ts sh).1[s]?=some (some cells')→∃cells,sh[s]?=some (some cells)∧(∃o,R s=some o∧Holds (num ns) (G.mc m' tks') o.1 o.2 cells')∧cells'.all a0=true∧∀n,cells.all (aI n)=true→cells'.all (aI n)=true
 |[],aN,ts,m,tks,R,hN,_=>⟨m,tks,⟨hN,[],by simp⟩,rfl,fun s cells' h=>by simp[cg]at h⟩
 |none::sh,aN,ts,m,tks,R,hN,h=>by
   obtain⟨m1,t1,g1,g2,g3⟩:=jX (sh:=sh) (fun s=>R (s+1)) hN (fun s cells hs=>h (s+1) cells (by simpa using hs));refine⟨m1,t1,g1,by simp[cg,g2],fun s cells' hs=>?_⟩;cases s with
   |zero=>simp[cg]at hs
   |succ s=>
     obtain⟨cells,k1,k2⟩:=g3 s cells' (by simpa[cg] using hs);exact⟨cells,by simpa using k1,k2⟩
 |some cs::sh,aN,ts,m,tks,R,hN,h=>by
   obtain⟨hl,o,hR,hr⟩:=h 0 cs rfl
   obtain⟨m1,t1,g1,g2,g3⟩:∃m' tks',GQ ns G m tks (bn aN ts cs).2.1 (bn aN ts cs).2.2 m' tks'∧Holds (num ns) (G.mc m' tks') o.1 o.2 (bn aN ts cs).1∧(bn aN ts cs).1.all a0=true:=by
     rcases hr with⟨c,t,vs,suf,ho,e3,e4,hr⟩|⟨es,clock,kvs,ho,rfl,hm⟩
     ·obtain⟨m1,t1,g1,g2,g3⟩:=mA hN hl hr;exact⟨m1,t1,g1,.inl ⟨c,t,vs,suf,ho,e3,e4,g2⟩,g3⟩
     ·exact⟨m,tks,⟨hN,[],by simp⟩,.inr ⟨es,clock,kvs,ho,rfl,hm⟩,rfl⟩
   obtain⟨m2,t2,k1,k2,k3⟩:=jX (sh:=sh) (fun s=>R (s+1)) g1.zK (fun s cells hs=>h (s+1) cells (by simpa using hs));refine⟨m2,t2,⟨k1.zK,?_⟩,by simp[cg,k2],fun s cells' hs=>?_⟩
   ·obtain⟨a,ha⟩:=g1.ext;obtain⟨b,hb⟩:=k1.ext;exact⟨a++b,by rw[hb,ha,List.append_assoc]⟩
   · cases s with
     |zero=>
       simp only[cg,List.getElem?_cons_zero,Option.some.injEq]at hs;subst hs;exact⟨cs,rfl,⟨o,hR,g2.mono k1.le⟩,g3,fun n hn=>sW hn⟩
     |succ s=>
       obtain⟨cells,q1,q2⟩:=k3 s cells' (by simpa[cg] using hs);exact⟨cells,by simpa using q1,q2⟩
def ly(G:Gh)(w:World)(s:Nat):Option (Obj×Nat):=(G.sm s).bind fun b=>(w.heap[b.1]?).map fun o=>(o,b.2)
theorem Inv.ly{mem:List (Nat×List AV)}{sh:Sh}{aa:aG}(hi:Inv (num ns) G w mem sh aa):∀s cells,sh[s]?=some (some cells)→cells.all a0=true∧∃o,Go.Ab.ly G w s=some o∧Holds (num ns) G o.1 o.2 cells:=by
 intro s cells hs;obtain⟨b,e1,e2,e3,e4⟩:=hi.cR s cells hs;obtain⟨hr,o,hh,hrel⟩:=e2;exact⟨e3,(o,b.2),by simp[Go.Ab.ly,e1,hh],hrel⟩
theorem Inv.P'{mem:List (Nat×List AV)}{sh:Sh}{aa:aG}(hi:Inv (num ns) G w mem sh aa){sh':Sh}{G':Gh}(hsm:∀s,G'.sm s=G.sm s)(hrole:∀b s,G.role b=.shr s→G'.role b=.shr s)
   (h:∀s cells',sh'[s]?=some (some cells')→∃cells,sh[s]?=some (some cells)∧(∃o,Go.Ab.ly G w s=some o∧Holds (num ns) G' o.1 o.2 cells')∧cells'.all a0=true∧∀n,cells.all (aI n)=true→cells'.all (aI n)=true) :
   ∀s cells,sh'[s]?=some (some cells)→∃b,G'.sm s=some b∧w9 (num ns) G' w b (.shr s) cells∧cells.all cI=true∧cells.all (aI (s+1))=true:=by
 intro s cells' hs;obtain⟨cells,h1,⟨o,h2,h2'⟩,h3,h4⟩:=h s cells' hs;obtain⟨b,e1,e2,e3,e4⟩:=hi.cR s cells h1;simp only[Go.Ab.ly,e1,Option.bind_some,Option.map_eq_some_iff]at h2;obtain⟨o',h5,rfl⟩:=h2;exact⟨b,by rw[hsm];exact e1,⟨hrole b.1 s e2.role,o',h5,h2'⟩,h3,h4 _ e4⟩
theorem oU{α:Type}:∀{l:List (Nat×α)} {t:Nat} {x:α},look l t=some x→(t,x)∈l
 |[],_,_,h=>by simp[look]at h
 |(s,y)::l,t,x,h=>by
   simp only[look]at h;split at h
   ·rename_i e;subst e;cases h;simp
   ·exact List.mem_cons_of_mem _ (oU h)
theorem sX:∀{mem:List (Nat×List AV)} {aN ts:aG} {d:Nat},(look mem d).isSome=true→(look (eV aN ts mem).1 d).isSome=true
 |[],_,_,d,h=>by simp[look]at h
 |(s,y)::mem,aN,ts,d,h=>by
   simp only[eV,look]at h⊢;split
   ·rfl
   ·rename_i hne;rw[if_neg hne]at h;exact sX h
theorem NS.start{mem:List (Nat×List AV)}{sh:Sh}{aa:aG}(hi:Inv (num ns) G w mem sh aa):NS G aa [] (fun _=>none) [] where
 ts:=rfl
 map:=by intro τ k h;simp at h
 inj:=by intro τ σ k h;simp at h
 free:=fun τ t h _=>hi.eI τ t h
 used:=by intro τ t k _ h;simp at h
 cap:=by intro k t h;simp at h
theorem eB{live:List Nat}{env:List (Nat×AV)}:∀{l:List Nat} {p:Nat×AV},p∈bB live env l→look env p.1=some p.2∧dW live p.2=true
 |[],p,h=>by simp[bB]at h
 |s::l,p,h=>by
   simp only[bB]at h;split at h
   · rename_i u hu;split at h
     · rename_i hk;simp only[List.mem_cons]at h;rcases h with rfl|h
       ·exact⟨hu,hk⟩
       ·exact eB h
     ·exact eB h
   ·exact eB h
theorem iL{mem:List (Nat×List AV)}:∀{l:List Nat} {p:Nat×List AV},p∈bJ mem l→look mem p.1=some p.2∧p.1∈l
 |[],p,h=>by simp[bJ]at h
 |s::l,p,h=>by
   simp only[bJ]at h;split at h
   · rename_i u hu;simp only[List.mem_cons]at h;rcases h with rfl|h
     ·exact⟨hu,by simp⟩
     ·obtain⟨h1,h2⟩:=iL h;exact⟨h1,by simp[h2]⟩
   ·obtain⟨h1,h2⟩:=iL h;exact⟨h1,by simp[h2]⟩
theorem fM.head{n0 N:Nat}{st:St}{a:Act}(h:fM (num ns) n0 N G st a w)(live:List Nat):∃G',fM (num ns) n0 N G' (norm (Go.Ab.restrict live st)) a w∧bu G w G' w:=by
 have h0:=h.restrict live;have hi:=h0.inv
 have hE:∀p∈(Go.Ab.restrict live st).env,lV p.2=true∧∃v,a.tmps[p.1]?=some v∧aA (num ns) (G.aV live) p.2 v:=by
   intro p hp;obtain⟨h1,h2⟩:=eB hp;obtain⟨v,h3,h4⟩:=h.env.env p.1 p.2 h1;refine⟨?_,v,h3,zI h2 h4⟩;cases hpx:p.2<;>rw[hpx]at h2<;>simp_all[lV,dW,bD]
 have hM:∀p∈(Go.Ab.restrict live st).mem,RQ ns (G.aV live) w p.1 p.2 (G.aV live):=by
   intro p hp;obtain⟨h1,h2⟩:=iL hp
   have h3:look (Go.Ab.restrict live st).mem p.1=some p.2:=by
     show look (bJ st.mem live) p.1=some p.2;rw[dE,if_pos h2,h1]
   obtain⟨b,e1,e2,e3⟩:=hi.cG p.1 p.2 h3;obtain⟨hr,c,t,hh,hrel⟩:=e2;exact⟨b,c,t,e1,hr,hh,hrel,e3⟩
 obtain⟨m1,t1,g1,g2⟩:=qF (NS.start hi) hE;obtain⟨m3,t3,k1,k2⟩:=qG (w:=w) g1.zK hM;obtain⟨m2,t2,q1,q2,q3⟩:=jX (ly (G.aV live) w) k1.zK hi.ly;have hN:=q1.zK;have hle3:=q1.le;have hle:=Gh.le_trans k1.le q1.le
 have hrole:∀b r,(G.aV live).role b=r→(∀τ,r≠.tok τ)→((G.aV live).mc m2 t2).role b=r:=by
   intro b r hr hn;show (match (G.aV live).role b with| .tok τ=>(match m2 τ with|some k=>mi.tok k|none=>.dH)|r=>r)=r;rw[hr];cases r with
   |tok τ=>exact absurd rfl (hn τ)
   |_=>rfl
 have hevo:bu G w ((G.aV live).mc m2 t2) w:={
   size:=Nat.le_refl _,os:=rfl,tape:=rfl,output:=rfl,K:=bm.le_refl G.K,sm:=fun _ _ h=>h,
   dH:=fun b _ hr=>⟨hrole b _ hr (by simp),rfl⟩
   iK:=fun b τ _ hr=>by
     have hr':(G.aV live).role b=.tok τ:=hr;rw[lx hr'];cases m2 τ with
     |none=>exact .inl rfl
     |some k=>exact .inr ⟨k,rfl⟩
   gF:=fun _ _ _ _ _ h=>h }
 refine⟨(G.aV live).mc m2 t2,⟨⟨h.env.size,fun t x hx=>?_⟩,?_,h.marks.uQ hevo rfl⟩,hevo⟩
 ·obtain⟨v,h1,h2⟩:=g2 (t,x) (oU hx);exact⟨v,h1,h2.mono hle⟩
 · constructor
   ·exact hi.known
   · intro b o v hk;rcases hi.bh b o v hk with h1|⟨τ,h1⟩
     ·exact .inl (hrole b _ h1 (by simp))
     · rw[lx h1];cases m2 τ with
       |none=>exact .inl rfl
       |some k=>exact .inr ⟨k,rfl⟩
   ·intro b hb;exact hrole b _ (hi.fresh b hb) (by simp)
   ·intro d cells hd;obtain⟨b,c,t,h1,h2,h3,h4,h5⟩:=k2 (d,cells) (oU hd);exact⟨b,h1,⟨hrole b _ h2 (by simp),c,t,h3,az.mono hle3 h4⟩,h5⟩
   ·intro d b hd;exact sX (hi.gE d b hd)
   ·exact hi.P' (G':=(G.aV live).mc m2 t2) (fun _=>rfl) (fun b s hr=>hrole b _ hr (by simp)) q3
   ·intro s b hs;have:=hi.eo s b hs;have e:(norm (Go.Ab.restrict live st)).sh.length=(Go.Ab.restrict live st).sh.length:=q2;omega
   · intro k n hn;have hts:(norm (Go.Ab.restrict live st)).aa=t2.map (·.len):=hN.ts;rw[hts,List.getElem?_map,Option.map_eq_some_iff]at hn;obtain⟨t,ht,rfl⟩:=hn;refine⟨t,ht,rfl,?_⟩;rcases hN.cap k t ht with⟨τ,hτ⟩|hc
     ·obtain⟨t',h1,h2⟩:=hN.map τ k hτ;rw[ht]at h2;cases h2;obtain⟨t'',e1,e2,e3⟩:=hi.cT τ _ (hi.eI τ t h1);rw[h1]at e1;cases e1;refine⟨e3.cap,e3.zero,fun hlt=>?_⟩;obtain⟨b,o,c,ty,f1,f2,f3,f4,f5⟩:=e3.spare hlt;refine⟨b,o,c,ty,f1,?_,f3,f4,f5⟩;rw[lx f2,hτ]
     ·exact⟨by omega,fun h=>by omega,fun h=>h.elim (fun h=>by omega) (fun h=>by rw[hc.2]at h;cases h)⟩
   ·intro k t ht;have hts:(norm (Go.Ab.restrict live st)).aa=t2.map (·.len):=hN.ts;rw[hts,List.getElem?_map];have ht':t2[k]?=some t:=ht;rw[ht'];rfl
   ·exact fun b c hb=>⟨hrole b _ (hi.l5 b c hb).1 (by simp),(hi.l5 b c hb).2⟩
end
end Go.Ab
namespace Go.Ab
section
variable {P:Program} {ns:Names} {G:Gh} {w:World}
theorem zL{x:AV}(h:kB x=true):jN x=true:=by
 cases x with
 |own _ _=>rfl
 |_=>simpa[jN,kB] using lu (by simpa[kB] using h)
theorem lz:∀{xs:List AV},eU xs=true→eT xs=true
 |[],_=>rfl
 |x::xs,h=>by
   simp only[eU,Bool.and_eq_true]at h;simp only[eT,zL h.1,lz h.2,Bool.and_self]
theorem zM{x:AV}(h:bE x=true):lV x=true:=by
 cases x with
 |own _ _=>rfl
 |au _ _=>rfl
 |agg cs=>simp only[lV];exact lz (by simpa[bE] using h)
 |_=>simpa[lV,bE] using lu (by simpa[bE] using h)
theorem zN{aN ts:aG}{x:AV}(h:kB x=true):kB (d7 aN ts x).1=true:=by
 unfold d7;split
 ·split<;>rfl
 ·exact h
theorem qI:∀{xs:List AV} {aN ts:aG},eU xs=true→eU (cK aN ts xs).1=true
 |[],_,_,_=>rfl
 |x::xs,aN,ts,h=>by
   simp only[eU,Bool.and_eq_true]at h;simp only[cK,eU,zN h.1,Bool.true_and];exact qI h.2
theorem zP{aN ts:aG}{x:AV}(h:bE x=true):bE (bF aN ts x).1=true:=by
 unfold bF;split
 ·split<;>rfl
 ·rfl
 · split
   ·exact h
   ·simp only[bE]at h⊢;exact qI h
 ·exact h
theorem iB:∀{xs:List AV} {aN ts:aG},xs.all bE=true→(bn aN ts xs).1.all bE=true
 |[],_,_,_=>rfl
 |x::xs,aN,ts,h=>by
   simp only[List.all_cons,Bool.and_eq_true]at h;simp only[bn,List.all_cons,zP h.1,Bool.true_and];exact iB h.2
theorem zQ{x:AV}(h:a0 x=true):bE x=true:=by
 cases x with
 |own _ _=>rfl
 |fn g cap=>simpa[a0,bE] using h
 |pv _=>rfl
 |cY _=>rfl
 |aM _ _=>rfl
 |aT _ _ _ _=>rfl
 |fw=>rfl
 |fR _=>rfl
 |dB _=>rfl
 |_=>simp[a0]at h
theorem iZ{xs:List AV}(h:xs.all a0=true):xs.all bE=true:=by
 rw[List.all_eq_true]at *;exact fun x hx=>zQ (h x hx)
theorem oV:∀{xs:List AV} {vs:List Value} {aN ts:aG} {m:Nat→Option Nat} {tks:List Tk},NS G aN ts m tks→xs.all bE=true→az (num ns) G xs vs →
   ∃m' tks',GQ ns G m tks (bn aN ts xs).2.1 (bn aN ts xs).2.2 m' tks'∧az (num ns) (G.mc m' tks') (bn aN ts xs).1 vs
 |[],vs,aN,ts,m,tks,hN,_,h=>⟨m,tks,⟨hN,[],by simp[bn]⟩,by simpa only[bn,az] using h⟩
 |x::xs,vs,aN,ts,m,tks,hN,hp,h=>by
   simp only[List.all_cons,Bool.and_eq_true]at hp;simp only[az]at h;obtain⟨v,r,e,e1,e2⟩:=h;subst e;obtain⟨m1,t1,g1,g2⟩:=mz hN (zM hp.1) e1;obtain⟨m2,t2,k1,k2⟩:=oV g1.zK hp.2 e2;refine⟨m2,t2,⟨k1.zK,?_⟩,?_⟩
   ·obtain⟨a,ha⟩:=g1.ext;obtain⟨b,hb⟩:=k1.ext;exact⟨a++b,by rw[hb,ha,List.append_assoc]⟩
   ·simp only[bn,az];exact⟨v,r,rfl,g2.mono k1.le,k2⟩
theorem GR{aN ts:aG}{x:AV}:(d7 aN ts x).2.1.length=aN.length:=by
 unfold d7;split
 ·split<;>simp
 ·rfl
theorem sY:∀{xs:List AV} {aN ts:aG},(cK aN ts xs).2.1.length=aN.length
 |[],_,_=>rfl
 |x::xs,aN,ts=>by simp only[cK];rw[sY,GR]
theorem GS{aN ts:aG}{x:AV}:(bF aN ts x).2.1.length=aN.length:=by
 unfold bF;split
 ·split<;>simp
 ·rfl
 · split
   ·rfl
   ·exact sY
 ·rfl
theorem pS:∀{xs:List AV} {aN ts:aG},(bn aN ts xs).2.1.length=aN.length
 |[],_,_=>rfl
 |x::xs,aN,ts=>by simp only[bn];rw[pS,GS]
theorem pT:∀{sh:Sh} {aN ts:aG},(cg aN ts sh).2.1.length=aN.length
 |[],_,_=>rfl
 |none::sh,aN,ts=>by simp only[cg];exact pT
 |some cs::sh,aN,ts=>by simp only[cg];rw[pT,pS]
def Gh.to(G:Gh)(m:Nat→Option Nat)(tks:List Tk):Gh:=
 { K:=G.K,role:=fun b=>match G.role b with| .shr s=>.shr s| .tok τ=>(match m τ with|some k=>.tok k|none=>.dH)|_=>.dH,pm:=fun _=>none,sm:=G.sm,tk:=fun k=>tks[k]? }
theorem RR{m:Nat→Option Nat}{tks:List Tk}{b s:Nat}(h:G.role b=.shr s):(G.to m tks).role b=.shr s:=by simp[Gh.to,h]
theorem xA{m:Nat→Option Nat}{tks:List Tk}{b τ k:Nat}(h:G.role b=.tok τ)(hm:m τ=some k):(G.to m tks).role b=.tok k:=by simp[Gh.to,h,hm]
theorem oW{m:Nat→Option Nat}{tks:List Tk}{b τ:Nat}(h:G.role b=.tok τ)(hm:m τ=none):(G.to m tks).role b=.dH:=by simp[Gh.to,h,hm]
theorem mB{m:Nat→Option Nat}{tks:List Tk}{b:Nat}(h:G.role b=.dH):(G.to m tks).role b=.dH:=by simp[Gh.to,h]
theorem xB{m:Nat→Option Nat}{tks:List Tk}{b d:Nat}(h:G.role b=.l0 d):(G.to m tks).role b=.dH:=by simp[Gh.to,h]
theorem Ct{ρ:bK}{G':Gh}(hK:G.K.le G'.K)(hs:∀s b,G.sm s=some b→G'.sm s=some b)(ht:∀τ t,G.tk τ=some t→G'.tk τ=some t){xs:List AV}{vs:List Value}(hp:eU xs=true)(h:az ρ G xs vs):az ρ G' xs vs:=
 jw hK hs ht (lz hp) h
theorem GU{ρ:bK}{G':Gh}(hK:G.K.le G'.K)(hs:∀s b,G.sm s=some b→G'.sm s=some b)(ht:∀τ t,G.tk τ=some t→G'.tk τ=some t){x:AV}{v:Value}(hp:bE x=true)(h:aA ρ G x v):aA ρ G' x v:=by
 cases x with
 |own l τ=>
   simp only[aA]at h⊢;obtain⟨t,e1,e2,e3,e4⟩:=h;exact⟨t,ht _ _ e1,e2,e3.mono hK,fun hl=>⟨(e4 hl).1,N4 (e4 hl).2 fun⟨b,o,e,r⟩=>⟨b,o,e,Row.mono hK _ _ _ _ r⟩⟩⟩
 |agg cs=>
   simp only[aA]at h⊢;obtain⟨vs,e,r⟩:=h;exact⟨vs,e,Ct hK hs ht (by simpa[bE] using hp) r⟩
 |_=>exact m8 hK hs (by simpa[bE] using hp) h
theorem jy{ρ:bK}{G':Gh}(hK:G.K.le G'.K)(hs:∀s b,G.sm s=some b→G'.sm s=some b)(ht:∀τ t,G.tk τ=some t→G'.tk τ=some t):∀{xs:List AV} {vs:List Value},xs.all bE=true→az ρ G xs vs→az ρ G' xs vs
 |[],_,_,h=>by simpa only[az] using h
 |x::xs,_,hp,h=>by
   simp only[List.all_cons,Bool.and_eq_true]at hp;simp only[az]at h⊢;obtain⟨v,r,e,e1,e2⟩:=h;exact⟨v,r,e,GU hK hs ht hp.1 e1,jy hK hs ht hp.2 e2⟩
theorem Inv.Kl{mem:List (Nat×List AV)}{sh:Sh}{aa:aG}(hi:Inv (num ns) G w mem sh aa){xs:List AV}{vs:List Value}(hp:xs.all bE=true)(hr:az (num ns) G xs vs) :
   ∃m tks,NS G (cZ aa xs sh).2.2.1 (cZ aa xs sh).2.2.2 m tks∧Inv (num ns) (G.to m tks) w [] (cZ aa xs sh).2.1 (cZ aa xs sh).2.2.2∧az (num ns) (G.to m tks) (cZ aa xs sh).1 vs:=by
 obtain⟨m0,tks0,hR,hrel⟩:=oV (NS.start hi) hp hr;obtain⟨m,tks,q1,q2,q3⟩:=jX (Go.Ab.ly G w) hR.zK hi.ly;have hN:=q1.zK;refine⟨m,tks,hN,?_,jy (G:=G.mc m tks) (G':=G.to m tks) (bm.le_refl _) (fun _ _ h=>h) (fun _ _ h=>h) (iB hp) (az.mono q1.le hrel)⟩;constructor
 ·exact hi.known
 · intro b o v hk;rcases hi.bh b o v hk with h|⟨τ,h⟩
   ·exact .inl (mB h)
   · cases hm:m τ with
     |none=>exact .inl (oW h hm)
     |some k=>exact .inr ⟨k,xA h hm⟩
 ·intro b hb;exact mB (hi.fresh b hb)
 ·intro d cells h;simp[look]at h
 ·intro d b h;simp[Gh.to]at h
 ·refine hi.P' (G':=G.to m tks) (fun _=>rfl) (fun b s hr=>RR hr) fun s cells' hs=>?_;obtain⟨cells,h1,h2,h3,h4⟩:=q3 s cells' hs;obtain⟨o,h2,h2'⟩:=h2;exact⟨cells,h1,⟨o,h2,h2'.to (fun _ _ _ h=>h) (fun _ e=>e) (fun _ r=>jy (G:=G.mc m tks) (G':=G.to m tks) (bm.le_refl _) (fun _ _ h=>h) (fun _ _ h=>h) (iZ h3) r)⟩,h3,h4⟩
 ·intro s b hs;have:=hi.eo s b hs;have e:(cZ aa xs sh).2.1.length=sh.length:=q2;omega
 · intro k n hn;have hts:(cZ aa xs sh).2.2.2=tks.map (·.len):=hN.ts;rw[hts,List.getElem?_map,Option.map_eq_some_iff]at hn;obtain⟨t,ht,rfl⟩:=hn;refine⟨t,ht,rfl,?_⟩;rcases hN.cap k t ht with⟨τ,hτ⟩|hc
   ·obtain⟨t',h1,h2⟩:=hN.map τ k hτ;rw[ht]at h2;cases h2;obtain⟨t'',e1,e2,e3⟩:=hi.cT τ _ (hi.eI τ t h1);rw[h1]at e1;cases e1;refine⟨e3.cap,e3.zero,fun hlt=>?_⟩;obtain⟨b,o,c,ty,f1,f2,f3,f4,f5⟩:=e3.spare hlt;exact⟨b,o,c,ty,f1,xA f2 hτ,f3,f4,f5⟩
   ·exact⟨by omega,fun h=>by omega,fun h=>h.elim (fun h=>by omega) (fun h=>by rw[hc.2]at h;cases h)⟩
 ·intro k t ht;have hts:(cZ aa xs sh).2.2.2=tks.map (·.len):=hN.ts;rw[hts,List.getElem?_map];have ht':tks[k]?=some t:=ht;rw[ht'];rfl
 ·exact fun b c hb=>⟨mB (hi.l5 b c hb).1,(hi.l5 b c hb).2⟩
theorem GV{aa:aG}{xs:List AV}{sh:Sh}:(cZ aa xs sh).2.2.1.length=aa.length:=by
 unfold cZ;simp only[pT,pS]
theorem bu.to{G1:Gh}{w1:World}(h:bu G w G1 w1)(m:Nat→Option Nat)(tks:List Tk):bu G w (G1.to m tks) w1 where
 size:=h.size
 os:=h.os
 tape:=h.tape
 output:=h.output
 K:=h.K
 sm:=h.sm
 dH:=fun b hb hr=>⟨mB (h.dH b hb hr).1,(h.dH b hb hr).2⟩
 iK:=fun b τ hb hr=>by
   rcases h.iK b τ hb hr with h1|⟨τ',h1⟩
   ·exact .inl (mB h1)
   · cases hm:m τ' with
     |none=>exact .inl (oW h1 hm)
     |some k=>exact .inr ⟨k,xA h1 hm⟩
 gF:=h.gF
def nY(N:Nat):mi→mi
 | .tok k=>.tok (k+N)
 | .shr s=>.shr s
 |_=>.dH
def Gh.back(G:Gh)(m:Nat→Option Nat)(G1:Gh)(n N:Nat):Gh:=
 { K:=G1.K,
   role:=fun b=>if b<n then (match G.role b with| .shr _=>nY N (G1.role b)| .tok τ=>(match m τ with|some _=>nY N (G1.role b)|none=>.tok τ)|r=>r) else nY N (G1.role b),
   pm:=G.pm,sm:=G1.sm,
   tk:=fun τ=>if τ<N then (match G.tk τ with|some t=>(match m τ with|some _=>some { t with base:=none,len:=t.len+1,cap:=t.len+1,own:=false }|none=>some t)|none=>none) else G1.tk (τ-N) }
theorem sZ{G1 G':Gh}{N:Nat}(hK:G1.K.le G'.K)(hs:∀s b,G1.sm s=some b→G'.sm s=some b)(ht:∀τ t,G1.tk τ=some t→G'.tk (τ+N)=some t){x:AV}{v:Value}(hp:kB x=true)(h:aA (num ns) G1 x v):aA (num ns) G' (iI N x) v:=by
 cases x with
 |own l τ=>
   simp only[iI,aA]at h⊢;obtain⟨t,e1,e2,e3,e4⟩:=h;exact⟨t,ht _ _ e1,e2,e3.mono hK,fun hl=>⟨(e4 hl).1,N4 (e4 hl).2 fun⟨b,o,e,r⟩=>⟨b,o,e,Row.mono hK _ _ _ _ r⟩⟩⟩
 |_=>
   simp only[iI];exact m8 (G:=G1) (G':=G') hK hs (by simpa[kB] using hp) h
theorem qJ{G1 G':Gh}{N:Nat}(hK:G1.K.le G'.K)(hs:∀s b,G1.sm s=some b→G'.sm s=some b)(ht:∀τ t,G1.tk τ=some t→G'.tk (τ+N)=some t):∀{xs:List AV} {vs:List Value},eU xs=true→az (num ns) G1 xs vs→az (num ns) G' (xs.map (iI N)) vs
 |[],_,_,h=>by simpa only[List.map_nil,az] using h
 |x::xs,_,hp,h=>by
   simp only[eU,Bool.and_eq_true]at hp;simp only[List.map_cons,az]at h⊢;obtain⟨v,r,e,e1,e2⟩:=h;exact⟨v,r,e,sZ hK hs ht hp.1 e1,qJ hK hs ht hp.2 e2⟩
theorem vO{G1 G':Gh}{N:Nat}(hK:G1.K.le G'.K)(hs:∀s b,G1.sm s=some b→G'.sm s=some b)(ht:∀τ t,G1.tk τ=some t→G'.tk (τ+N)=some t){x:AV}{v:Value}(hp:bE x=true)(h:aA (num ns) G1 x v):aA (num ns) G' (cm N x) v:=by
 cases x with
 |own l τ=>exact sZ (x:=.own l τ) hK hs ht rfl h
 |agg cs=>
   simp only[cm];split
   ·rename_i hf;exact gw (G:=G1) (G':=G') hK hs (by simpa[bD] using hf) h
   ·simp only[aA]at h⊢;obtain⟨vs,e,r⟩:=h;exact⟨vs,e,qJ hK hs ht (by simpa[bE] using hp) r⟩
 |_=>
   simp only[cm];exact m8 (G:=G1) (G':=G') hK hs (by simpa[bE] using hp) h
theorem nZ{G1 G':Gh}{N:Nat}(hK:G1.K.le G'.K)(hs:∀s b,G1.sm s=some b→G'.sm s=some b)(ht:∀τ t,G1.tk τ=some t→G'.tk (τ+N)=some t):∀{xs:List AV} {vs:List Value},xs.all bE=true→az (num ns) G1 xs vs→az (num ns) G' (xs.map (cm N)) vs
 |[],_,_,h=>by simpa only[List.map_nil,az] using h
 |x::xs,_,hp,h=>by
   simp only[List.all_cons,Bool.and_eq_true]at hp;simp only[List.map_cons,az]at h⊢;obtain⟨v,r,e,e1,e2⟩:=h;exact⟨v,r,e,vO hK hs ht hp.1 e1,nZ hK hs ht hp.2 e2⟩
theorem FD{m:Nat→Option Nat}{G1:Gh}{n N:Nat}:∀τ t,G1.tk τ=some t→(G.back m G1 n N).tk (τ+N)=some t:=by
 intro τ t h;simp only[Gh.back];rw[if_neg (by omega),Nat.add_sub_cancel];exact h
theorem GW{m:Nat→Option Nat}{G1:Gh}{n N:Nat}{xs:List AV}{vs:List Value}(hp:xs.all bE=true)(h:az (num ns) G1 xs vs):az (num ns) (G.back m G1 n N) (xs.map (cm N)) vs:=
 nZ (G1:=G1) (G':=G.back m G1 n N) (N:=N) (bm.le_refl G1.K) (fun _ _ h=>h) FD hp h
theorem zU{N n:Nat}{x:AV}(h:aI n x=true):aI n (iI N x)=true:=by
 cases x with
 |own _ _=>rfl
 |_=>exact h
theorem oX{N n:Nat}:∀{xs:List AV},aI.cD n xs=true→aI.cD n (xs.map (iI N))=true
 |[],_=>rfl
 |x::xs,h=>by
   simp only[aI.cD,Bool.and_eq_true]at h;simp only[List.map_cons,aI.cD,zU h.1,oX h.2,Bool.and_self]
theorem zV{N n:Nat}{x:AV}(h:aI n x=true):aI n (cm N x)=true:=by
 cases x with
 |own _ _=>rfl
 |agg cs=>
   simp only[cm];split
   ·exact h
   ·simp only[aI]at h⊢;exact oX h
 |_=>exact h
theorem zW{N:Nat}{x:AV}(h:a0 x=true):a0 (cm N x)=true:=by
 cases x with
 |own _ _=>rfl
 |agg _=>simp[a0]at h
 |_=>exact h
theorem Inv.back{G1:Gh}{w1:World}{mem:List (Nat×List AV)}{sh sh':Sh}{aa aN ts ts':aG}{m:Nat→Option Nat}{tks:List Tk}(hi:Inv (num ns) G w mem sh aa)(hN:NS G aN ts m tks)(hol:aN.length=aa.length)
   (h1:Inv (num ns) G1 w1 [] sh' ts') (he:bu (G.to m tks) w G1 w1) :
   Inv (num ns) (G.back m G1 w.heap.size aa.length) w1 mem (gi aa.length sh') (aN++ts')∧G.le (G.back m G1 w.heap.size aa.length)∧bu G w (G.back m G1 w.heap.size aa.length) w1:=by
 have htl:∀τ t,G.tk τ=some t→τ<aa.length:=fun τ t h=>(List.getElem?_eq_some_iff.1 (hi.eI τ t h)).1
 have tkNone:∀τ t,G.tk τ=some t→m τ=none→(G.back m G1 w.heap.size aa.length).tk τ=some t:=by
   intro τ t h hm;simp only[Gh.back,if_pos (htl τ t h),h,hm]
 have tkSome:∀τ t k,G.tk τ=some t→m τ=some k→(G.back m G1 w.heap.size aa.length).tk τ=some { t with base:=none,len:=t.len+1,cap:=t.len+1,own:=false }:=by
   intro τ t k h hm;simp only[Gh.back,if_pos (htl τ t h),h,hm]
 have hle:G.le (G.back m G1 w.heap.size aa.length):=⟨he.K,fun _ _ h=>h,he.sm,fun τ t h=>by
   cases hm:m τ with
   |none=>exact⟨t,tkNone τ t h hm,⟨Nat.le_refl _,Tk.gD _⟩,fun _=>rfl⟩
   |some k=>exact⟨_,tkSome τ t k h hm,⟨by simp,fun _=>⟨rfl,by simp⟩,.inl ⟨rfl,by simp⟩⟩,fun e=>by simp at e⟩⟩
 have rImm:∀b,b<w.heap.size→G.role b=.dH→(G.back m G1 w.heap.size aa.length).role b=.dH:=by intro b hb hr;simp only[Gh.back,if_pos hb,hr]
 have rPriv:∀b d,b<w.heap.size→G.role b=.l0 d→(G.back m G1 w.heap.size aa.length).role b=.l0 d:=by intro b d hb hr;simp only[Gh.back,if_pos hb,hr]
 have rFree:∀b τ,b<w.heap.size→G.role b=.tok τ→m τ=none→(G.back m G1 w.heap.size aa.length).role b=.tok τ:=by intro b τ hb hr hm;simp only[Gh.back,if_pos hb,hr,hm]
 have rTok:∀b τ k,b<w.heap.size→G.role b=.tok τ→m τ=some k→(G.back m G1 w.heap.size aa.length).role b=nY aa.length (G1.role b):=by intro b τ k hb hr hm;simp only[Gh.back,if_pos hb,hr,hm]
 have rShr:∀b s,b<w.heap.size→G.role b=.shr s→(G.back m G1 w.heap.size aa.length).role b=nY aa.length (G1.role b):=by intro b s hb hr;simp only[Gh.back,if_pos hb,hr]
 have rNew:∀b,¬b<w.heap.size→(G.back m G1 w.heap.size aa.length).role b=nY aa.length (G1.role b):=by intro b hb;simp only[Gh.back,if_neg hb]
 have rOut:∀b,G1.role b≠.dH→(G.back m G1 w.heap.size aa.length).role b=nY aa.length (G1.role b):=by
   intro b hn;by_cases hb:b<w.heap.size
   · cases hr:G.role b with
     |shr s=>exact rShr b s hb hr
     |dH=>exact absurd (he.dH b hb (mB hr)).1 hn
     |l0 d=>exact absurd (he.dH b hb (xB hr)).1 hn
     |tok τ=>
       cases hm:m τ with
       |none=>exact absurd (he.dH b hb (oW hr hm)).1 hn
       |some k=>exact rTok b τ k hb hr hm
   ·exact rNew b hb
 have shKnown:∀b o v,G1.K b o=some v→nY aa.length (G1.role b)=.dH∨∃τ,nY aa.length (G1.role b)=.tok τ:=by
   intro b o v hk;rcases h1.bh b o v hk with h|⟨τ,h⟩
   ·left;rw[h];rfl
   ·right;exact⟨τ+aa.length,by rw[h];rfl⟩
 have hevo:bu G w (G.back m G1 w.heap.size aa.length) w1:={
           size:=he.size,os:=he.os,tape:=he.tape,output:=he.output,K:=he.K,sm:=he.sm,
           dH:=fun b hb hr=>⟨rImm b hb hr,(he.dH b hb (mB hr)).2⟩
           iK:=fun b τ hb hr=>by
             cases hm:m τ with
             |none=>exact .inr ⟨τ,rFree b τ hb hr hm⟩
             |some k=>
               rw[rTok b τ k hb hr hm];rcases he.iK b k hb (xA hr hm) with h|⟨τ',h⟩
               ·left;rw[h];rfl
               ·right;exact⟨τ'+aa.length,by rw[h];rfl⟩
           gF:=fun b o v hb hr hk=>he.gF b o v hb (mB hr) hk }
 refine⟨⟨h1.known,?_,?_,?_,hi.gE,?_,?_,?_,?_,hi.hU hevo⟩,hle,hevo⟩
 · intro b o v hk;have hk1:G1.K b o=some v:=hk;by_cases hb:b<w.heap.size
   · cases hr:G.role b with
     |shr s=>rw[rShr b s hb hr];exact shKnown b o v hk1
     |dH=>exact .inl (rImm b hb hr)
     |tok τ=>
       cases hm:m τ with
       |none=>exact .inr ⟨τ,rFree b τ hb hr hm⟩
       |some k=>rw[rTok b τ k hb hr hm];exact shKnown b o v hk1
     |l0 d=>
       exfalso;have hk0:G.K b o=some v:=he.gF b o v hb (xB hr) hk1;rcases hi.bh b o v hk0 with h|⟨τ,h⟩<;>rw[hr]at h<;>simp at h
   ·rw[rNew b hb];exact shKnown b o v hk1
 ·intro b hb;have:=he.size;rw[rNew b (by omega),h1.fresh b hb];rfl
 ·intro d cs hd;obtain⟨b,e1,e2,e3⟩:=hi.cG d cs hd;obtain⟨hr,c,t,hh,hrel⟩:=e2;have hb:=cB hh;exact⟨b,e1,⟨rPriv b d hb hr,c,t,((he.dH b hb (xB hr)).2).trans hh,az.mono hle hrel⟩,e3⟩
 · intro s cs0 hs0;simp only[gi,List.getElem?_map,Option.map_eq_some_iff]at hs0;obtain⟨o,hs,ho⟩:=hs0;cases o with
   |none=>simp at ho
   |some cs=>
     simp at ho;subst ho;obtain⟨b,e1,e2,e3,e4⟩:=h1.cR s cs hs;obtain⟨hr,o,hh,hrel⟩:=e2;refine⟨b,e1,⟨?_,o,hh,hrel.to (fun _ _ _ h=>h) (fun kvs e=>by subst e;rfl) (fun _ r=>GW (iZ e3) r)⟩,?_,?_⟩
     ·rw[rOut b.1 (by rw[hr];simp),hr];rfl
     ·rw[List.all_eq_true];intro x hx;obtain⟨y,hy,rfl⟩:=List.mem_map.1 hx;exact zW (List.all_eq_true.1 e3 y hy)
     ·rw[List.all_eq_true];intro x hx;obtain⟨y,hy,rfl⟩:=List.mem_map.1 hx;exact zV (List.all_eq_true.1 e4 y hy)
 ·intro s b h;have:=h1.eo s b h;simp only[gi,List.length_map];exact this
 · intro τ n hn;by_cases hτ:τ<aa.length
   · rw[List.getElem?_append_left (by omega)]at hn;obtain⟨t,e1,e2,e3⟩:=hi.cT τ _ (List.getElem?_eq_getElem hτ);cases hm:m τ with
     |none=>
       have:=hN.free τ t e1 hm;rw[hn]at this;simp at this;refine⟨t,tkNone τ t e1 hm,this.symm,e3.cap,e3.zero,fun hlt=>?_⟩;obtain⟨b,o,c,ty,f1,f2,f3,f4,f5⟩:=e3.spare hlt;have hb:=cB f3;exact⟨b,o,c,ty,f1,rFree b τ hb f2 hm,((he.dH b hb (oW f2 hm)).2).trans f3,f4,fun j v hk=>f5 j v (he.gF b j v hb (oW f2 hm) hk)⟩
     |some k=>
       have:=hN.used τ t k e1 hm;rw[hn]at this;simp at this;exact⟨_,tkSome τ t k e1 hm,this.symm,⟨Nat.le_refl _,fun h=>by simp at h,fun h=>by simp at h⟩⟩
   ·rw[List.getElem?_append_right (by omega),hol]at hn;obtain⟨t,e1,e2,e3⟩:=h1.cT _ n hn;refine⟨t,by simp only[Gh.back,if_neg hτ];exact e1,e2,e3.cap,e3.zero,fun hlt=>?_⟩;obtain⟨b,o,c,ty,f1,f2,f3,f4,f5⟩:=e3.spare hlt;refine⟨b,o,c,ty,f1,?_,f3,f4,f5⟩;rw[rOut b (by rw[f2];simp),f2];simp only[nY];rw[Nat.sub_add_cancel (by omega)]
 · intro τ t ht;simp only[Gh.back]at ht;split at ht
   · rename_i hτ;rw[List.getElem?_append_left (by omega)];split at ht
     · rename_i t0 h0;split at ht
       ·rename_i k hm;simp at ht;subst ht;exact hN.used τ t0 k h0 hm
       ·rename_i hm;simp at ht;subst ht;exact hN.free τ t0 h0 hm
     ·simp at ht
   ·rename_i hτ;rw[List.getElem?_append_right (by omega),hol];exact h1.eI _ t ht
theorem oY{G1 G':Gh}{N:Nat}(hK:G1.K.le G'.K)(hs:∀s b,G1.sm s=some b→G'.sm s=some b)(ht:∀τ t,G1.tk τ=some t→G'.tk (τ+N)=some t){rs:List AV}{v:Value}(hp:rs.all bE=true)(h:da (num ns) G1 rs v):da (num ns) G' (rs.map (cm N)) v:=by
 unfold da at h;split at h
 ·rename_i r;simp only[List.all_cons,List.all_nil,Bool.and_true]at hp;simp only[List.map_cons,List.map_nil,da];exact vO hK hs ht hp h
 · rename_i hn;obtain⟨vs,e,h⟩:=h;unfold da;split
   · rename_i r he;cases rs with
     |nil=>simp at he
     |cons a rs=>
       cases rs with
       |nil=>exact absurd rfl (hn a)
       |cons _ _=>simp at he
   ·exact⟨vs,e,nZ hK hs ht hp h⟩
theorem zX{m:Nat→Option Nat}{G1:Gh}{n N:Nat}{rs:List AV}{v:Value}(hp:rs.all bE=true)(h:da (num ns) G1 rs v):da (num ns) (G.back m G1 n N) (rs.map (cm N)) v:=
 oY (G1:=G1) (G':=G.back m G1 n N) (N:=N) (bm.le_refl G1.K) (fun _ _ h=>h) FD hp h
def Wl(N:Nat):mi→mi
 | .tok k=>.tok (k+N)
 |_=>.dH
def Gh.FE(G:Gh):Gh:={ K:=G.K,role:=fun _=>.dH,pm:=fun _=>none,sm:=fun _=>none,tk:=fun _=>none }
theorem Inv.FE{mem:List (Nat×List AV)}{sh:Sh}{aa:aG}(hi:Inv (num ns) G w mem sh aa):Inv (num ns) G.FE w [] [] [] where
 known:=hi.known
 bh:=fun _ _ _ _=>.inl rfl
 fresh:=fun _ _=>rfl
 cG:=fun d c h=>by simp[look]at h
 gE:=fun d b h=>by simp[Gh.FE]at h
 cR:=fun s c h=>by simp at h
 eo:=fun s b h=>by simp[Gh.FE]at h
 cT:=fun τ n h=>by simp at h
 eI:=fun τ t h=>by simp[Gh.FE]at h
 l5:=fun b c hb=>⟨rfl,(hi.l5 b c hb).2⟩
def Gh.gY(G:Gh)(G1:Gh)(n N:Nat):Gh:=
 { K:=G1.K,role:=fun b=>if b<n then G.role b else Wl N (G1.role b),pm:=G.pm,sm:=G.sm,tk:=fun τ=>if τ<N then G.tk τ else G1.tk (τ-N) }
theorem Inv.gY{G1:Gh}{w1:World}{mem:List (Nat×List AV)}{sh:Sh}{aa ts':aG}(hi:Inv (num ns) G w mem sh aa)
   (h1:Inv (num ns) G1 w1 [] [] ts') (he:bu G.FE w G1 w1) :
   Inv (num ns) (G.gY G1 w.heap.size aa.length) w1 mem sh (aa++ts')∧G.le (G.gY G1 w.heap.size aa.length)∧bu G w (G.gY G1 w.heap.size aa.length) w1:=by
 have htl:∀τ t,G.tk τ=some t→τ<aa.length:=fun τ t h=>(List.getElem?_eq_some_iff.1 (hi.eI τ t h)).1;have hK:G.K.le G1.K:=he.K
 have rOld:∀b,b<w.heap.size→(G.gY G1 w.heap.size aa.length).role b=G.role b:=fun b hb=>by simp only[Gh.gY,if_pos hb]
 have rNew:∀b,¬b<w.heap.size→(G.gY G1 w.heap.size aa.length).role b=Wl aa.length (G1.role b):=fun b hb=>by simp only[Gh.gY,if_neg hb]
 have same:∀b,b<w.heap.size→w1.heap[b]?=w.heap[b]?:=fun b hb=>(he.dH b hb rfl).2;have Kold:∀b o v,b<w.heap.size→G1.K b o=some v→G.K b o=some v:=fun b o v hb hk=>he.gF b o v hb rfl hk
 have hle:G.le (G.gY G1 w.heap.size aa.length):=⟨hK,fun _ _ h=>h,fun _ _ h=>h,fun τ t h=>⟨t,by simp only[Gh.gY,if_pos (htl τ t h)];exact h,⟨Nat.le_refl _,Tk.gD _⟩,fun _=>rfl⟩⟩
 have hevo:bu G w (G.gY G1 w.heap.size aa.length) w1:={
           size:=he.size,os:=he.os,tape:=he.tape,output:=he.output,K:=hK,sm:=fun _ _ h=>h,
           dH:=fun b hb hr=>⟨(rOld b hb).trans hr,same b hb⟩
           iK:=fun b τ hb hr=>.inr ⟨τ,(rOld b hb).trans hr⟩
           gF:=fun b o v hb _ hk=>Kold b o v hb hk }
 refine⟨⟨h1.known,?_,?_,?_,hi.gE,?_,hi.eo,?_,?_,hi.hU hevo⟩,hle,hevo⟩
 · intro b o v hk;by_cases hb:b<w.heap.size
   ·rw[rOld b hb];exact hi.bh b o v (Kold b o v hb hk)
   · rw[rNew b hb];rcases h1.bh b o v hk with h|⟨τ,h⟩
     ·left;rw[h];rfl
     ·right;exact⟨τ+aa.length,by rw[h];rfl⟩
 ·intro b hb;have:=he.size;rw[rNew b (by omega),h1.fresh b hb];rfl
 · intro d cs hd;obtain⟨b,e1,e2,e3⟩:=hi.cG d cs hd;have hlt:b<w.heap.size:=by obtain⟨_,_,_,hh,_⟩:=e2;exact cB hh
   exact⟨b,e1,e2.mono hle (rOld b hlt) (same b hlt),e3⟩
 ·intro s cs hs;obtain⟨b,e1,e2,e3⟩:=hi.cR s cs hs;have hlt:b.1<w.heap.size:=e2.lt;exact⟨b,e1,e2.mono hle (rOld b.1 hlt) (same b.1 hlt),e3⟩
 · intro τ n hn;by_cases hτ:τ<aa.length
   ·rw[List.getElem?_append_left hτ]at hn;obtain⟨t,e1,e2,e3⟩:=hi.cT τ n hn;refine⟨t,by simp only[Gh.gY,if_pos hτ];exact e1,e2,e3.cap,e3.zero,fun hlt=>?_⟩;obtain⟨b,o,c,ty,f1,f2,f3,f4,f5⟩:=e3.spare hlt;have hlt':=cB f3;exact⟨b,o,c,ty,f1,(rOld b hlt').trans f2,(same b hlt').trans f3,f4,fun j v hkk=>f5 j v (Kold b j v hlt' hkk)⟩
   · rw[List.getElem?_append_right (by omega)]at hn;obtain⟨t,e1,e2,e3⟩:=h1.cT _ n hn;refine⟨t,by simp only[Gh.gY,if_neg hτ];exact e1,e2,e3.cap,e3.zero,fun hlt=>?_⟩;obtain⟨b,o,c,ty,f1,f2,f3,f4,f5⟩:=e3.spare hlt
     have hb:¬b<w.heap.size:=fun hb=>by
       have:=(he.dH b hb rfl).1;rw[f2]at this;cases this
     refine⟨b,o,c,ty,f1,?_,f3,f4,f5⟩;rw[rNew b hb,f2];simp only[Wl];rw[Nat.sub_add_cancel (by omega)]
 · intro τ t ht;simp only[Gh.gY]at ht;split at ht
   ·rename_i hτ;rw[List.getElem?_append_left hτ];exact hi.eI τ t ht
   ·rename_i hτ;rw[List.getElem?_append_right (by omega)];exact h1.eI _ t ht
theorem GX{G1:Gh}{w1:World}{ts':aG}{n N:Nat}(h1:Inv (num ns) G1 w1 [] [] ts'){rs:List AV}{v:Value}(hp:rs.all bE=true)(h:da (num ns) G1 rs v):da (num ns) (G.gY G1 n N) (rs.map (cm N)) v:=
 oY (G1:=G1) (G':=G.gY G1 n N) (N:=N) (bm.le_refl G1.K) (fun s b h=>by have:=h1.eo s b h;simp at this) (fun τ t h=>by simp only[Gh.gY];rw[if_neg (by omega),Nat.add_sub_cancel];exact h) hp h
end
end Go.Ab
namespace Go.Ab
section
variable {P:Program} {ns:Names} {G:Gh} {w:World}
theorem vP{rs:List PV}{v:Value}(h:jv G.K rs v):aA (num ns) G (sG rs) v:=by
 match rs,h with
 |[r],h=>simp only[jv]at h;simp only[sG,aA];exact h
 |[],h=>simp only[jv]at h;simp only[sG,aA];obtain⟨vs,e,h⟩:=h;exact⟨vs,e,fZ h⟩
 |_::_::_,h=>simp only[jv]at h;simp only[sG,aA];obtain⟨vs,e,h⟩:=h;exact⟨vs,e,fZ h⟩
theorem vQ{rs:List AV}{v:Value}(h:da (num ns) G rs v):aA (num ns) G (oJ rs) v:=by
 match rs,h with
 |[r],h=>simp only[da]at h;simp only[oJ];exact h
 |[],h=>simp only[da]at h;simp only[oJ,aA];exact h
 |_::_::_,h=>simp only[da]at h;simp only[oJ,aA];exact h
theorem GY{v:AV}{rv:Value}(h:aA (num ns) G v rv):aA (num ns) G (kA v) rv:=by
 unfold kA;split
 ·rename_i p hp;simp only[aA];exact mZ hp h
 ·exact h
theorem s6{own:List Nat}:∀{i:Nat} {xs:List AV} {vs:List Value},az (num ns) G xs vs→az (num ns) G (dO own i xs) vs
 |_,[],_,h=>by simpa[dO,az] using h
 |i,x::xs,_,h=>by
   simp only[az]at h;obtain⟨v,r,rfl,e1,e2⟩:=h;simp only[dO,az];refine⟨v,r,rfl,?_,s6 e2⟩;split
   ·exact e1
   ·exact GY e1
theorem Kq{A:kD}{dst:Option Nat}{c:Call}{k:AK}{args:List Operand}(h:bo P ns A dst (.call c)=some (k,args))(hk:k.calls=true) :
   (∃f g,c.callee=.value (.func f)∧ns.of f=some g∧args=c.args.toList∧(k=.aJ g∨k=.d0 g∨(∃own,k=.bp g own)∨(∃sz by_,(k=.clone sz by_∨∃ag,k=.jc sz by_ ag)∧look ns.cl g=some (sz,by_))∨k=.je g)) ∨
   (∃t,c.callee=.value (.tmp t)∧args=.tmp t::c.args.toList∧(k=.ir∨k=.eS)):=by
 obtain⟨callee,cargs,ctypes⟩:=c;simp only[bo]at h;split at h
 ·split at h<;>simp at h<;>(obtain⟨rfl,_⟩:=h;simp[AK.calls]at hk)
 ·split at h<;>simp at h;obtain⟨rfl,_⟩:=h;simp[AK.calls]at hk
 ·split at h<;>simp at h;obtain⟨rfl,_⟩:=h;simp[AK.calls]at hk
 · split at h
   · split at h
     · rw[Option.ite_none_right_eq_some]at h;obtain⟨_,h⟩:=h;split at h
       ·simp only[Option.map_eq_some_iff,Prod.mk.injEq]at h;obtain⟨_,_,rfl,_⟩:=h;simp[AK.calls]at hk
       ·split at h<;>(simp at h;obtain⟨rfl,_⟩:=h;simp[AK.calls]at hk)
     ·simp at h
   ·simp at h
 · split at h
   · split at h
     · split at h<;>simp at h
       obtain⟨rfl,_⟩:=h;simp[AK.calls]at hk
     ·simp at h
   ·simp at h
 · split at h
   · split at h<;>simp at h
     obtain⟨rfl,_⟩:=h;simp[AK.calls]at hk
   ·simp at h
 · rename_i f;left;split at h
   · rename_i g hg;split at h
     · rename_i sz by_ hcl;rw[Option.ite_none_right_eq_some]at h;obtain⟨_,h⟩:=h;split at h
       · split at h
         ·simp only[Option.map_eq_some_iff,Prod.mk.injEq]at h;obtain⟨ag,_,h1,h2⟩:=h;exact⟨f,g,rfl,hg,h2.symm,.inr (.inr (.inr (.inl ⟨sz,by_,.inr ⟨ag,h1.symm⟩,hcl⟩)))⟩
         ·simp at h
       ·simp only[Option.some.injEq,Prod.mk.injEq]at h;exact⟨f,g,rfl,hg,h.2.symm,.inr (.inr (.inr (.inl ⟨sz,by_,.inl h.1.symm,hcl⟩)))⟩
     · split at h
       ·simp at h;exact⟨f,g,rfl,hg,h.2.symm,.inr (.inr (.inr (.inr h.1.symm)))⟩
       · split at h
         ·simp at h;exact⟨f,g,rfl,hg,h.2.symm,.inr (.inr (.inl ⟨_,h.1.symm⟩))⟩
         · split at h
           ·simp at h;exact⟨f,g,rfl,hg,h.2.symm,.inr (.inl h.1.symm)⟩
           ·simp at h;exact⟨f,g,rfl,hg,h.2.symm,.inl h.1.symm⟩
   ·simp at h
 · rename_i t;right;split at h
   ·simp at h;exact⟨t,rfl,h.2.symm,.inr h.1.symm⟩
   ·simp at h;exact⟨t,rfl,h.2.symm,.inl h.1.symm⟩
 ·simp at h
mutual
theorem FG:∀{a b:PV},uL a b=true→a=b
 | .bool a,b,h=>by cases b<;>simp[uL]at h;rw[h]
 | .int k n,b,h=>by cases b<;>simp[uL]at h;rw[h.1,h.2]
 | .str s,b,h=>by cases b<;>simp[uL]at h;rw[h]
 | .agg l,b,h=>by
   cases b with
   |agg q=>simp only[uL]at h;rw[s7 h]
   |_=>simp[uL]at h
 | .aw l,b,h=>by
   cases b with
   |aw q=>simp only[uL]at h;rw[s7 h]
   |_=>simp[uL]at h
theorem s7:∀{a b:List PV},sH a b=true→a=b
 |[],b,h=>by cases b with|nil=>rfl|cons _ _=>simp[sH]at h
 |x::r,b,h=>by
   cases b with
   |nil=>simp[sH]at h
   |cons y q=>
     simp only[sH,Bool.and_eq_true]at h;rw[FG h.1,s7 h.2]
end
theorem FH:∀{a b:List AV},uM a b=true→a=b
 |[],b,h=>by cases b with|nil=>rfl|cons _ _=>simp[uM]at h
 |x::r,b,h=>by
   cases b with
   |nil=>simp[uM]at h
   |cons y q=>
     simp only[uM,Bool.and_eq_true]at h;rw[FH h.2];have h1:=h.1;cases x with
     |pv p=>cases y with
       |pv p'=>simp only[TZ]at h1;rw[FG h1]
       |_=>simp[TZ]at h1
     |_=>simp[TZ]at h1
theorem xC:∀{a b:Sh},nF a b=true→a=b
 |[],b,h=>by cases b with|nil=>rfl|cons _ _=>simp[nF]at h
 |none::r,b,h=>by
   cases b with
   |nil=>simp[nF]at h
   |cons y q=>cases y with
     |none=>simp only[nF]at h;rw[xC h]
     |some _=>simp[nF]at h
 |some x::r,b,h=>by
   cases b with
   |nil=>simp[nF]at h
   |cons y q=>cases y with
     |none=>simp[nF]at h
     |some y=>
       simp only[nF,Bool.and_eq_true]at h;rw[FH h.1,xC h.2]
theorem uY{orc:eH}{vals:List AV}{cells:Option (List AV)}{sh:Sh}{aa:aG}{out:Out}(h:exec orc .eS vals cells sh aa=some out):exec orc .ir vals cells sh aa=some out:=by
 cases vals with
 |nil=>simp[exec]at h
 |cons f vals=>
   cases f with
   |fn g cap=>
     simp only[exec,Option.bind_eq_some_iff]at h;obtain⟨⟨v,sh',ts⟩,h1,h2⟩:=h;simp only[Wh,Option.ite_none_right_eq_some,Option.some.injEq]at h2;obtain⟨h3,rfl⟩:=h2;have:=xC h3;subst this;simp[exec,h1]
   |_=>simp[exec]at h
theorem mC{orc:eH}(horc:iA P ns orc){f g:Nat}{own:List Nat}(hg:ns.of f=some g){vals:List AV}{vs:List Value}{x:AV}{mem:List (Nat×List AV)}{sh sh':Sh}{aa toks':aG}
   (hr:az (num ns) G vals vs) (hi:Inv (num ns) G w mem sh aa) (h:dU orc g own vals sh aa=some (x,sh',toks')) :
   Calls P f vs.toArray w fun e w'=>∃v G',e=.returned v∧aA (num ns) G' x v∧Inv (num ns) G' w' mem sh' toks'∧G.le G'∧bu G w G' w':=by
 unfold dU at h;simp only[Option.ite_none_right_eq_some,Option.map_eq_some_iff]at h;obtain⟨hp,⟨rs,sh1,ts1⟩,h1,h2⟩:=h;simp only[Prod.mk.injEq]at h2;obtain⟨rfl,rfl,rfl⟩:=h2;obtain⟨hC,hpr⟩:=horc.i g f _ _ rs _ sh1 ts1 hg (iB hp) h1;obtain⟨m,tks,hN,hto,hargs⟩:=hi.Kl hp (s6 (own:=own) (i:=0) hr);refine (hC (G.to m tks) w vs hto hargs).mono ?_
 rintro e w' ⟨v,G1,rfl,gA,hi1,hevo⟩
 obtain⟨g1,g2,g3⟩:=hi.back hN GV hi1 hevo;exact⟨v,_,rfl,vQ (zX hpr gA),g1,g2,g3⟩
theorem zY{orc:eH}(horc:iA P ns orc){f g:Nat}(hg:ns.of f=some g){cz:List PV}{vs:List Value}{rs:List AV}{ts1:aG}{mem:List (Nat×List AV)}{sh:Sh}{aa:aG}
   (hr:jL G.K cz vs) (hi:Inv (num ns) G w mem sh aa) (h:orc.i g (cz.map .pv) [] []=some (rs,[],ts1)) :
   Calls P f vs.toArray w fun e w'=>∃v G',e=.returned v∧aA (num ns) G' (oJ (rs.map (cm aa.length))) v∧Inv (num ns) G' w' mem sh (aa++ts1)∧G.le G'∧bu G w G' w':=by
 have hpass:(cz.map AV.pv).all bE=true:=by
   rw[List.all_eq_true];intro x hx;obtain⟨p,_,rfl⟩:=List.mem_map.1 hx;rfl
 obtain⟨hC,hpr⟩:=horc.i g f _ _ rs _ _ ts1 hg hpass h;refine (hC G.FE w vs hi.FE (fZ (ρ:=num ns) (G:=G.FE) hr)).mono ?_
 rintro e w' ⟨v,G1,rfl,gA,hi1,hevo⟩
 obtain⟨g1,g2,g3⟩:=hi.gY hi1 hevo;exact⟨v,_,rfl,vQ (GX hi1 hpr gA),g1,g2,g3⟩
theorem Ob(hB:gJ P ns){orc:eH}(horc:iA P ns orc){A:kD}{o:Oper}{k:AK}{args:List Operand}(hc:bo P ns A o.dst o.op=some (k,args)){a:Act}{vals:List AV}{out:Out}
   {mem:List (Nat×List AV)} {sh:Sh} {aa:aG} (hr:az (num ns) G vals (args.map a.eval)) (hi:Inv (num ns) G w mem sh aa)
   (h:exec orc k vals (k.key.bind (look mem)) sh aa=some out) {next:Act→World→Prop} {Q:Exit→Act→World→Prop}
   (hn:∀v w' G',aA (num ns) G' out.val v→Inv (num ns) G' w' (ez mem k.key out.cells) out.sh out.aa→G.le G'→bu G w G' w'→next (a.put o.dst v) w'):o.wp P a w next Q:=by
 cases hk:k.calls with
 |false=>
   obtain⟨n,v,w',G',g1,g2,g3,g4,g5,g6⟩:=qC hc hk hr hi h;unfold Oper.wp;rw[g1];rcases g2 with rfl|⟨rfl,rfl⟩
   ·exact hn v w' G' g3 g4 g5 g6
   ·exact hn undef w' G' g3 g4 g5 g6
 |true=>
   obtain⟨dst,op,type,pos,after,guard⟩:=o;have hcall:∃c,op=.call c:=Co (k:=k) (by cases k<;>simp_all[AK.calls]) hc;obtain⟨c,rfl⟩:=hcall;rcases Kq hc hk with⟨f,g,hcal,hg,rfl,hk'⟩|⟨t,hcal,rfl,hkv⟩
   · have hrun:(execOp a.eval ⟨dst,.call c,type,pos,after,guard⟩).run P w=.ok (.enter f ((c.args.toList.map a.eval).toArray)) w:=by
       obtain⟨callee,cargs,ctypes⟩:=c;simp only at hcal;subst hcal;simp only[execOp,resolve,Sem.run_bind,Act.eval,Deferred.ofValue,Sem.run_pure,Result.andThen_ok,invoke];rw[lq hB hg];congr 2;apply Array.ext';simp
     rcases hk' with rfl|rfl|⟨own,rfl⟩|⟨sz,by_,hkc,hcl⟩|rfl
     · -- for pure data
       simp only[exec]at h;split at h
       · rename_i cz hp;simp only[Option.map_eq_some_iff]at h;obtain⟨rs,h1,rfl⟩:=h;have hC:=horc.p g f cz rs hg h1 G.K w _ (fun b c hb=>(hi.l5 b c hb).2) hi.known (kY hp hr);unfold Oper.wp;rw[hrun];refine hC.mono ?_
         rintro e w' ⟨v,K',rfl,gA,hK,hold,hkk,hb⟩
         obtain⟨g1,g2,g3⟩:=hi.pure hK hold hkk hb;exact hn v w' _ (vP gA) (by simpa[AK.key,ez] using g1) g2 g3
       ·simp at h
     · -- for pure data,arrays frozen
       simp only[exec]at h;split at h
       · rename_i cz hp;simp only[Option.map_eq_some_iff]at h;obtain⟨rs,h1,rfl⟩:=h;obtain⟨G1,k1,k2,k3,k4,k5⟩:=Inv.kill (vals.flatMap ei) hi;have hC:=horc.p g f cz rs hg h1 G1.K w _ (fun b c hb=>(k1.l5 b c hb).2) k1.known (qD k2 k4 hi.sV (fun s hs=>hs) hp hr);unfold Oper.wp;rw[hrun];refine hC.mono ?_
         rintro e w' ⟨v,K',rfl,gA,hK,hold,hkk,hb⟩
         obtain⟨g1,g2,g3⟩:=k1.pure hK hold hkk hb;exact hn v w' _ (vP gA) (by simpa[AK.key,ez,c_] using g1) (Gh.le_trans k2 g2) (k3.trans g3)
       ·simp at h
     · -- with the shared memory
       simp only[exec,Option.map_eq_some_iff]at h;obtain⟨⟨x,sh',ts'⟩,h1,rfl⟩:=h;have hC:=mC horc hg hr hi h1;unfold Oper.wp;rw[hrun];refine hC.mono ?_
       rintro e w' ⟨v,G',rfl,g1,g2,g3,g4⟩
       exact hn v w' G' g1 (by simpa[AK.key,ez] using g2) g3 g4
     · -- slices.Clone
       have hkey:k.key=none:=by rcases hkc with rfl|⟨ag,rfl⟩<;>rfl
       rw[hkey]at hn;rcases vals with _|⟨x,_|⟨_,_⟩⟩
       ·rcases hkc with rfl|⟨ag,rfl⟩<;>simp[exec]at h
       · obtain⟨oc,y,sh',ts',h1,rfl⟩:∃oc y sh' ts',fF oc sz by_ x sh aa=some (y,sh',ts')∧out=⟨y,none,sh',ts'⟩:=by
           rcases hkc with rfl|⟨ag,rfl⟩
           ·simp only[exec,Option.map_eq_some_iff]at h;obtain⟨⟨y,ts'⟩,h1,rfl⟩:=h;exact⟨none,y,sh,ts',by simp[fF,h1],rfl⟩
           ·simp only[exec,Option.map_eq_some_iff]at h;obtain⟨⟨y,sh',ts'⟩,h1,rfl⟩:=h;exact⟨some ag,y,sh',ts',h1,rfl⟩
         have hl:=hr.length;obtain⟨v,hv⟩:∃v,c.args.toList.map a.eval=[v]:=List.length_eq_one_iff.1 (by simpa using hl);rw[hv]at hr;simp only[az]at hr;obtain⟨v',r,e,hx,rfl⟩:=hr;cases e;have hC:=horc.c g sz by_ f hcl hg oc G w mem sh sh' aa ts' x y v hi hx h1;unfold Oper.wp;rw[hrun,hv];refine hC.mono ?_
         rintro e w' ⟨u,G',rfl,g1,g2,g3,g4⟩
         exact hn u w' G' g1 (by simpa[ez] using g2) g3 g4
       ·rcases hkc with rfl|⟨ag,rfl⟩<;>simp[exec]at h
     · -- without the shared memory
       simp only[exec]at h;split at h
       · rename_i cz hp;split at h
         · rename_i rs ts1 h1;cases h;have hC:=zY horc hg (kY hp hr) hi h1;unfold Oper.wp;rw[hrun];refine hC.mono ?_
           rintro e w' ⟨v,G',rfl,g1,g2,g3,g4⟩
           exact hn v w' G' g1 (by simpa[AK.key,ez] using g2) g3 g4
         ·simp at h
       ·simp at h
   · -- a function value
     have hkey:k.key=none:=by rcases hkv with rfl|rfl<;>rfl
     replace h:exec orc .ir vals none sh aa=some out:=by
       rcases hkv with rfl|rfl
       ·exact h
       ·exact uY h
     rw[hkey]at hn;cases vals with
     |nil=>simp[az]at hr
     |cons x0 vals=>
       simp only[List.map_cons,az]at hr;obtain⟨fv,r,e,hf,hr⟩:=hr;simp only[List.cons.injEq]at e;obtain⟨rfl,rfl⟩:=e;cases x0 with
       |fn g cap=>
         simp only[exec,Option.map_eq_some_iff]at h;obtain⟨⟨x,sh',ts'⟩,h1,rfl⟩:=h;simp only[aA]at hf;obtain⟨f,vs,hg,hv,hcap⟩:=hf
         have hrun:(execOp a.eval ⟨dst,.call c,type,pos,after,guard⟩).run P w=.ok (.enter f ((c.args.toList.map a.eval++vs).toArray)) w:=by
           obtain⟨callee,cargs,ctypes⟩:=c;simp only at hcal;subst hcal;simp only[execOp,resolve,Sem.run_bind];rw[hv];simp only[Deferred.ofValue,Sem.run_pure,Result.andThen_ok,invoke];rw[lq hB hg];congr 2;apply Array.ext';simp
         have hC:=mC horc hg (az.append hr hcap) hi h1;unfold Oper.wp;rw[hrun];refine hC.mono ?_
         rintro e w' ⟨v,G',rfl,g1,g2,g3,g4⟩
         exact hn v w' G' g1 (by simpa[AK.key,ez] using g2) g3 g4
       |_=>simp[exec]at h
end
end Go.Ab
namespace Go.Ab
section
variable {n0:Nat} {P:Program} {ns:Names} {G:Gh} {w:World}
theorem mj.mono{G':Gh}{N:Nat}{env:List (Nat×AV)}{a:Act}(h:mj (num ns) G N env a)(hle:G.le G'):mj (num ns) G' N env a:=
 ⟨h.size,fun t x hx=>let ⟨v,h1,h2⟩:=h.env t x hx;⟨v,h1,h2.mono hle⟩⟩
theorem mj.put{N:Nat}{env:List (Nat×AV)}{a:Act}(h:mj (num ns) G N env a){dst:Option Nat}(hd:(dst.map (fun d=>decide (d<N))).getD true=true){x:AV}{v:Value}(hx:aA (num ns) G x v) :
   mj (num ns) G N (fG env dst x) (a.put dst v):=by
 cases dst with
 |none=>exact h
 |some d=>
   simp at hd;refine⟨by simp[Act.put,h.size],fun t y hy=>?_⟩;simp only[fG]at hy;by_cases ht:d=t
   ·subst ht;rw[bG]at hy;cases hy;exact⟨v,by simp[Act.put,h.size,hd],hx⟩
   ·rw[bw _ _ _ _ ht]at hy;obtain⟨u,h1,h2⟩:=h.env t y hy;exact⟨u,by simp only[Act.put];rw[Array.getElem?_setIfInBounds_ne ht];exact h1,h2⟩
theorem put_defers(a:Act)(dst:Option Nat)(v:Value):(a.put dst v).defers=a.defers:=by cases dst<;>rfl
theorem lA{A:kD}{N:Nat}{ops:Array Oper}{o:Oper}{ao:dN}(h:eX P ns A N ops o=some ao) :
   ∃args,bo P ns A o.dst o.op=some (ao.op,args)∧cC (iS ns) args=some ao.args∧ao.dst=o.dst∧(o.dst.map (fun d=>decide (d<N))).getD true=true ∧
     ((o.guard=none∧ao.guard=none)∨∃j b t,o.guard=some (j,b)∧(ops[j]?).bind (·.dst)=some t∧ao.guard=some (t,b)):=by
 unfold eX at h;split at h
 · rename_i k args hk;split at h
   · rename_i as ha;simp only[Option.ite_none_right_eq_some]at h;obtain⟨hd,h⟩:=h;split at h
     ·rename_i hg;simp at h;subst h;exact⟨args,hk,ha,rfl,hd,.inl ⟨hg,rfl⟩⟩
     · rename_i j b hg;split at h
       ·rename_i t ht;simp at h;subst h;exact⟨args,hk,ha,rfl,hd,.inr ⟨j,b,t,hg,ht,rfl⟩⟩
       ·simp at h
   ·simp at h
 ·simp at h
theorem oZ{A:kD}{N:Nat}{ops:Array Oper}{o:Oper}{ao:dN}{env:List (Nat×AV)}{a:Act}(h:eX P ns A N ops o=some ao)(he:mj (num ns) G N env a){r:Bool}
   (hw:fh env ao.guard=some r):Region.wanted o (yielded ops a.tmps)=r:=by
 obtain⟨_,_,_,_,_,hg⟩:=lA h;rcases hg with⟨h1,h2⟩|⟨j,b,t,h1,h2,h3⟩
 ·rw[h2]at hw;simp[fh]at hw;simp[Region.wanted,h1,hw]
 · rw[h3]at hw;simp only[fh]at hw;split at hw
   ·rename_i c hc;obtain⟨v,e1,e2⟩:=he.env t _ hc;simp only[aA,eZ]at e2;simp at hw;simp[Region.wanted,h1,yielded,h2,e1,e2,hw]
   ·rename_i hc;obtain⟨v,e1,e2⟩:=he.env t _ hc;simp only[aA]at e2;simp at hw;simp[Region.wanted,h1,yielded,h2,e1,e2,undef,←hw]
   ·simp at hw
theorem Cu(hB:gJ P ns){orc:eH}(horc:iA P ns orc){A:kD}{N:Nat}{ops:Array Oper}{o:Oper}{ao:dN}(hc:eX P ns A N ops o=some ao)
   {st st':St} {a:Act} (hs:fM (num ns) n0 N G st a w) (hev:dV orc ao st=some st') {next:Act→World→Prop} {Q:Exit→Act→World→Prop}
   (hn:∀G' v w',fM (num ns) n0 N G' st' (a.put o.dst v) w'→bu G w G' w'→next (a.put o.dst v) w') :
   (Region.wanted o (yielded ops a.tmps)=true∧o.wp P a w next Q)∨(Region.wanted o (yielded ops a.tmps)=false∧next (a.put o.dst undef) w):=by
 obtain⟨args,h1,h2,h3,h4,_⟩:=lA hc;unfold dV at hev;split at hev
 ·simp at hev
 ·rename_i hw;right;refine⟨oZ hc hs.env hw,?_⟩;simp at hev;subst hev;refine hn G _ w ⟨?_,hs.inv,hs.marks.uQ (bu.refl G w) (put_defers _ _ _)⟩ (bu.refl G w);simp only[h3];exact hs.env.put h4 (by simp[aA])
 · rename_i hw;left;refine⟨oZ hc hs.env hw,?_⟩;split at hev
   ·simp at hev
   · rename_i vals hv;split at hev
     ·simp at hev
     ·rename_i out ho;simp at hev;subst hev;have hr:=y5 hs.env h2 hv;refine Ob hB horc h1 hr hs.inv ho ?_;intro v w' G' g1 g2 g3 g4;refine hn G' _ w' ⟨?_,g2,hs.marks.uQ g4 (put_defers _ _ _)⟩ g4;simp only[h3];exact (hs.env.mono g3).put h4 g1
end
end Go.Ab
namespace Go.Ab
section
variable {orc:eH}
def Kr(E:Nat→Option AV):eG→Option AV
 | .t n=>E n
 | .c v=>some v
def kG(E:Nat→Option AV):List eG→Option (List AV)
 |[]=>some []
 |x::r=>match Kr E x,kG E r with
   |some v,some vs=>some (v::vs)
   |_,_=>none
def m_(E:Nat→Option AV):Option (Nat×Bool)→Option Bool
 |none=>some true
 |some (t,b)=>match E t with
   |some (.pv (.bool c))=>some (c == b)
   |some .un=>some false
   |_=>none
def cX(orc:eH)(o:dN)(E:Nat→Option AV)(M:Nat→Option (List AV))(sh:Sh)(aa:aG):Option Out:=
 match m_ E o.guard with
 |none=>none
 |some false=>some ⟨.un,none,sh,aa⟩
 |some true=>match kG E o.args with
   |none=>none
   |some vals=>exec orc o.op vals (o.op.key.bind M) sh aa
theorem s8(env:List (Nat×AV)):∀l,d3 env l=kG (look env) l
 |[]=>rfl
 |x::l=>by
   have:gX env x=Kr (look env) x:=by cases x<;>rfl
   simp only[d3,kG,this,s8 env l];rfl
theorem ee(o:dN)(st:St):dV orc o st=(cX orc o (look st.env) (look st.mem) st.sh st.aa).map
   fun r=>{ env:=fG st.env o.dst r.val,mem:=ez st.mem o.op.key r.cells,sh:=r.sh,aa:=r.aa }:=by
 unfold dV cX
 have hw:fh st.env o.guard=m_ (look st.env) o.guard:=by
   cases o.guard with
   |none=>rfl
   |some g=>rfl
 rw[hw];cases m_ (look st.env) o.guard with
 |none=>rfl
 |some b=>cases b with
   |false=>simp[eD]
   |true=>
     simp only[s8];cases kG (look st.env) o.args with
     |none=>rfl
     |some vals=>
       simp only;cases exec orc o.op vals (o.op.key.bind (look st.mem)) st.sh st.aa<;>rfl
theorem mD{E E':Nat→Option AV}:∀{l:List eG},(∀t∈l.filterMap (fun| .t n=>some n|_=>none),E t=E' t)→kG E l=kG E' l
 |[],_=>rfl
 | .c v::l,h=>by
   simp only[kG,Kr];rw[mD (l:=l) (fun t ht=>h t (by simpa using ht))]
 | .t n::l,h=>by
   simp only[kG,Kr];rw[mD (l:=l) (fun t ht=>h t (by simp only[List.filterMap_cons,List.mem_cons];exact .inr ht)),h n (by simp)]
theorem gK{o:dN}{E E':Nat→Option AV}{M M':Nat→Option (List AV)}{sh:Sh}{aa:aG}(hE:∀t∈o.looks,E t=E' t)(hM:∀k,o.op.key=some k→M k=M' k) :
   cX orc o E M sh aa=cX orc o E' M' sh aa:=by
 have h1:m_ E o.guard=m_ E' o.guard:=by
   cases hg:o.guard with
   |none=>rfl
   |some g=>
     obtain⟨t,b⟩:=g;simp only[m_];rw[hE t (by simp[dN.looks,hg])]
 have h2:kG E o.args=kG E' o.args:=mD fun t ht=>hE t (by simp only[dN.looks,List.mem_append];exact .inl ht)
 have h3:o.op.key.bind M=o.op.key.bind M':=by
   cases hk:o.op.key with
   |none=>rfl
   |some k=>exact hM k hk
 unfold cX;rw[h1,h2,h3]
theorem RS{op:AK}{vals:List AV}{cells:Option (List AV)}{sh:Sh}{aa:aG}{r:Out}(ht:op.iJ=false)(h:exec orc op vals cells sh aa=some r) :
   r.sh=sh∧∀sh',exec orc op vals cells sh' aa=some { r with sh:=sh' }:=by
 cases op with
 |v vo=>
   simp only[exec,Option.map_eq_some_iff]at h⊢;obtain⟨x,h1,rfl⟩:=h;exact⟨rfl,fun sh'=>⟨x,h1,rfl⟩⟩
 |cd k o s ag=>
   obtain⟨cs,x,rfl,rfl,hx,rfl⟩:=h_ h;exact⟨rfl,fun sh'=>by simp[exec,hx]⟩
 |bI k o s=>
   obtain⟨cs,v,rfl,rfl,h1,h2,h3,rfl⟩:=iy h;exact⟨rfl,fun sh'=>by simp[exec,h1,h2,h3]⟩
 |alloc k z=>
   obtain⟨rfl,rfl,rfl⟩:=jr h;exact⟨rfl,fun sh'=>by simp[exec]⟩
 |box k s=>
   obtain⟨v,rfl,rfl,h1,h2,rfl⟩:=mu h;exact⟨rfl,fun sh'=>by simp only[exec];rw[if_pos ⟨h1,h2⟩]⟩
 |iq d s b z=>
   obtain⟨k,k',n,rfl,h1,h2,h3,h4,rfl,rfl⟩:=js h;exact⟨rfl,fun sh'=>by simp[exec,h1,h2,h3,h4]⟩
 |append s b=>
   obtain⟨s,x,y,ts,rfl,h1,rfl⟩:=jW h;exact⟨rfl,fun sh'=>by simp[exec,h1]⟩
 |dQ s b ag=>simp[AK.iJ]at ht
 |ga s b=>
   obtain⟨s,x,e,xs,p,rfl,h0,h1,rfl⟩:=iY h;exact⟨rfl,fun sh'=>by simp[exec,h0,h1]⟩
 |jd s z=>simp[AK.iJ]at ht
 |lS s=>simp[AK.iJ]at ht
 |clone s b=>
   obtain⟨x,y,ts,rfl,h1,rfl⟩:=nV h;exact⟨rfl,fun sh'=>by simp[exec,h1]⟩
 |aJ g=>
   simp only[exec]at h⊢;split at h
   ·rename_i cz hp;simp only[Option.map_eq_some_iff]at h;obtain⟨rs,h1,rfl⟩:=h;exact⟨rfl,fun sh'=>by simp[h1]⟩
   ·simp at h
 |je g=>
   simp only[exec]at h⊢;split at h
   · rename_i cz hp;split at h
     ·rename_i rs ts1 h1;cases h;exact⟨rfl,fun sh'=>by simp[h1]⟩
     ·simp at h
   ·simp at h
 |_=>simp[AK.iJ]at ht
theorem RU{op:AK}{vals:List AV}{cells:Option (List AV)}{sh:Sh}{aa:aG}{r:Out}(ht:op.fK=false)(h:exec orc op vals cells sh aa=some r) :
   r.aa=aa∧∀ts,exec orc op vals cells sh ts=some { r with aa:=ts }:=by
 cases op with
 |v vo=>
   simp only[exec,Option.map_eq_some_iff]at h⊢;obtain⟨x,h1,rfl⟩:=h;exact⟨rfl,fun ts=>⟨x,h1,rfl⟩⟩
 |cd k o s ag=>
   obtain⟨cs,x,rfl,rfl,hx,rfl⟩:=h_ h;exact⟨rfl,fun ts=>by simp[exec,hx]⟩
 |bI k o s=>
   obtain⟨cs,v,rfl,rfl,h1,h2,h3,rfl⟩:=iy h;exact⟨rfl,fun ts=>by simp[exec,h1,h2,h3]⟩
 |alloc k z=>
   obtain⟨rfl,rfl,rfl⟩:=jr h;exact⟨rfl,fun ts=>by simp[exec]⟩
 |box k s=>
   obtain⟨v,rfl,rfl,h1,h2,rfl⟩:=mu h;exact⟨rfl,fun ts=>by simp only[exec];rw[if_pos ⟨h1,h2⟩]⟩
 |iq d s b z=>
   obtain⟨k,k',n,rfl,h1,h2,h3,h4,rfl,rfl⟩:=js h;exact⟨rfl,fun ts=>by simp[exec,h1,h2,h3,h4]⟩
 |append s b=>simp[AK.fK]at ht
 |dQ s b ag=>simp[AK.fK]at ht
 |ga s b=>simp[AK.fK]at ht
 |clone s b=>simp[AK.fK]at ht
 |jc s b ag=>
   rcases vals with _|⟨x,_|⟨_,_⟩⟩
   ·simp[exec]at h
   · simp only[exec,fF]at h⊢;split at h
     · rename_i xs hx;split at h
       ·rename_i hh;simp only[Option.map_map,Option.map_eq_some_iff]at h;obtain⟨⟨y,sh'⟩,h1,rfl⟩:=h;refine⟨rfl,fun ts=>?_⟩;simp[hx,hh,h1]
       ·simp at h
     ·simp at h
   ·simp[exec]at h
 |jd s z=>
   obtain⟨x,sh',rfl,h1,rfl⟩:=qA h;exact⟨rfl,fun ts=>by simp[exec,h1]⟩
 |lS s=>
   obtain⟨x,y,xs,k,sh',rfl,h0,h1,rfl⟩:=lj h;exact⟨rfl,fun ts=>by simp[exec,h0,h1]⟩
 |oH=>
   obtain⟨rfl,rfl⟩:=lh h;exact⟨rfl,fun ts=>by simp[exec]⟩
 |kz c ok z=>
   obtain⟨s,k,kvs,r,rfl,h1,h2,rfl⟩:=jt h;exact⟨rfl,fun ts=>by simp[exec,h1,h2]⟩
 |sv c=>
   obtain⟨s,k,v,kvs,p,kvs',rfl,h1,h2,h3,rfl⟩:=m7 h;exact⟨rfl,fun ts=>by simp[exec,h1,h2,h3]⟩
 |aJ g=>
   simp only[exec]at h⊢;split at h
   ·rename_i cz hp;simp only[Option.map_eq_some_iff]at h;obtain⟨rs,h1,rfl⟩:=h;exact⟨rfl,fun ts=>by simp[h1]⟩
   ·simp at h
 |d0 g=>
   simp only[exec]at h⊢;split at h
   ·rename_i cz hp;simp only[Option.map_eq_some_iff]at h;obtain⟨rs,h1,rfl⟩:=h;exact⟨rfl,fun ts=>by simp[h1]⟩
   ·simp at h
 |bp g own=>simp[AK.fK]at ht
 |je g=>simp[AK.fK]at ht
 |ir=>simp[AK.fK]at ht
 |eS=>simp[AK.fK]at ht
 |eK s ag=>
   obtain⟨p,x,rfl,rfl,hor⟩:=lf h;refine⟨rfl,fun ts=>?_⟩;rcases hor with⟨cs,rfl,hx⟩|⟨b,off,cs,rfl,hcs,hm,hx⟩
   ·simp[exec,hx]
   ·simp[exec,hcs,hm,hx]
 |eR s=>
   obtain⟨b,off,v,cs,rfl,hcs,h0,h1,h2,h3,h4,rfl⟩:=iz h;refine⟨rfl,fun ts=>?_⟩;simp only[exec,hcs];rw[if_pos ⟨h0,h1,h2,h3,h4⟩]
 |kX s=>
   obtain⟨b,off,v,cs,rfl,hcs,h0,h1,h2,h3,h4,rfl⟩:=jU h;refine⟨rfl,fun ts=>?_⟩;simp only[exec,hcs];rw[if_pos ⟨h0,h1,h2,h3,h4⟩]
 |re s=>
   obtain⟨v,rfl,h1,h2,h3,rfl⟩:=m5 h;refine⟨rfl,fun ts=>?_⟩;simp only[exec];rw[if_pos ⟨h1,h2,h3⟩]
 |su s=>
   obtain⟨v,rfl,h1,h2,h3,rfl⟩:=m6 h;refine⟨rfl,fun ts=>?_⟩;simp only[exec];rw[if_pos ⟨h1,h2,h3⟩]
 |iH z=>
   obtain⟨rfl,rfl⟩:=jV h;exact⟨rfl,fun ts=>by simp[exec]⟩
 |jb s b ag z=>
   obtain⟨k,k',n,rfl,h1,h2,h3,h4,rfl⟩:=lg h;exact⟨rfl,fun ts=>by simp[exec,h1,h2,h3,h4]⟩
theorem RV{op:AK}{vals:List AV}{cells:Option (List AV)}{sh:Sh}{aa:aG}{r:Out}(ht:op.ij=false)(hk:op.key≠none)(h:exec orc op vals cells sh aa=some r):r.cells=none:=by
 cases op with
 |cd k o s ag=>
   obtain⟨cs,x,rfl,rfl,hx,rfl⟩:=h_ h;rfl
 |bI k o s=>simp[AK.ij]at ht
 |alloc k z=>simp[AK.ij]at ht
 |box k s=>simp[AK.ij]at ht
 |iq d s b z=>simp[AK.ij]at ht
 |_=>simp[AK.key]at hk
theorem uZ{sz:Nat}{ag:Bool}{vals:List AV}{cells:Option (List AV)}{sh:Sh}{aa:aG}{r:Out}(h:exec orc (.eK sz ag) vals cells sh aa=some r):r.sh=sh:=by
 obtain⟨p,x,rfl,rfl,_⟩:=lf h;rfl
theorem u_{c:CK}{ok:Bool}{z:PV}{vals:List AV}{cells:Option (List AV)}{sh:Sh}{aa:aG}{r:Out}(h:exec orc (.kz c ok z) vals cells sh aa=some r):r.sh=sh:=by
 obtain⟨s,k,kvs,r,rfl,_,_,rfl⟩:=jt h;rfl
theorem s9{vals:List AV}{cells:Option (List AV)}{sh:Sh}{aa:aG}{r:Out}(h:exec orc .eS vals cells sh aa=some r):r.sh=sh:=by
 cases vals with
 |nil=>simp[exec]at h
 |cons f vals=>
   cases f with
   |fn g cap=>
     simp only[exec,Option.bind_eq_some_iff]at h;obtain⟨⟨v,sh',ts⟩,_,h2⟩:=h;simp only[Wh,Option.ite_none_right_eq_some,Option.some.injEq]at h2;rw[←h2.2]
   |_=>simp[exec]at h
theorem s_{o:dN}{E:Nat→Option AV}{M:Nat→Option (List AV)}{sh:Sh}{aa:aG}{r:Out}(ht:o.op.iJ=false)(h:cX orc o E M sh aa=some r) :
   r.sh=sh∧∀sh',cX orc o E M sh' aa=some { r with sh:=sh' }:=by
 unfold cX at *;split at h
 ·simp at h
 ·simp at h;subst h;exact⟨rfl,fun _=>rfl⟩
 · split at h
   ·simp at h
   ·exact RS ht h
theorem zZ{o:dN}{E:Nat→Option AV}{M:Nat→Option (List AV)}{sh:Sh}{aa:aG}{r:Out}(ht:o.op.vB=true)(h:cX orc o E M sh aa=some r):r.sh=sh:=by
 unfold cX at *;split at h
 ·simp at h
 ·simp at h;subst h;rfl
 · split at h
   ·simp at h
   · rename_i vals _;cases ho:o.op with
     |eK sz ag=>
       rw[ho]at h;have hl:=uZ h;exact hl
     |kz c ok z=>
       rw[ho]at h;exact u_ h
     |eS=>
       rw[ho]at h;exact s9 h
     |_=>rw[ho]at ht;simp[AK.vB]at ht
theorem o5{o:dN}{E:Nat→Option AV}{M:Nat→Option (List AV)}{sh:Sh}{aa:aG}{r:Out}(ht:o.op.fK=false)(h:cX orc o E M sh aa=some r) :
   r.aa=aa∧∀ts,cX orc o E M sh ts=some { r with aa:=ts }:=by
 unfold cX at *;split at h
 ·simp at h
 ·simp at h;subst h;exact⟨rfl,fun _=>rfl⟩
 · split at h
   ·simp at h
   ·exact RU ht h
theorem o6{o:dN}{E:Nat→Option AV}{M:Nat→Option (List AV)}{sh:Sh}{aa:aG}{r:Out}(ht:o.op.ij=false)(hk:o.op.key≠none)(h:cX orc o E M sh aa=some r):r.cells=none:=by
 unfold cX at h;split at h
 ·simp at h
 ·simp at h;subst h;rfl
 · split at h
   ·simp at h
   ·exact RV ht hk h
structure km(x y:St):Prop where
 env:∀t,look x.env t=look y.env t
 mem:∀t,look x.mem t=look y.mem t
 sh:x.sh=y.sh
 aa:x.aa=y.aa
theorem km.refl(x:St):km x x:=⟨fun _=>rfl,fun _=>rfl,rfl,rfl⟩
theorem km.symm{x y:St}(h:km x y):km y x:=⟨fun t=>(h.env t).symm,fun t=>(h.mem t).symm,h.sh.symm,h.aa.symm⟩
theorem km.trans{x y z:St}(h:km x y)(k:km y z):km x z:=⟨fun t=>(h.env t).trans (k.env t),fun t=>(h.mem t).trans (k.mem t),h.sh.trans k.sh,h.aa.trans k.aa⟩
theorem eE(env:List (Nat×AV))(d:Option Nat)(v:AV)(t:Nat):look (fG env d v) t=if d=some t then some v else look env t:=by
 cases d with
 |none=>simp[fG]
 |some d=>
   simp only[fG,Option.some.injEq];by_cases h:d=t
   ·subst h;rw[if_pos rfl,bG]
   ·rw[if_neg h,bw _ _ _ _ h]
theorem na(mem:List (Nat×List AV))(k:Option Nat)(c:Option (List AV))(t:Nat):look (ez mem k c) t=if k=some t then (match c with|some cs=>some cs|none=>look mem t) else look mem t:=by
 cases c with
 |none=>rw[eD];split<;>rfl
 |some cs=>
   cases k with
   |none=>simp[ez]
   |some k=>
     simp only[ez,Option.some.injEq];by_cases h:k=t
     ·subst h;rw[if_pos rfl,bG]
     ·rw[if_neg h,bw _ _ _ _ h]
theorem GZ{o:dN}{x y x':St}(h:km x y)(he:dV orc o x=some x'):∃y',dV orc o y=some y'∧km x' y':=by
 rw[ee,Option.map_eq_some_iff]at he;obtain⟨r,hr,rfl⟩:=he
 have:cX orc o (look y.env) (look y.mem) y.sh y.aa=some r:=by
   rw[←h.sh,←h.aa,←hr];exact (gK (fun t _=>h.env t) (fun t _=>h.mem t)).symm
 refine⟨{ env:=fG y.env o.dst r.val,mem:=ez y.mem o.op.key r.cells,sh:=r.sh,aa:=r.aa },by rw[ee,this];rfl,⟨fun t=>?_,fun t=>?_,rfl,rfl⟩⟩
 ·simp only[eE,h.env]
 ·simp only[na,h.mem]
end
end Go.Ab
namespace Go.Ab
section
variable {orc:eH}
theorem pU{x y:dN}(h:indep x y=true) :
   (∀d,x.dst=some d→d∉y.looks∧y.dst≠some d)∧(∀d,y.dst=some d→d∉x.looks)∧(x.op.iJ=false∨y.op.iJ=false∨(x.op.vB=true∧y.op.vB=true))∧(x.op.fK=false∨y.op.fK=false) ∧
   (∀k,x.op.key=some k→y.op.key=some k→x.op.ij=false∧y.op.ij=false):=by
 simp only[indep,Bool.and_eq_true,Bool.or_eq_true,Bool.not_eq_true',Bool.and_eq_false_iff]at h;obtain⟨⟨⟨⟨h1,h2⟩,h3⟩,h4⟩,h5⟩:=h;refine⟨fun d hd=>?_,fun d hd=>?_,h3.elim (fun h=>h.elim .inl fun h=>.inr (.inl h)) fun h=>.inr (.inr h),h4,fun k hx hy=>?_⟩
 ·rw[hd]at h1;simp at h1;exact h1
 ·rw[hd]at h2;simpa using h2
 ·rw[hx,hy]at h5;simp at h5;exact h5
theorem Oc{x y:dN}(h:indep x y=true){st st1 st2:St}(h1:dV orc x st=some st1)(h2:dV orc y st1=some st2) :
   ∃st1' st2',dV orc y st=some st1'∧dV orc x st1'=some st2'∧km st2' st2:=by
 obtain⟨hd1,hd2,hS,hT,hK⟩:=pU h;rw[ee,Option.map_eq_some_iff]at h1 h2;obtain⟨r1,hr1,rfl⟩:=h1;obtain⟨r2,hr2,rfl⟩:=h2;simp only at hr2
 have hr2':cX orc y (look st.env) (look st.mem) r1.sh r1.aa=some r2:=by
   rw[←hr2];refine gK (fun t ht=>?_) (fun k hk=>?_)
   ·rw[eE,if_neg];intro e;exact (hd1 t e).1 ht
   · rw[na];split
     ·rename_i e;have:=o6 (hK k e hk).1 (by rw[e];simp) hr1;rw[this]
     ·rfl
 obtain⟨sh',ts',hy,hsh,hts⟩:∃sh' ts',cX orc y (look st.env) (look st.mem) st.sh st.aa=some { r2 with sh:=sh',aa:=ts' } ∧
     ((x.op.iJ=false∧sh'=r2.sh∧r1.sh=st.sh)∨(sh'=st.sh∧r2.sh=r1.sh)) ∧
     ((x.op.fK=false∧ts'=r2.aa∧r1.aa=st.aa)∨(y.op.fK=false∧ts'=st.aa∧r2.aa=r1.aa)):=by
   have stepS:∃sh',cX orc y (look st.env) (look st.mem) st.sh r1.aa=some { r2 with sh:=sh' }∧((x.op.iJ=false∧sh'=r2.sh∧r1.sh=st.sh)∨(sh'=st.sh∧r2.sh=r1.sh)):=by
     rcases hS with hS|hS|⟨hS,hS'⟩
     ·have e:=(s_ hS hr1).1;exact⟨r2.sh,by rw[←e];exact hr2',.inl ⟨hS,rfl,e⟩⟩
     ·obtain⟨e,f⟩:=s_ hS hr2';exact⟨st.sh,f st.sh,.inr ⟨rfl,e⟩⟩
     ·have e:=zZ hS hr1;have e2:=zZ hS' hr2';exact⟨r2.sh,by rw[←e];exact hr2',.inr ⟨e2.trans e,e2⟩⟩
   obtain⟨sh',hy1,hsh⟩:=stepS;rcases hT with hT|hT
   ·have e:=(o5 hT hr1).1;exact⟨sh',r2.aa,by rw[←e];exact hy1,hsh,.inl ⟨hT,rfl,e⟩⟩
   ·obtain⟨_,f⟩:=o5 hT hy1;have e:=(o5 hT hr2').1;exact⟨sh',st.aa,f st.aa,hsh,.inr ⟨hT,rfl,e⟩⟩
 refine⟨{ env:=fG st.env y.dst r2.val,mem:=ez st.mem y.op.key r2.cells,sh:=sh',aa:=ts' },?_⟩
 have hx:cX orc x (look (fG st.env y.dst r2.val)) (look (ez st.mem y.op.key r2.cells)) st.sh st.aa=some r1:=by
   rw[←hr1];refine gK (fun t ht=>?_) (fun k hk=>?_)
   ·rw[eE,if_neg];intro e;exact hd2 t e ht
   · rw[na];split
     ·rename_i e;have:=o6 (hK k hk e).2 (by rw[e];simp) hr2';rw[this]
     ·rfl
 obtain⟨r1',hx',hval,hcells,hsh2,hts2⟩:∃r1',cX orc x (look (fG st.env y.dst r2.val)) (look (ez st.mem y.op.key r2.cells)) sh' ts'=some r1'∧r1'.val=r1.val∧r1'.cells=r1.cells∧r1'.sh=r2.sh∧r1'.aa=r2.aa:=by
   have stepS:∃r1',cX orc x (look (fG st.env y.dst r2.val)) (look (ez st.mem y.op.key r2.cells)) sh' st.aa=some r1'∧r1'.val=r1.val∧r1'.cells=r1.cells∧r1'.sh=r2.sh∧r1'.aa=r1.aa:=by
     rcases hsh with⟨hS,rfl,_⟩|⟨rfl,e⟩
     ·exact⟨_,(s_ hS hx).2 r2.sh,rfl,rfl,rfl,rfl⟩
     ·exact⟨r1,hx,rfl,rfl,e.symm,rfl⟩
   obtain⟨ra,ha,a1,a2,a3,a4⟩:=stepS;rcases hts with⟨hT,rfl,_⟩|⟨_,rfl,e⟩
   ·exact⟨_,(o5 hT ha).2 r2.aa,a1,a2,a3,rfl⟩
   ·exact⟨ra,ha,a1,a2,a3,a4.trans e.symm⟩
 refine⟨{ env:=fG (fG st.env y.dst r2.val) x.dst r1'.val,mem:=ez (ez st.mem y.op.key r2.cells) x.op.key r1'.cells,sh:=r1'.sh,aa:=r1'.aa },?_,?_,?_⟩
 ·rw[ee,hy];rfl
 ·rw[ee,hx'];rfl
 · refine⟨fun t=>?_,fun t=>?_,hsh2,hts2⟩
   · simp only[eE,hval];by_cases hx:x.dst=some t
     ·rw[if_pos hx,if_neg (hd1 t hx).2,if_pos hx]
     ·rw[if_neg hx,if_neg hx]
   · simp only[na,hcells];by_cases hx:x.op.key=some t
     · rw[if_pos hx,if_pos hx];by_cases hy:y.op.key=some t
       ·rw[if_pos hy,if_pos hy];have e1:=o6 (hK t hx hy).1 (by rw[hx];simp) hr1;have e2:=o6 (hK t hx hy).2 (by rw[hy];simp) hr2';rw[e1,e2]
       ·rw[if_neg hy,if_neg hy]
     ·rw[if_neg hx,if_neg hx]
theorem xD{o:dN}{a:Nat}(h:o.addr=some a):∃r,o.args=.t a::r∧((∃sz ag,o.op=.eK sz ag)∨∃sz,o.op=.eR sz):=by
 unfold dN.addr at h;split at h
 ·rename_i sz ag a' r h1 h2;cases h;exact⟨r,h2,.inl ⟨sz,ag,h1⟩⟩
 ·rename_i sz a' r h1 h2;cases h;exact⟨r,h2,.inr ⟨sz,h1⟩⟩
 ·cases h
theorem ta{o:dN}{a:Nat}(h:o.addr=some a):a∈o.looks:=by
 obtain⟨r,h1,_⟩:=xD h;simp[dN.looks,h1]
theorem z4{o:dN}{a:Nat}(h:o.addr=some a):o.op.key=none:=by
 obtain⟨r,_,h|h⟩:=xD h
 ·obtain⟨_,_,h⟩:=h;rw[h];rfl
 ·obtain⟨_,h⟩:=h;rw[h];rfl
def G6(b:Nat)(g:Sh→Sh):Prop:=g=id∨∃x,g=fun s=>s.set b x
theorem G6.other{b b':Nat}{g:Sh→Sh}(h:G6 b g)(hb:b≠b')(s:Sh):(g s)[b']?=s[b']?:=by
 rcases h with rfl|⟨x,rfl⟩
 ·rfl
 ·exact List.getElem?_set_ne hb
theorem G6.comm{b b':Nat}{g g':Sh→Sh}(h:G6 b g)(h':G6 b' g')(hb:b≠b')(s:Sh):g (g' s)=g' (g s):=by
 rcases h with rfl|⟨x,rfl⟩
 ·rfl
 · rcases h' with rfl|⟨y,rfl⟩
   ·rfl
   ·exact (List.set_comm _ _ hb.symm)
theorem qK{o:dN}{a:Nat}(h:o.addr=some a){E:Nat→Option AV}{M:Nat→Option (List AV)}{sh:Sh}{aa:aG}{r:Out}{b off:Nat}(hE:E a=some (.aM b off))
   (hr:cX orc o E M sh aa=some r):r.cells=none∧r.aa=aa∧∃g,G6 b g∧r.sh=g sh∧∀sh',sh'[b]?=sh[b]?→cX orc o E M sh' aa=some { r with sh:=g sh' }:=by
 obtain⟨rest,h1,h2⟩:=xD h;unfold cX at hr⊢;split at hr
 ·simp at hr
 ·simp at hr;subst hr;exact⟨rfl,rfl,id,.inl rfl,rfl,fun sh' _=>rfl⟩
 · rw[h1]at hr⊢;simp only[kG,Kr,hE]at hr⊢;cases hv:kG E rest with
   |none=>rw[hv]at hr;simp at hr
   |some vs=>
     rw[hv]at hr;simp only at hr⊢;rcases h2 with⟨sz,ag,h2⟩|⟨sz,h2⟩
     · rw[h2]at hr⊢;obtain⟨p,x,hp,rfl,hor⟩:=lf hr;refine⟨rfl,rfl,id,.inl rfl,rfl,fun sh' hs=>?_⟩;cases vs with
       |cons _ _=>simp at hp
       |nil=>
         simp at hp;rcases hor with⟨cs,rfl,hx⟩|⟨b',off',cs,rfl,hcs,hm,hx⟩
         ·simp at hp
         ·simp at hp;obtain⟨rfl,rfl⟩:=hp;simp[exec,hs,hcs,hm,hx]
     ·rw[h2]at hr⊢;obtain⟨b',off',v,cs,hp,hcs,h0,h1',h2',h3,h4,rfl⟩:=iz hr;simp at hp;obtain⟨⟨rfl,rfl⟩,rfl⟩:=hp;refine⟨rfl,rfl,fun s=>s.set b (some (aR cs off (cE v))),.inr ⟨_,rfl⟩,rfl,fun sh' hs=>?_⟩;simp only[exec,hs,hcs];rw[if_pos ⟨h0,h1',h2',h3,h4⟩]
def T8(F:Nat→Option AV)(x y:dN):Prop:=indep x y=true ∨
 ((∀d,x.dst=some d→d∉y.looks∧y.dst≠some d)∧(∀d,y.dst=some d→d∉x.looks)∧∃a b,x.addr=some a∧y.addr=some b∧apart (F a) (F b)=true)
theorem vR{x y:Option AV}(h:apart x y=true):∃b o b' o',x=some (.aM b o)∧y=some (.aM b' o')∧b≠b':=by
 unfold apart at h;split at h
 ·rename_i b o b' o';exact⟨b,o,b',o',rfl,rfl,by simpa using h⟩
 ·cases h
theorem Ks{F:Nat→Option AV}{x y:dN}(h:T8 F x y){st st1 st2:St}(hx:∀a,x.addr=some a→look st.env a=F a)(hy:∀a,y.addr=some a→look st1.env a=F a)
   (h1:dV orc x st=some st1) (h2:dV orc y st1=some st2) :
   ∃st1' st2',dV orc y st=some st1'∧dV orc x st1'=some st2'∧km st2' st2∧(∀a,y.addr=some a→look st.env a=F a)∧(∀a,x.addr=some a→look st1'.env a=F a):=by
 have hside:(∀d,x.dst=some d→d∉y.looks∧y.dst≠some d)∧(∀d,y.dst=some d→d∉x.looks):=by
   rcases h with h|h
   ·exact⟨(pU h).1,(pU h).2.1⟩
   ·exact⟨h.1,h.2.1⟩
 have hyst:∀a,y.addr=some a→look st.env a=F a:=by
   intro a ha;have h3:=hy a ha;rw[ee,Option.map_eq_some_iff]at h1;obtain⟨r1,_,rfl⟩:=h1;rw[←h3];simp only[eE];rw[if_neg];intro e;exact (hside.1 a e).1 (ta ha)
 have hxst:∀st1',dV orc y st=some st1'→∀a,x.addr=some a→look st1'.env a=F a:=by
   intro st1' h3 a ha;rw[ee,Option.map_eq_some_iff]at h3;obtain⟨r1,_,rfl⟩:=h3;rw[←hx a ha];simp only[eE];rw[if_neg];intro e;exact hside.2 a e (ta ha)
 rcases h with h|⟨hd1,hd2,a,b,ha,hb,hap⟩
 ·obtain⟨st1',st2',g1,g2,g3⟩:=Oc h h1 h2;exact⟨st1',st2',g1,g2,g3,hyst,hxst st1' g1⟩
 · obtain⟨ba,oa,bb,ob,fa,fb,hne⟩:=vR hap;have hE1:look st.env a=some (.aM ba oa):=(hx a ha).trans fa;have hE2:look st.env b=some (.aM bb ob):=(hyst b hb).trans fb;have h1':=h1;rw[ee,Option.map_eq_some_iff]at h1 h2;obtain⟨r1,hr1,rfl⟩:=h1;obtain⟨r2,hr2,rfl⟩:=h2;obtain⟨c1,t1,gx,tx,s1,k1⟩:=qK ha hE1 hr1;simp only at hr2
   have hr2':cX orc y (look st.env) (look st.mem) (gx st.sh) st.aa=some r2:=by
     rw[←hr2,s1,t1];refine gK (fun t ht=>?_) (fun k hk=>?_)
     ·rw[eE,if_neg];intro e;exact (hd1 t e).1 ht
     ·rw[z4 hb]at hk;cases hk
   obtain⟨c2,t2,gy,ty,s2,k2⟩:=qK hb hE2 hr2';have hy0:=k2 st.sh (tx.other hne st.sh).symm
   have hy1:dV orc y st=some { env:=fG st.env y.dst r2.val,mem:=ez st.mem y.op.key r2.cells,sh:=gy st.sh,aa:=r2.aa }:=by
     rw[ee,hy0];rfl
   have hx0:cX orc x (look (fG st.env y.dst r2.val)) (look (ez st.mem y.op.key r2.cells)) (gy st.sh) r2.aa=some { r1 with sh:=gx (gy st.sh) }:=by
     rw[←k1 (gy st.sh) (ty.other (Ne.symm hne) st.sh),t2];refine gK (fun t ht=>?_) (fun k hk=>?_)
     ·rw[eE,if_neg];intro e;exact hd2 t e ht
     ·rw[z4 ha]at hk;cases hk
   refine⟨_,{ env:=fG (fG st.env y.dst r2.val) x.dst r1.val,mem:=ez (ez st.mem y.op.key r2.cells) x.op.key r1.cells,sh:=gx (gy st.sh),aa:=r1.aa },hy1,?_,?_,hyst,hxst _ hy1⟩
   ·rw[ee,hx0];rfl
   · refine⟨fun t=>?_,fun t=>?_,?_,?_⟩
     · simp only[eE];by_cases hx:x.dst=some t
       ·rw[if_pos hx,if_neg (hd1 t hx).2,if_pos hx]
       ·rw[if_neg hx,if_neg hx]
     ·simp only[c1,c2,eD]
     ·simp only[s2];exact tx.comm ty hne st.sh
     ·simp only[t1,t2]
variable {ops:Array Oper} {as:List dN} {R:St→Prop} {F:Nat→Option AV}
def z5(orc:eH)(ops:Array Oper)(as:List dN)(F:Nat→Option AV)(R:St→Prop):Nat→Array Bool→St→Prop
 |0,listed,st=>Region.ready .any ops listed=[]∧R st
 |fuel+1,listed,st=>(Region.ready .any ops listed=[]→R st) ∧
   ∀i∈Region.ready .any ops listed,∃ao st',as[i]?=some ao∧(∀a,ao.addr=some a→look st.env a=F a)∧dV orc ao st=some st'∧z5 orc ops as F R fuel (listed.setIfInBounds i true) st'
theorem vS(hR:∀x y,km x y→R x→R y):∀{fuel:Nat} {listed:Array Bool} {x y:St},km x y→z5 orc ops as F R fuel listed x→z5 orc ops as F R fuel listed y
 |0,_,_,_,hl,h=>⟨h.1,hR _ _ hl h.2⟩
 |fuel+1,_,_,_,hl,h=>⟨fun h0=>hR _ _ hl (h.1 h0),fun i hi=>by
     obtain⟨ao,st',h1,h6,h2,h3⟩:=h.2 i hi;obtain⟨y',h4,h5⟩:=GZ hl h2;exact⟨ao,y',h1,fun a ha=>(hl.env a).symm.trans (h6 a ha),h4,vS hR h5 h3⟩⟩
def Down(ops:Array Oper)(listed:Array Bool):Prop:=∀k o,ops[k]?=some o→listed.getD k false=true→∀e∈o.after,Region.binds .any e=true→listed.getD e.on false=true
theorem Down.step{listed:Array Bool}(h:Down ops listed){i:Nat}(hi:i∈Region.ready .any ops listed):Down ops (listed.setIfInBounds i true):=by
 intro k o ho hk e he hb;by_cases hik:i=k
 ·subst hik;obtain⟨_,o',ho',hall⟩:=mem_ready.1 hi;rw[ho]at ho';cases ho';exact getD_set_true (hall e he hb)
 ·rw[getD_set_ne false hik]at hk;exact getD_set_true (h k o ho hk e he hb)
theorem Cv(hR:∀x y,km x y→R x→R y){i:Nat}{ai:dN}(hai:as[i]?=some ai){waits:Nat→Bool}
   (hwait:∀(listed:Array Bool),Down ops listed→∀j∈Region.ready .any ops listed,waits j=true→listed.getD i false=true) :
   ∀(fuel:Nat) (listed:Array Bool) (st st1:St),Down ops listed →
     (∀j aj,as[j]?=some aj→j≠i→listed.getD j true=false→waits j=false→T8 F ai aj)→(∀a,ai.addr=some a→look st.env a=F a) →
     i∈Region.ready .any ops listed→dV orc ai st=some st1→z5 orc ops as F R fuel (listed.setIfInBounds i true) st1→z5 orc ops as F R (fuel+1) listed st:=by
 intro fuel;induction fuel with
 |zero=>
   intro listed st st1 hdown hfree haddr hi hev H;refine⟨fun h=>(by rw[h]at hi;cases hi),fun j hj=>?_⟩;by_cases hji:j=i
   ·subst hji;exact⟨ai,st1,hai,haddr,hev,H⟩
   ·have:=ready_mono hj hji;rw[H.1]at this;cases this
 |succ fuel ih=>
   intro listed st st1 hdown hfree haddr hi hev H;refine⟨fun h=>(by rw[h]at hi;cases hi),fun j hj=>?_⟩;by_cases hji:j=i
   ·subst hji;exact⟨ai,st1,hai,haddr,hev,H⟩
   · obtain⟨aj,st2,h1,h6,h2,h3⟩:=H.2 j (ready_mono hj hji);obtain⟨hun,_⟩:=mem_ready.1 hj
     have hw:waits j=false:=by
       cases hw:waits j with
       |false=>rfl
       |true=>
         have h1:=hwait listed hdown j hj hw;have h0:=(mem_ready.1 hi).1;rcases Nat.lt_or_ge i listed.size with h'|h'
         ·simp[h']at h0 h1;rw[h0]at h1;cases h1
         ·simp[Array.getElem?_eq_none h']at h1
     obtain⟨st1',st2',g1,g2,g3,g4,g5⟩:=Ks (hfree j aj h1 hji hun hw) haddr h6 hev h2;refine⟨aj,st1',h1,g4,g1,ih (listed.setIfInBounds j true) st1' st2' (hdown.step hj) ?_ g5 (ready_mono hi (Ne.symm hji)) g2 ?_⟩
     · intro k ak hk hki hun' hwk;refine hfree k ak hk hki ?_ hwk;by_cases hjk:j=k
       ·subst hjk;exact hun
       ·rw[getD_set_ne true hjk]at hun';exact hun'
     ·rw[Array.setIfInBounds_comm _ _ hji];exact vS hR g3.symm h3
theorem o7(acc:List Nat)(i:Nat):∀(l:List Edge) (s:Nat),
   (l.foldl (fun s e=>if Region.binds .any e then s ||| 2 ^ e.on ||| acc.getD e.on 0 else s) s).testBit i=true →
   s.testBit i=true∨∃e∈l,Region.binds .any e=true∧(e.on=i∨(acc.getD e.on 0).testBit i=true)
 |[],s,h=>.inl h
 |e::l,s,h=>by
   simp only[List.foldl_cons]at h;rcases o7 acc i l _ h with h1|⟨e',h2,h3⟩
   · split at h1
     · rename_i hb;rw[Nat.testBit_or,Nat.testBit_or,Bool.or_eq_true,Bool.or_eq_true]at h1;rcases h1 with (h1|h1)|h1
       ·exact .inl h1
       ·refine .inr ⟨e,by simp,hb,.inl ?_⟩;rw[Nat.testBit_two_pow]at h1;simpa using h1
       ·exact .inr ⟨e,by simp,hb,.inr h1⟩
     ·exact .inl h1
   ·exact .inr ⟨e',by simp[h2],h3⟩
theorem tc:∀(l:List Oper) (acc:List Nat),(mg l acc).length=acc.length+l.length∧(∀j,j<acc.length→(mg l acc).getD j 0=acc.getD j 0) ∧
   ∀k o,l[k]?=some o→∀i,((mg l acc).getD (acc.length+k) 0).testBit i=true→∃e∈o.after.toList,Region.binds .any e=true∧(e.on=i∨((mg l acc).getD e.on 0).testBit i=true)
 |[],acc=>⟨by simp[mg],fun j _=>rfl,fun k o h=>by simp at h⟩
 |o::l,acc=>by
   simp only[mg];obtain⟨h1,h2,h3⟩:=tc l (acc++[o.after.toList.foldl (fun s e=>if Region.binds .any e then s ||| 2 ^ e.on ||| acc.getD e.on 0 else s) 0]);refine⟨by rw[h1];simp;omega,fun j hj=>?_,fun k o' ho i hi=>?_⟩
   ·rw[h2 j (by simp;omega)];simp[List.getD,List.getElem?_append_left hj]
   · cases k with
     |zero=>
       simp at ho;subst ho;rw[Nat.add_zero,h2 acc.length (by simp)]at hi
       have:(acc++[o.after.toList.foldl (fun s e=>if Region.binds .any e then s ||| 2 ^ e.on ||| acc.getD e.on 0 else s) 0]).getD acc.length 0 =
           o.after.toList.foldl (fun s e=>if Region.binds .any e then s ||| 2 ^ e.on ||| acc.getD e.on 0 else s) 0:=by
         simp[List.getD]
       rw[this]at hi;rcases o7 acc i _ _ hi with h|⟨e,h4,h5,h6⟩
       ·simp at h
       · refine⟨e,h4,h5,N4 h6 fun h=>?_⟩
         have hlt:e.on<acc.length:=by
           rcases Nat.lt_or_ge e.on acc.length with h'|h'
           ·exact h'
           ·simp[List.getD,List.getElem?_eq_none h']at h
         rw[h2 e.on (by simp;omega)];simpa[List.getD,List.getElem?_append_left hlt] using h
     |succ k=>
       have:=h3 k o' (by simpa using ho) i (by simpa[Nat.add_assoc,Nat.add_comm 1 k] using hi);exact this
theorem jz:∀(l:List Oper) (i:Nat),g_ i l=true→∀k o,l[k]?=some o→∀e∈o.after,Region.binds .any e=true→e.on<i+k
 |[],_,_,k,o,h,_,_,_=>by simp at h
 |o::l,i,hd,k,o',ho,e,he,hb=>by
   simp only[g_,Bool.and_eq_true,List.all_eq_true]at hd;cases k with
   |zero=>
     simp at ho;subst ho;have:=hd.1 e (by simpa using he);simpa[hb] using this
   |succ k=>
     have:=jz l (i+1) hd.2 k o' (by simpa using ho) e he hb;omega
theorem xE{l:List Oper}(hl:ops.toList=l)(hd:g_ 0 l=true){listed:Array Bool}(hdown:Down ops listed)(i:Nat):∀(j:Nat) (o:Oper),ops[j]?=some o →
   (∀e∈o.after,Region.binds .any e=true→listed.getD e.on false=true)→((mg l []).getD j 0).testBit i=true→listed.getD i false=true:=by
 intro j;induction j using Nat.strongRecOn with
 |_ j ih=>
   intro o ho hall hbit;have hlo:l[j]?=some o:=by rw[←hl];simpa using ho
   obtain⟨e,h1,h2,h3⟩:=(tc l []).2.2 j o hlo i (by simpa using hbit);have he:e∈o.after:=by simpa using h1
   rcases h3 with h3|h3
   ·rw[←h3];exact hall e he h2
   ·have hlt:=jz l 0 hd j o hlo e he h2;have hlt':e.on<j:=(by omega);have hjs:j<ops.size:=(Array.getElem?_eq_some_iff.1 ho).1;have hoo:ops[e.on]?=some (ops[e.on]'(by omega)):=Array.getElem?_eq_getElem (by omega);exact ih e.on hlt' _ hoo (fun e' he' hb'=>hdown e.on _ hoo (hall e he h2) e' he' hb') h3
theorem o8{ds:List (Nat×Nat)}{ms:List Nat}{i:Nat}{x:dN}:∀(l:List dN) (j:Nat),rN ds ms i x j l=true→∀k y,l[k]?=some y→(ms.getD (j+k) 0).testBit i=true∨(indep x y || y4 ds x y)=true
 |[],_,_,k,y,h=>by simp at h
 |z::l,j,hp,k,y,hy=>by
   simp only[rN,Bool.and_eq_true,Bool.or_eq_true]at hp;cases k with
   |zero=>simp at hy;subst hy;simpa[or_assoc] using hp.1
   |succ k=>
     have:=o8 l (j+1) hp.2 k y (by simpa using hy)
     rwa [show j+1+k=j+(k+1) from by omega]at this
theorem nM{ds:List (Nat×Nat)}{ms:List Nat}:∀(l:List dN) (i:Nat),mh ds ms i l=true→∀k m x y,k<m→l[k]?=some x→l[m]?=some y→(ms.getD (i+m) 0).testBit (i+k)=true∨(indep x y || y4 ds x y)=true
 |[],_,_,k,m,x,y,_,h,_=>by simp at h
 |z::l,i,hp,k,m,x,y,hkm,hx,hy=>by
   simp only[mh,Bool.and_eq_true]at hp;cases m with
   |zero=>omega
   |succ m=>
     cases k with
     |zero=>
       simp at hx;subst hx;have:=o8 l (i+1) hp.1 m y (by simpa using hy)
       rwa [show i+1+m=i+(m+1) from by omega]at this
     |succ k=>
       have:=nM l (i+1) hp.2 k m x y (by omega) (by simpa using hx) (by simpa using hy)
       rwa [show i+1+m=i+(m+1) from by omega,show i+1+k=i+(k+1) from by omega]at this
theorem rB{n:Nat}(hd:g_ 0 ops.toList=true){k:Nat}{o:Oper}{listed:Array Bool}(hs:listed.size=n)(hl:∀j,j<n→listed[j]?=some (decide (j<k)))(hn:ops.size=n)(ho:ops[k]?=some o) :
   k∈Region.ready .any ops listed:=by
 have hk:k<ops.size:=(Array.getElem?_eq_some_iff.1 ho).1;rw[mem_ready];refine⟨by simp[hl k (by omega)],o,ho,fun e he hb=>?_⟩;have:=jz _ 0 hd k o (by simpa using ho) e he hb;simp[hl e.on (by omega)];omega
theorem G7{ds:List (Nat×Nat)}{x y:dN}(h:y4 ds x y=true) :
   (∀d,x.dst=some d→d∉y.looks∧y.dst≠some d)∧(∀d,y.dst=some d→d∉x.looks)∧∃a b,x.addr=some a∧y.addr=some b∧(a,b)∈ds:=by
 simp only[y4,Bool.and_eq_true]at h;obtain⟨⟨h1,h2⟩,h3⟩:=h;refine⟨fun d hd=>?_,fun d hd=>?_,?_⟩
 ·rw[hd]at h1;simp at h1;exact h1
 ·rw[hd]at h2;simpa using h2
 · split at h3
   ·rename_i a b ha hb;exact⟨a,b,ha,hb,by simpa using h3⟩
   ·cases h3
theorem td{env:List (Nat×AV)}:∀{ds:List (Nat×Nat)},fH env ds=true→∀a b,(a,b)∈ds→apart (look env a) (look env b)=true
 |[],_,a,b,h=>by simp at h
 |(a',b')::r,h,a,b,hm=>by
   simp only[fH,Bool.and_eq_true]at h;simp only[List.mem_cons,Prod.mk.injEq]at hm;rcases hm with⟨rfl,rfl⟩|hm
   ·exact h.1
   ·exact td h.2 a b hm
theorem te{t:Nat}:∀{l:List dN} {st st':St},l.all (fun o=>o.dst != some t)=true→bt orc l st=some st'→look st'.env t=look st.env t
 |[],st,st',_,h=>by simp[bt]at h;subst h;rfl
 |o::l,st,st',hl,h=>by
   simp only[List.all_cons,Bool.and_eq_true,bne_iff_ne,ne_eq]at hl;simp only[bt]at h;split at h
   ·simp at h
   ·rename_i st1 h1;rw[te (by simpa using hl.2) h];rw[ee,Option.map_eq_some_iff]at h1;obtain⟨r1,_,rfl⟩:=h1;simp only[eE];rw[if_neg hl.1]
theorem z6{ds:List (Nat×Nat)}(hR:∀x y,km x y→R x→R y)(hd:g_ 0 ops.toList=true)(hp:mh ds (mg ops.toList []) 0 as=true)(hlen:as.length=ops.size)
   (hF:∀a b,(a,b)∈ds→apart (F a) (F b)=true) :
   ∀(l:List dN) (k:Nat) (listed:Array Bool) (st st':St),(∀j,l[j]?=as[k+j]?)→l.length+k=ops.size→listed.size=ops.size→(∀j,j<ops.size→listed[j]?=some (decide (j<k)))→Down ops listed →
     w7 l=true→(∀a,F a=look st'.env a)→bt orc l st=some st'→R st'→z5 orc ops as F R l.length listed st
 |[],k,listed,st,st',_,hk,hs,hl,_,_,_,hev,hr=>by
   simp[bt]at hev;subst hev;refine⟨?_,hr⟩;rw[List.eq_nil_iff_forall_not_mem];intro i hi;obtain⟨h1,o,ho,_⟩:=mem_ready.1 hi;have hi':i<ops.size:=(Array.getElem?_eq_some_iff.1 ho).1;simp at hk;simp[hl i hi']at h1;omega
 |x::l,k,listed,st,st',hlk,hk,hs,hl,hdown,hlt,hFe,hev,hr=>by
   have hev0:=hev;simp only[w7,Bool.and_eq_true]at hlt;simp only[bt]at hev;split at hev
   ·simp at hev
   · rename_i st1 hst1;simp only[List.length_cons]at hk⊢;have hx:as[k]?=some x:=by simpa using (hlk 0).symm
     have hks:k<ops.size:=(by omega);have ho:ops[k]?=some ops[k]:=Array.getElem?_eq_getElem hks;have hready:=rB hd hs hl rfl ho;refine Cv hR hx (waits:=fun j=>((mg ops.toList []).getD j 0).testBit k) ?_ l.length listed st st1 hdown ?_ (fun a ha=>?_) hready hst1 ?_
     ·intro listed' hdown' j hj hw;obtain⟨_,o,hoj,hall⟩:=mem_ready.1 hj;exact xE rfl hd hdown' k j o hoj hall hw
     · intro j aj hj hjk hun hw;have hj':j<ops.size:=by rw[←hlen];exact (List.getElem?_eq_some_iff.1 hj).1
       have hkj:k<j:=by
         simp[hl j hj']at hun;omega
       have:=nM as 0 hp k j x aj hkj hx hj;simp only[Nat.zero_add]at this;rcases this with h|h
       ·rw[h]at hw;simp at hw
       · rcases Bool.or_eq_true _ _ |>.mp h with h|h
         ·exact .inl h
         ·obtain⟨f1,f2,a,b,f3,f4,f5⟩:=G7 h;exact .inr ⟨f1,f2,a,b,f3,f4,hF a b f5⟩
     ·have h1:=hlt.1;rw[ha]at h1;rw[hFe a];exact (te h1 hev0).symm
     · refine z6 hR hd hp hlen hF l (k+1) (listed.setIfInBounds k true) st1 st' (fun j=>?_) (by omega) (by simp[hs]) (fun j hj=>?_) (hdown.step hready) hlt.2 hFe hev hr
       ·have:=hlk (j+1);rw[show k+(j+1)=k+1+j from by omega]at this;simpa using this
       · by_cases hkj:k=j
         ·subst hkj;simp[hs,hks]
         ·rw[Array.getElem?_setIfInBounds_ne hkj,hl j hj];congr 1;simp;omega
end
section
variable {n0:Nat} {P:Program} {ns:Names}
theorem fM.RW{n0 N:Nat}{G:Gh}{x y:St}{a:Act}{w:World}(h:fM (num ns) n0 N G x a w)(hl:km x y):fM (num ns) n0 N G y a w:=by
 refine⟨⟨h.env.size,fun t v ht=>h.env.env t v (by rw[hl.env];exact ht)⟩,?_,h.marks⟩;have hi:=h.inv;rw[hl.sh,hl.aa]at hi
 exact { hi with
   cG:=fun d cells hd=>hi.cG d cells (by rw[hl.mem];exact hd)
   gE:=fun d b hd=>by rw[←hl.mem];exact hi.gE d b hd }
theorem fM.drew{n0 N:Nat}{G:Gh}{x:St}{a:Act}{w:World}(h:fM (num ns) n0 N G x a w):fM (num ns) n0 N G x a w.drew:=⟨h.env,h.inv.drew,h.marks.uQ (bu.drew G w) rfl⟩
end
end Go.Ab
namespace Go.Ab
section
variable {n0:Nat} {P:Program} {ns:Names} {ro:Option Nat} {n:Nat}
def rC(ro:Option Nat):Fence:={ Fence.wide with round:=ro }
theorem G8{f:FuncId}{args:Array Value}{w:World}{R:Ending→World→Prop}(h:Calls P f args w R):CallsIn (rC ro) n P f args w R:=by
 have h0:=callsIn_wide (n:=n).2 h;cases ro with
 |none=>exact h0
 |some l=>exact h0.inRound l
theorem Kt{row:String}{args:Array Value}{w:World}{R:Value→World→Prop}(h:Rows P row args w R):RowsIn (rC ro) n P row args w R:=by
 intro c cs _;obtain⟨v,w',r,s⟩:=h c cs;have h0:=stepsIn_wide.2 s;exact⟨v,w',r,h0⟩
theorem FI{o:Oper}(hd:∀c,o.op≠.defer c){a:Act}{w:World}{next:Act→World→Prop}{Q:Exit→Act→World→Prop}
   (h:o.wp P a w next (fun _ _ _=>False)):o.wpIn (rC ro) n P a w next Q:=by
 refine⟨fun _ _=>trivial,?_⟩;rw[Oper.semAt_eq _ _ _ hd];unfold Oper.wp at h;generalize (execOp a.eval o).run P w=r at h⊢;cases r with
 |ok x w'=>
   cases x<;>simp only[Oper.upon,Oper.uponIn]at h⊢<;>try exact h
   · refine⟨fun e=>by simp[rC,Fence.wide]at e,G8 (h.mono ?_)⟩;intro e w'' he;cases e with
     |returned v=>exact he
     |panicked c=>exact he.elim
     |outgrown=>obtain⟨_,_,hf⟩:=he;exact hf.elim
   ·exact⟨fun e=>by simp[rC,Fence.wide]at e,Kt h⟩
 |halt x w'=>cases x<;>simp only[Oper.upon,Oper.uponIn]at h⊢<;>exact h.elim
theorem xF{A:kD}{N:Nat}{ops:Array Oper}{o:Oper}{ao:dN}(hc:eX P ns A N ops o=some ao):∀c,o.op≠.defer c:=by
 intro c e;obtain⟨args,h1,_⟩:=lA hc;rw[e]at h1;simp[bo]at h1
theorem xG{G:Gh}{w:World}(hB:gJ P ns){orc:eH}(horc:iA P ns orc){A:kD}{N:Nat}{ops:Array Oper}{o:Oper}{ao:dN}(hc:eX P ns A N ops o=some ao)
   {st st':St} {a:Act} (hs:fM (num ns) n0 N G st a w) (hev:dV orc ao st=some st') {next:Act→World→Prop} {Q:Exit→Act→World→Prop}
   (hn:∀G' v w',fM (num ns) n0 N G' st' (a.put o.dst v) w'→bu G w G' w'→next (a.put o.dst v) w') :
   if Region.wanted o (yielded ops a.tmps) then o.wpIn (rC ro) n P a w next Q else (∀f,o.about P w a.eval=some f→(rC ro).fn f)∧next (a.put o.dst undef) w:=by
 rcases Cu (Q:=fun _ _ _=>False) hB horc hc hs hev hn with⟨h1,h2⟩|⟨h1,h2⟩
 ·rw[if_pos h1];exact FI (xF hc) h2
 ·rw[h1,if_neg (by simp)];exact⟨fun _ _=>trivial,h2⟩
theorem z7(hB:gJ P ns){orc:eH}(horc:iA P ns orc){A:kD}{N:Nat}{ops:Array Oper}{Q:Exit→Act→World→Prop}:∀{l:List Oper} {as:List dN} {st st':St} {G:Gh} {a:Act} {w:World},
   cC (eX P ns A N ops) l=some as→fM (num ns) n0 N G st a w→bt orc as st=some st' →
   (∀G' a' w',fM (num ns) n0 N G' st' a' w'→bu G w G' w'→Q .normal a' w')→wpListIn (rC ro) n P ops Q l a w
 |[],as,st,st',G,a,w,hc,hs,hev,hq=>by
   simp[cC]at hc;subst hc;simp[bt]at hev;subst hev;exact hq G a w hs (bu.refl G w)
 |o::l,as,st,st',G,a,w,hc,hs,hev,hq=>by
   simp only[cC]at hc;split at hc
   · rename_i ao aos h1 h2;simp at hc;subst hc;simp only[bt]at hev;split at hev
     ·simp at hev
     ·rename_i st1 hst1;unfold wpListIn;exact xG hB horc h1 hs hst1 (fun G' a' w' hs' he=>z7 hB horc h2 hs' hev (fun G'' a'' w'' hs'' he'=>hq G'' a'' w'' hs'' (he.trans he')))
   ·simp at hc
theorem FJ(hB:gJ P ns){orc:eH}(horc:iA P ns orc){A:kD}{N:Nat}{ops:Array Oper}{as:List dN}(hc:cC (eX P ns A N ops) ops.toList=some as){F:Nat→Option AV}{R:St→Prop}{Q:Exit→Act→World→Prop} :
   ∀{fuel:Nat} {listed:Array Bool} {st:St} {G:Gh} {a:Act} {w:World},fM (num ns) n0 N G st a w→z5 orc ops as F R fuel listed st →
     (∀st' G' a' w',R st'→fM (num ns) n0 N G' st' a' w'→bu G w G' w'→Q .normal a' w')→wpAnyIn (rC ro) n P .any ops Q fuel listed a w
 |0,_,st,G,a,w,hs,h,hq=>⟨h.1,hq st G a w h.2 hs (bu.refl G w)⟩
 |fuel+1,listed,st,G,a,w,hs,h,hq=>by
   refine⟨fun h0=>hq st G a w (h.1 h0) hs (bu.refl G w),fun i hi=>?_⟩;obtain⟨ao,st',h1,_,h2,h3⟩:=h.2 i hi;obtain⟨_,o,ho,_⟩:=mem_ready.1 hi
   have hco:eX P ns A N ops o=some ao:=by
     obtain⟨y,g1,g2⟩:=zc hc (i:=i) (x:=o) (by simpa using ho);rw[h1]at g1;cases g1;exact g2
   unfold wpOpIn;simp only[ho];exact xG hB horc hco hs h2 (fun G' a' w' hs' he=>FJ hB horc hc hs' h3 (fun st'' G'' a'' w'' hr hs'' he'=>hq st'' G'' a'' w'' hr hs'' (he.trans he')))
theorem vU(hm:P.follows .mixedOrders=true)(hB:gJ P ns){orc:eH}(horc:iA P ns orc){A:kD}{N id:Nat}{ops:Array Oper}{draw:Bool}{as:List dN}
   (hc:cC (eX P ns A N ops) ops.toList=some as) {ds:List (Nat×Nat)} (hd:draw=true→w8 ds ops.toList as=true) {st st':St} {G:Gh} {a:Act} {w:World} (hs:fM (num ns) n0 N G st a w) (hev:bt orc as st=some st') (hfar:fH st'.env ds=true)
   {Q:Exit→Act→World→Prop} (hq:∀G' a' w',fM (num ns) n0 N G' st' a' w'→bu G w G' w'→Q .normal a' w'):(Code.region id ops draw).wpIn (rC ro) n P Q a w:=by
 cases draw with
 |false=>exact wpIn_region_list (z7 hB horc hc hs hev hq)
 |true=>
   have hd':=hd rfl;simp only[w8,Bool.and_eq_true]at hd';have hlen:as.length=ops.size:=by have:=gr hc;simpa using this
   refine wpIn_region_any hm ?_
   have hany:z5 orc ops as (look st'.env) (fun s=>km s st') ops.size (Array.replicate ops.size false) st:=by
     have:=z6 (orc:=orc) (ops:=ops) (as:=as) (F:=look st'.env) (R:=fun s=>km s st') (fun x y hl hr=>hl.symm.trans hr) hd'.1 hd'.2.1 hlen (fun a b=>td hfar a b) as 0 (Array.replicate ops.size false) st st' (fun j=>by simp) (by simp[hlen]) (by simp)
       (fun j hj=>by simp[hj]) (fun k o ho hk=>by
         exfalso;have hk':k<ops.size:=(Array.getElem?_eq_some_iff.1 ho).1;simp[hk']at hk) hd'.2.2 (fun _=>rfl) hev (km.refl _)
     rwa [hlen]at this
   exact FJ hB horc hc hs.drew hany fun s G' a' w' hl hs' he=>hq G' a' w' (hs'.RW hl) ((bu.drew G w).trans he)
end
end Go.Ab
namespace Go.Ab
def z8{α:Type}(f:Nat→Option α):Prop:=∀k k' r,k≤k'→f k=some r→f k'=some r
open Classical in
noncomputable def J8{α:Type}(f:Nat→Option α):Option α:=if h:∃r k,f k=some r then some h.choose else none
theorem tf{α:Type}{f:Nat→Option α}(hf:z8 f){k:Nat}{r:α}(h:f k=some r):J8 f=some r:=by
 have hex:∃r k,f k=some r:=⟨r,k,h⟩;unfold J8;rw[dif_pos hex];obtain⟨k',h'⟩:=hex.choose_spec;have h1:=hf _ (max k k') _ (Nat.le_max_right _ _) h';have h2:=hf _ (max k k') _ (Nat.le_max_left _ _) h;rw[h1]at h2;exact h2
theorem gL{α:Type}{f:Nat→Option α}{r:α}(h:J8 f=some r):∃k,f k=some r:=by
 unfold J8 at h;split at h
 ·rename_i hex;obtain⟨k,hk⟩:=hex.choose_spec;cases h;exact⟨k,hk⟩
 ·simp at h
theorem o9{α:Type}{f:Nat→Option α}(h:∀k,f k=none):J8 f=none:=by
 cases hl:J8 f with
 |none=>rfl
 |some r=>obtain⟨k,hk⟩:=gL hl;rw[h k]at hk;simp at hk
theorem nc{α:Type}{f:Nat→Option α}(hf:z8 f){o:Option α}(h1:∀k r,f k=some r→o=some r)(h2:∀r,o=some r→∃k,f k=some r):J8 f=o:=by
 cases ho:o with
 |none=>exact o9 fun k=>by cases hk:f k with|none=>rfl|some r=>rw[h1 k r hk]at ho;simp at ho
 |some r=>obtain⟨k,hk⟩:=h2 r ho;exact tf hf hk
structure eH.le(a b:eH):Prop where
 p:∀g x r,a.p g x=some r→b.p g x=some r
 i:∀g x s t r,a.i g x s t=some r→b.i g x s t=some r
theorem eH.le_refl(a:eH):a.le a:=⟨fun _ _ _ h=>h,fun _ _ _ _ _ h=>h⟩
theorem ko{a b:eH}(h:a.le b){g:Nat}{own:List Nat}{vals:List AV}{sh:Sh}{aa:aG}{r:AV×Sh×aG}(e:dU a g own vals sh aa=some r):dU b g own vals sh aa=some r:=by
 unfold dU at *;split at e
 ·rename_i hp;rw[if_pos hp];simp only[Option.map_eq_some_iff]at e⊢;obtain⟨x,h1,h2⟩:=e;exact⟨x,h.i _ _ _ _ _ h1,h2⟩
 ·simp at e
theorem G9{a b:eH}(h:a.le b){op:AK}{vals:List AV}{cells:Option (List AV)}{sh:Sh}{aa:aG}{r:Out}(e:exec a op vals cells sh aa=some r):exec b op vals cells sh aa=some r:=by
 cases op with
 |aJ g=>
   simp only[exec]at e⊢;split at e
   ·simp only[Option.map_eq_some_iff]at e⊢;obtain⟨x,h1,h2⟩:=e;exact⟨x,h.p _ _ _ h1,h2⟩
   ·simp at e
 |d0 g=>
   simp only[exec]at e⊢;split at e
   ·simp only[Option.map_eq_some_iff]at e⊢;obtain⟨x,h1,h2⟩:=e;exact⟨x,h.p _ _ _ h1,h2⟩
   ·simp at e
 |bp g own=>
   simp only[exec,Option.map_eq_some_iff]at e⊢;obtain⟨x,h1,h2⟩:=e;exact⟨x,ko h h1,h2⟩
 |je g=>
   simp only[exec]at e⊢;split at e
   · split at e
     ·rename_i rs ts h1;rw[h.i _ _ _ _ _ h1];exact e
     ·simp at e
   ·simp at e
 |eS=>
   cases vals with
   |nil=>simp[exec]at e
   |cons f vals=>
     cases f with
     |fn g cap=>
       simp only[exec,Option.bind_eq_some_iff]at e⊢;obtain⟨x,h1,h2⟩:=e;exact⟨x,ko h h1,h2⟩
     |_=>simp[exec]at e
 |ir=>
   cases vals with
   |nil=>simp[exec]at e
   |cons f vals=>
     cases f with
     |fn g cap=>
       simp only[exec,Option.map_eq_some_iff]at e⊢;obtain⟨x,h1,h2⟩:=e;exact⟨x,ko h h1,h2⟩
     |_=>simp[exec]at e
 |_=>rw[←e];unfold exec;split<;>first|rfl|(rename_i heq;cases heq;done)|(simp at *;done)
theorem vW{a b:eH}(h:a.le b){o:dN}{st r:St}(e:dV a o st=some r):dV b o st=some r:=by
 unfold dV at *;cases hw:fh st.env o.guard with
 |none=>rw[hw]at e;simp at e
 |some t=>
   cases t with
   |false=>rw[hw]at e;exact e
   |true=>
     rw[hw]at e;dsimp only at e⊢;cases hv:d3 st.env o.args with
     |none=>rw[hv]at e;simp at e
     |some vals=>
       rw[hv]at e;dsimp only at e⊢;cases ho:exec a o.op vals (o.op.key.bind (look st.mem)) st.sh st.aa with
       |none=>rw[ho]at e;simp at e
       |some out=>
         rw[ho]at e;rw[G9 h ho];exact e
theorem n_{a b:eH}(h:a.le b):∀{l:List dN} {st r:St},bt a l st=some r→bt b l st=some r
 |[],_,_,e=>e
 |o::l,st,r,e=>by
   simp only[bt]at e⊢;split at e
   ·simp at e
   ·rename_i st' ho;rw[vW h ho];exact n_ h e
theorem jA{f f':St→Option (aU×St)}{pre:St→St}(h:∀s r,f s=some r→f' s=some r):∀{n n':Nat} {st:St} {r:aU×St},n≤n'→eW f pre n st=some r→eW f' pre n' st=some r
 |0,_,_,_,_,e=>by simp[eW]at e
 |n+1,0,_,_,hn,_=>by omega
 |n+1,n'+1,st,r,hn,e=>by
   simp only[eW]at e⊢;cases hf:f (pre st) with
   |none=>rw[hf]at e;simp at e
   |some q=>
     rw[h _ _ hf];rw[hf]at e;obtain⟨x,s⟩:=q;cases x with
     |normal=>exact jA h (by omega) e
     |ret=>exact e
     |exit id=>exact e
theorem oe{f f':St→Option (aU×St)}(h:∀s r,f s=some r→f' s=some r){live:List Nat}{pi px sz:Nat}{ag:Bool}{env:List (Nat×AV)}:∀{l:List (PV×Nat)} {st:St} {r:aU×St},
   jf f live pi px sz ag env l st=some r→jf f' live pi px sz ag env l st=some r
 |[],_,_,e=>e
 |(el,i)::l,st,r,e=>by
   simp only[jf]at e⊢;cases hv:uP sz ag el with
   |none=>rw[hv]at e;simp at e
   |some v=>
     rw[hv]at e;simp only at e⊢;cases hf:f (norm (restrict live { st with env:=di (di env pi (.pv (.int .i64 i))) px v })) with
     |none=>rw[hf]at e;simp at e
     |some q=>
       rw[h _ _ hf];rw[hf]at e;obtain⟨x,s⟩:=q;cases x with
       |normal=>exact oe h e
       |ret=>exact e
       |exit id=>exact e
theorem va{f f':St→Option (aU×St)}(h:∀s r,f s=some r→f' s=some r){v:Option AV}{gb pi px sz:Nat}{ag:Bool}{live:List Nat}{st:St}{r:aU×St}
   (e:jg f v gb pi px sz ag live st=some r):jg f' v gb pi px sz ag live st=some r:=by
 unfold jg at e⊢;split at e
 · split at e
   · rename_i hg;rw[if_pos hg];split at e
     · split at e
       ·rename_i hl;rw[if_pos hl];exact oe h e
       ·simp at e
     ·simp at e
   ·simp at e
 ·simp at e
theorem o_{f g f' g':St→Option (aU×St)}(h:∀s r,f s=some r→f' s=some r)(k:∀s r,g s=some r→g' s=some r):∀s r,andThen f g s=some r→andThen f' g' s=some r:=by
 intro s r e;unfold andThen at e⊢;cases hf:f s with
 |none=>rw[hf]at e;simp at e
 |some q=>
   rw[h _ _ hf];rw[hf]at e;obtain⟨x,t⟩:=q;cases x with
   |normal=>exact k _ _ e
   |ret=>simp at e
   |exit id=>simp at e
theorem cp{a b:eH}(h:a.le b){k k':Nat}(hk:k≤k'):∀{c:ae} {st:St} {r:aU×St},cP a k c st=some r→cP b k' c st=some r
 | .skip,_,_,e=>e
 | .bR _,_,_,e=>e
 | .N3 _,_,_,e=>e
 | .lZ _,_,_,e=>e
 | .mc _,_,_,e=>e
 | .RK _,_,_,e=>e
 | .oG ops live,st,r,e=>by
   simp only[cP]at e⊢;split at e
   ·rename_i st' ho;rw[n_ h ho];exact e
   ·simp at e
 | .seq x y,st,r,e=>by
   simp only[cP]at e⊢;cases hx:cP a k x st with
   |none=>rw[hx]at e;simp at e
   |some q=>
     rw[cp h hk hx];rw[hx]at e;obtain⟨ex,s⟩:=q;cases ex with
     |normal=>exact cp h hk e
     |ret=>exact e
     |exit id=>exact e
 | .cond c x y,st,r,e=>by
   simp only[cP]at e⊢;split at e
   · rename_i t hc;split at e
     ·rename_i ht;rw[if_pos ht];exact cp h hk e
     ·rename_i ht;rw[if_neg ht];exact cp h hk e
   ·simp at e
 | .block id x,st,r,e=>by
   simp only[cP]at e⊢;cases hx:cP a k x st with
   |none=>rw[hx]at e;simp at e
   |some q=>
     rw[cp h hk hx];rw[hx]at e;exact e
 | .loop live x,st,r,e=>by
   simp only[cP]at e⊢;exact jA (fun s r hs=>cp h hk hs) hk e
 | .exit id,_,_,e=>e
 | .ret,_,_,e=>e
 | .back c gb pi px sz ag live x y,st,r,e=>by
   simp only[cP]at e⊢;exact va (o_ (fun s r hs=>cp h hk hs) (fun s r hs=>cp h hk hs)) e
theorem eF{a b:eH}(h:a.le b){k k':Nat}(hk:k≤k'){aV:Bool}{af:aC}{args:List AV}{sh:Sh}{ts:aG}{r:List AV×Sh×aG}(e:cb a k aV af args sh ts=some r):cb b k' aV af args sh ts=some r:=by
 unfold cb at *;cases hc:cP a k af.body { env:=ca 0 args,mem:=[],sh,aa:=ts } with
 |none=>rw[hc]at e;simp at e
 |some q=>rw[cp h hk hc];rw[hc]at e;exact e
variable {AP:Nat→Option aC}
theorem cN:∀{n n' k k':Nat},n≤n'→k≤k'→(run AP k n).le (run AP k' n')
 |0,_,_,_,_,_=>⟨fun g x r e=>by simp[run]at e,fun g x s t r e=>by simp[run]at e⟩
 |n+1,0,_,_,h,_=>by omega
 |n+1,n'+1,k,k',h,hk=>by
   have ih:(run AP k n).le (run AP k' n'):=cN (by omega) hk;refine⟨fun g x r e=>?_,fun g x s t r e=>?_⟩
   · simp only[run]at e⊢;cases hg:AP g with
     |none=>rw[hg]at e;simp at e
     |some af=>
       rw[hg]at e;dsimp only at e⊢;cases hp:af.rf with
       |some f=>rw[hp]at e;exact f.mono ih.p e
       |none=>
         rw[hp]at e;dsimp only at e⊢;split at e
         · rename_i hc;rw[if_pos hc];cases hb:cb (run AP k n) k false af (x.map .pv) [] [] with
           |none=>rw[hb]at e;simp at e
           |some q=>rw[eF ih hk hb];rw[hb]at e;exact e
         ·simp at e
   · simp only[run]at e⊢;cases hg:AP g with
     |none=>rw[hg]at e;simp at e
     |some af=>
       rw[hg]at e;dsimp only at e⊢;split at e
       ·rename_i hc;rw[if_pos hc];exact eF ih hk e
       ·simp at e
noncomputable def aF(AP:Nat→Option aC):eH where
 p:=fun g x=>J8 fun n=>(run AP n n).p g x
 i:=fun g x s t=>J8 fun n=>(run AP n n).i g x s t
theorem rQ(g:Nat)(x:List PV):z8 fun n=>(run AP n n).p g x:=fun _ _ _ h e=>(cN h h).p _ _ _ e
theorem FK(g:Nat)(x:List AV)(s:Sh)(t:aG):z8 fun n=>(run AP n n).i g x s t:=fun _ _ _ h e=>(cN h h).i _ _ _ _ _ e
theorem Ku(n:Nat):(run AP n n).le (aF AP):=⟨fun g x _ e=>tf (rQ g x) e,fun g x s t _ e=>tf (FK g x s t) e⟩
theorem rR{g:Nat}{x:List PV}{r:List PV}(h:(aF AP).p g x=some r):∃n,(run AP n n).p g x=some r:=gL h
theorem FL{g:Nat}{x:List AV}{s:Sh}{t:aG}{r:List AV×Sh×aG}(h:(aF AP).i g x s t=some r):∃n,(run AP n n).i g x s t=some r:=gL h
theorem og{g:Nat}{own:List Nat}{vals:List AV}{sh:Sh}{aa:aG}{r:AV×Sh×aG}(e:dU (aF AP) g own vals sh aa=some r):∃n,dU (run AP n n) g own vals sh aa=some r:=by
 unfold dU at *;split at e
 ·rename_i hp;simp only[Option.map_eq_some_iff]at e;obtain⟨x,h1,h2⟩:=e;obtain⟨n,hn⟩:=FL h1;exact⟨n,by rw[if_pos hp,hn];simp only[Option.map_some,h2]⟩
 ·simp at e
theorem Cx{op:AK}{vals:List AV}{cells:Option (List AV)}{sh:Sh}{aa:aG}{r:Out}(e:exec (aF AP) op vals cells sh aa=some r):∃n,exec (run AP n n) op vals cells sh aa=some r:=by
 cases op with
 |aJ g=>
   simp only[exec]at e⊢;split at e
   ·rename_i cz hp;simp only[Option.map_eq_some_iff]at e;obtain⟨x,h1,h2⟩:=e;obtain⟨n,hn⟩:=rR h1;exact⟨n,by rw[hn];simp only[Option.map_some,h2]⟩
   ·simp at e
 |d0 g=>
   simp only[exec]at e⊢;split at e
   ·rename_i cz hp;simp only[Option.map_eq_some_iff]at e;obtain⟨x,h1,h2⟩:=e;obtain⟨n,hn⟩:=rR h1;exact⟨n,by rw[hn];simp only[Option.map_some,h2]⟩
   ·simp at e
 |bp g own=>
   simp only[exec,Option.map_eq_some_iff]at e⊢;obtain⟨x,h1,h2⟩:=e;obtain⟨n,hn⟩:=og h1;exact⟨n,x,hn,h2⟩
 |je g=>
   simp only[exec]at e⊢;split at e
   · split at e
     ·rename_i rs ts h1;obtain⟨n,hn⟩:=FL h1;exact⟨n,by rw[hn];exact e⟩
     ·simp at e
   ·simp at e
 |eS=>
   cases vals with
   |nil=>simp[exec]at e
   |cons f vals=>
     cases f with
     |fn g cap=>
       simp only[exec,Option.bind_eq_some_iff]at e⊢;obtain⟨x,h1,h2⟩:=e;obtain⟨n,hn⟩:=og h1;exact⟨n,x,hn,h2⟩
     |_=>simp[exec]at e
 |ir=>
   cases vals with
   |nil=>simp[exec]at e
   |cons f vals=>
     cases f with
     |fn g cap=>
       simp only[exec,Option.map_eq_some_iff]at e⊢;obtain⟨x,h1,h2⟩:=e;obtain⟨n,hn⟩:=og h1;exact⟨n,x,hn,h2⟩
     |_=>simp[exec]at e
 |_=>exact⟨0,by rw[←e];unfold exec;split<;>first|rfl|(rename_i heq;cases heq;done)|(simp at *;done)⟩
theorem Kv{o:dN}{st r:St}(e:dV (aF AP) o st=some r):∃n,dV (run AP n n) o st=some r:=by
 unfold dV at *;cases hw:fh st.env o.guard with
 |none=>rw[hw]at e;simp at e
 |some t=>
   cases t with
   |false=>rw[hw]at e;exact⟨0,e⟩
   |true=>
     rw[hw]at e;dsimp only at e⊢;cases hv:d3 st.env o.args with
     |none=>rw[hv]at e;simp at e
     |some vals=>
       rw[hv]at e;dsimp only at e⊢;cases ho:exec (aF AP) o.op vals (o.op.key.bind (look st.mem)) st.sh st.aa with
       |none=>rw[ho]at e;simp at e
       |some out=>
         obtain⟨n,hn⟩:=Cx ho;rw[ho]at e;exact⟨n,by rw[hn];exact e⟩
theorem vX:∀{l:List dN} {st r:St},bt (aF AP) l st=some r→∃n,bt (run AP n n) l st=some r
 |[],_,_,e=>⟨0,e⟩
 |o::l,st,r,e=>by
   simp only[bt]at e⊢;cases ho:dV (aF AP) o st with
   |none=>rw[ho]at e;simp at e
   |some s=>
     rw[ho]at e;obtain⟨n,hn⟩:=Kv ho;obtain⟨m,hm⟩:=vX (l:=l) e;refine⟨max n m,?_⟩;rw[vW (cN (Nat.le_max_left n m) (Nat.le_max_left n m)) hn];exact n_ (cN (Nat.le_max_right n m) (Nat.le_max_right n m)) hm
theorem th{k:Nat}{c:ae}{pre:St→St}(ih:∀{st:St} {r:aU×St},cP (aF AP) k c st=some r→∃n,cP (run AP n n) n c st=some r) :
   ∀{j:Nat} {st:St} {r:aU×St},eW (cP (aF AP) k c) pre j st=some r→∃n,eW (cP (run AP n n) n c) pre n st=some r
 |0,_,_,e=>by simp[eW]at e
 |j+1,st,r,e=>by
   simp only[eW]at e;cases hf:cP (aF AP) k c (pre st) with
   |none=>rw[hf]at e;simp at e
   |some q=>
     obtain⟨n,hn⟩:=ih hf;rw[hf]at e;obtain⟨x,s⟩:=q;cases x with
     |normal=>
       obtain⟨m,hm⟩:=th ih e;refine⟨max n m+1,?_⟩;simp only[eW];rw[cp (cN (n:=n) (n':=max n m+1) (by omega) (by omega)) (k:=n) (k':=max n m+1) (by omega) hn];exact jA (fun s r hs=>cp (cN (n:=m) (by omega) (by omega)) (k:=m) (by omega) hs) (n:=m) (by omega) hm
     |ret=>
       refine⟨n+1,?_⟩;simp only[eW];rw[cp (cN (n:=n) (n':=n+1) (by omega) (by omega)) (k:=n) (k':=n+1) (by omega) hn];exact e
     |exit id=>
       refine⟨n+1,?_⟩;simp only[eW];rw[cp (cN (n:=n) (n':=n+1) (by omega) (by omega)) (k:=n) (k':=n+1) (by omega) hn];exact e
theorem pV{n m:Nat}(h:n≤m){c:ae}{st:St}{r:aU×St}(e:cP (run AP n n) n c st=some r):cP (run AP m m) m c st=some r:=cp (cN h h) h e
theorem vb{k:Nat}{x y:ae}(ihx:∀{st:St} {r:aU×St},cP (aF AP) k x st=some r→∃n,cP (run AP n n) n x st=some r)(ihy:∀{st:St} {r:aU×St},cP (aF AP) k y st=some r→∃n,cP (run AP n n) n y st=some r)
   {st:St} {r:aU×St} (e:andThen (cP (aF AP) k x) (cP (aF AP) k y) st=some r):∃n,andThen (cP (run AP n n) n x) (cP (run AP n n) n y) st=some r:=by
 unfold andThen at e⊢;cases hx:cP (aF AP) k x st with
 |none=>rw[hx]at e;simp at e
 |some q=>
   obtain⟨n,hn⟩:=ihx hx;rw[hx]at e;obtain⟨ex,s⟩:=q;cases ex with
   |normal=>
     obtain⟨m,hm⟩:=ihy e;exact⟨max n m,by rw[pV (Nat.le_max_left n m) hn];exact pV (Nat.le_max_right n m) hm⟩
   |ret=>simp at e
   |exit id=>simp at e
theorem ti{F:St→Option (aU×St)}{f:Nat→St→Option (aU×St)}(hm:∀{n m:Nat},n≤m→∀s r,f n s=some r→f m s=some r)(ih:∀{st:St} {r:aU×St},F st=some r→∃n,f n st=some r)
   {live:List Nat} {pi px sz:Nat} {ag:Bool} {env:List (Nat×AV)}:∀{l:List (PV×Nat)} {st:St} {r:aU×St},jf F live pi px sz ag env l st=some r→∃n,jf (f n) live pi px sz ag env l st=some r
 |[],_,_,e=>⟨0,e⟩
 |(el,i)::l,st,r,e=>by
   simp only[jf]at e⊢;cases hv:uP sz ag el with
   |none=>rw[hv]at e;simp at e
   |some v=>
     rw[hv]at e;simp only at e⊢;cases hf:F (norm (restrict live { st with env:=di (di env pi (.pv (.int .i64 i))) px v })) with
     |none=>rw[hf]at e;simp at e
     |some q=>
       obtain⟨n,hn⟩:=ih hf;rw[hf]at e;obtain⟨x,s⟩:=q;cases x with
       |normal=>
         obtain⟨m,hm'⟩:=ti hm ih e;exact⟨max n m,by rw[hm (Nat.le_max_left n m) _ _ hn];exact oe (hm (Nat.le_max_right n m)) hm'⟩
       |ret=>exact⟨n,by rw[hn];exact e⟩
       |exit id=>exact⟨n,by rw[hn];exact e⟩
theorem i4{k:Nat}:∀{c:ae} {st:St} {r:aU×St},cP (aF AP) k c st=some r→∃n,cP (run AP n n) n c st=some r
 | .skip,_,_,e=>⟨0,e⟩
 | .bR _,_,_,e=>⟨0,e⟩
 | .N3 _,_,_,e=>⟨0,e⟩
 | .lZ _,_,_,e=>⟨0,e⟩
 | .mc _,_,_,e=>⟨0,e⟩
 | .RK _,_,_,e=>⟨0,e⟩
 | .oG ops live,st,r,e=>by
   simp only[cP]at e⊢;cases ho:bt (aF AP) ops st with
   |none=>rw[ho]at e;simp at e
   |some s=>obtain⟨n,hn⟩:=vX ho;rw[ho]at e;exact⟨n,by rw[hn];exact e⟩
 | .seq x y,st,r,e=>by
   simp only[cP]at e⊢;cases hx:cP (aF AP) k x st with
   |none=>rw[hx]at e;simp at e
   |some q=>
     obtain⟨n,hn⟩:=i4 hx;rw[hx]at e;obtain⟨ex,s⟩:=q;cases ex with
     |normal=>
       obtain⟨m,hm⟩:=i4 (c:=y) e;exact⟨max n m,by rw[pV (Nat.le_max_left n m) hn];exact pV (Nat.le_max_right n m) hm⟩
     |ret=>exact⟨n,by rw[hn];exact e⟩
     |exit id=>exact⟨n,by rw[hn];exact e⟩
 | .cond c x y,st,r,e=>by
   simp only[cP]at e⊢;split at e
   · rename_i t hc;split at e
     ·rename_i ht;obtain⟨n,hn⟩:=i4 e;exact⟨n,by rw[if_pos ht];exact hn⟩
     ·rename_i ht;obtain⟨n,hn⟩:=i4 e;exact⟨n,by rw[if_neg ht];exact hn⟩
   ·simp at e
 | .block id x,st,r,e=>by
   simp only[cP]at e⊢;cases hx:cP (aF AP) k x st with
   |none=>rw[hx]at e;simp at e
   |some q=>
     obtain⟨n,hn⟩:=i4 hx;rw[hx]at e;exact⟨n,by rw[hn];exact e⟩
 | .loop live x,st,r,e=>by
   simp only[cP]at e⊢;exact th (fun h=>i4 h) e
 | .exit id,_,_,e=>⟨0,e⟩
 | .ret,_,_,e=>⟨0,e⟩
 | .back c gb pi px sz ag live x y,st,r,e=>by
   simp only[cP]at e⊢;unfold jg at e⊢;split at e
   · split at e
     · rename_i hg;split at e
       · split at e
         ·rename_i hl;obtain⟨n,hn⟩:=ti (f:=fun n=>andThen (cP (run AP n n) n x) (cP (run AP n n) n y)) (fun h=>o_ (fun s r hs=>pV h hs) (fun s r hs=>pV h hs)) (vb (fun h=>i4 h) (fun h=>i4 h)) e;exact⟨n,by rw[if_pos hg,if_pos hl];exact hn⟩
         ·simp at e
       ·simp at e
     ·simp at e
   ·simp at e
noncomputable def cl(AP:Nat→Option aC)(c:ae)(st:St):Option (aU×St):=J8 fun k=>cP (aF AP) k c st
theorem rS(c:ae)(st:St):z8 fun k=>cP (aF AP) k c st:=fun _ _ _ h e=>cp (eH.le_refl _) h e
theorem jY{c:ae}{st:St}{k:Nat}{r:aU×St}(h:cP (aF AP) k c st=some r):cl AP c st=some r:=tf (rS c st) h
theorem Od{st:St}:cl AP .skip st=some (.normal,st):=jY (k:=0) rfl
theorem Oe{id:Nat}{st:St}:cl AP (.exit id) st=some (.exit id,st):=jY (k:=0) rfl
theorem RX{ts:List Nat}{st:St}:cl AP (.bR ts) st=some (.normal,nG ts st):=jY (k:=0) rfl
theorem RY{ds:List (Nat×Nat)}{st:St}:cl AP (.N3 ds) st=if fH st.env ds=true then some (.normal,st) else none:=by
 split
 ·rename_i h;exact jY (k:=0) (by simp[cP,h])
 ·rename_i h;exact o9 fun k=>by simp[cP,h]
theorem RZ{ps:List (Nat×Nat×Bool)}{st:St}:cl AP (.lZ ps) st=some (.normal,w6 ps st):=jY (k:=0) rfl
theorem R4{st:St}:cl AP .ret st=some (.ret,st):=jY (k:=0) rfl
theorem R5{ops:List dN}{live:List Nat}{st:St}:cl AP (.oG ops live) st=(bt (aF AP) ops st).map fun st'=>(.normal,restrict live st'):=by
 cases h:bt (aF AP) ops st with
 |none=>exact o9 fun k=>by simp only[cP,h]
 |some s=>exact jY (k:=0) (by simp only[cP,h])
def after(f:St→Option (aU×St)):Option (aU×St)→Option (aU×St)
 |some (.normal,st)=>f st
 |r=>r
theorem R6{a b:ae}{st:St}:cl AP (.seq a b) st=after (cl AP b) (cl AP a st):=by
 refine nc (rS _ _) (fun k r h=>?_) fun r h=>?_
 · simp only[cP]at h;cases hx:cP (aF AP) k a st with
   |none=>rw[hx]at h;simp at h
   |some q=>
     rw[jY hx];rw[hx]at h;obtain⟨ex,s⟩:=q;cases ex with
     |normal=>exact jY h
     |ret=>exact h
     |exit id=>exact h
 · cases hx:cl AP a st with
   |none=>rw[hx]at h;simp[after]at h
   |some q=>
     obtain⟨k,hk⟩:=gL hx;rw[hx]at h;obtain⟨ex,s⟩:=q;cases ex with
     |normal=>
       obtain⟨k',hk'⟩:=gL (show J8 (fun k=>cP (aF AP) k b s)=some r from h);refine⟨max k k',?_⟩;simp only[cP];rw[cp (eH.le_refl _) (Nat.le_max_left k k') hk];exact cp (eH.le_refl _) (Nat.le_max_right k k') hk'
     |ret=>exact⟨k,by simp only[cP];rw[hk];exact h⟩
     |exit id=>exact⟨k,by simp only[cP];rw[hk];exact h⟩
theorem Of{c:eG}{a b:ae}{st:St}{t:Bool}(h:gX st.env c=some (.pv (.bool t))):cl AP (.cond c a b) st=if t then cl AP a st else cl AP b st:=by
 unfold cl;simp only[cP,h];cases t<;>rfl
def leave(id:Nat):Option (aU×St)→Option (aU×St)
 |some (.exit id',st)=>if id'=id then some (.normal,st) else some (.exit id',st)
 |r=>r
theorem Kx{id:Nat}{b:ae}{st:St}:cl AP (.block id b) st=leave id (cl AP b st):=by
 refine nc (rS _ _) (fun k r h=>?_) fun r h=>?_
 · simp only[cP]at h;cases hx:cP (aF AP) k b st with
   |none=>rw[hx]at h;simp at h
   |some q=>rw[jY hx];rw[hx]at h;exact h
 · cases hx:cl AP b st with
   |none=>rw[hx]at h;simp[leave]at h
   |some q=>
     obtain⟨k,hk⟩:=gL hx;rw[hx]at h;exact⟨k,by simp only[cP];rw[hk];exact h⟩
theorem aD{live:List Nat}{b:ae}{st:St}:cl AP (.loop live b) st=after (cl AP (.loop live b)) (cl AP b (norm (restrict live st))):=by
 refine nc (rS _ _) (fun k r h=>?_) fun r h=>?_
 · simp only[cP]at h;cases k with
   |zero=>simp[eW]at h
   |succ k=>
     simp only[eW]at h;cases hx:cP (aF AP) (k+1) b (norm (restrict live st)) with
     |none=>rw[hx]at h;simp at h
     |some q=>
       rw[jY hx];rw[hx]at h;obtain⟨ex,s⟩:=q;cases ex with
       |normal=>exact jY (k:=k+1) (by simp only[cP];exact jA (fun _ _ h=>h) (Nat.le_succ k) h)
       |ret=>exact h
       |exit id=>exact h
 · cases hx:cl AP b (norm (restrict live st)) with
   |none=>rw[hx]at h;simp[after]at h
   |some q=>
     obtain⟨k,hk⟩:=gL hx;rw[hx]at h;obtain⟨ex,s⟩:=q;have up:∀m,k≤m→cP (aF AP) m b (norm (restrict live st))=some (ex,s):=fun m hm=>cp (eH.le_refl _) hm hk
     cases ex with
     |normal=>
       obtain⟨k',hk'⟩:=gL (show J8 (fun k=>cP (aF AP) k (.loop live b) s)=some r from h);refine⟨max k k'+1,?_⟩;simp only[cP,eW];rw[up _ (by omega)];simp only[cP]at hk';exact jA (fun _ _ h=>cp (eH.le_refl _) (by omega) h) (by omega) hk'
     |ret=>exact⟨k+1,by simp only[cP,eW];rw[up _ (by omega)];exact h⟩
     |exit id=>exact⟨k+1,by simp only[cP,eW];rw[up _ (by omega)];exact h⟩
def finish(aV:Bool)(af:aC)(sh:Sh):Option (aU×St)→Option (List AV×Sh×aG)
 |some (e,st)=>
   if e=.ret∨e=.normal then
     match d9 st af.results with
     |some vs=>
       let rs:=cA aV af.ks st.sh vs
       let sh':=if rs.all (aI sh.length)=true then (eL aV af.ks st.sh vs).take sh.length else eL aV af.ks st.sh vs
       if rs.all bE=true then some ((cZ st.aa rs sh').1,(cZ st.aa rs sh').2.1,(cZ st.aa rs sh').2.2.2) else none
     |none=>none
   else none
 |none=>none
theorem gg{orc:eH}{k:Nat}{aV:Bool}{af:aC}{args:List AV}{sh:Sh}{ts:aG}:cb orc k aV af args sh ts=finish aV af sh (cP orc k af.body { env:=ca 0 args,mem:=[],sh,aa:=ts }):=by
 unfold cb finish;cases cP orc k af.body { env:=ca 0 args,mem:=[],sh,aa:=ts } with
 |none=>rfl
 |some q=>obtain⟨e,st⟩:=q;rfl
noncomputable def nN(AP:Nat→Option aC)(aV:Bool)(af:aC)(args:List AV)(sh:Sh)(ts:aG):Option (List AV×Sh×aG):=
 finish aV af sh (cl AP af.body { env:=ca 0 args,mem:=[],sh,aa:=ts })
theorem vY{aV:Bool}{af:aC}{args:List AV}{sh:Sh}{ts:aG}{r:List AV×Sh×aG}(h:nN AP aV af args sh ts=some r):∃n,cb (run AP n n) n aV af args sh ts=some r:=by
 unfold nN at h;cases hc:cl AP af.body { env:=ca 0 args,mem:=[],sh,aa:=ts } with
 |none=>rw[hc]at h;simp[finish]at h
 |some q=>
   obtain⟨k,hk⟩:=gL hc;obtain⟨n,hn⟩:=i4 hk;exact⟨n,by rw[gg,hn,←hc];exact h⟩
theorem FM{n:Nat}{aV:Bool}{af:aC}{args:List AV}{sh:Sh}{ts:aG}{r:List AV×Sh×aG}(h:cb (run AP n n) n aV af args sh ts=some r):nN AP aV af args sh ts=some r:=by
 rw[gg]at h;unfold nN;cases hc:cP (run AP n n) n af.body { env:=ca 0 args,mem:=[],sh,aa:=ts } with
 |none=>rw[hc]at h;simp[finish]at h
 |some q=>
   rw[jY (cp (Ku n) (Nat.le_refl n) hc)];rw[hc]at h;exact h
theorem Qa{g:Nat}{af:aC}{x:List PV}(hg:AP g=some af)(hp:af.rf=none)(h1:x.length=af.nparams)(h2:x.length≤af.ntmps) :
   (aF AP).p g x=(nN AP false af (x.map .pv) [] []).bind fun r=>fJ r.1:=by
 refine nc (rQ g x) (fun k r h=>?_) fun r h=>?_
 · cases k with
   |zero=>simp[run]at h
   |succ k=>
     simp only[run,hg,hp]at h;rw[if_pos ⟨h1,h2⟩]at h;cases hb:cb (run AP (k+1) k) (k+1) false af (x.map .pv) [] [] with
     |none=>rw[hb]at h;simp at h
     |some q=>
       rw[FM (n:=k+1) (eF (cN (Nat.le_succ k) (Nat.le_refl _)) (Nat.le_refl _) hb)];rw[hb]at h;exact h
 · cases hb:nN AP false af (x.map .pv) [] [] with
   |none=>rw[hb]at h;simp at h
   |some q=>
     obtain⟨n,hn⟩:=vY hb;rw[hb]at h;refine⟨n+1,?_⟩;simp only[run,hg,hp];rw[if_pos ⟨h1,h2⟩,eF (cN (n:=n) (n':=n) (k:=n) (k':=n+1) (Nat.le_refl _) (Nat.le_succ n)) (Nat.le_succ n) hn];exact h
theorem vZ:∀(l:List (Nat×List PV×List PV)),(∀c∈l,(aF AP).p c.1 c.2.1=some c.2.2)→∃n,∀c∈l,(run AP n n).p c.1 c.2.1=some c.2.2
 |[],_=>⟨0,by simp⟩
 |c::l,h=>by
   obtain⟨n,hn⟩:=rR (h c (by simp));obtain⟨m,hm⟩:=vZ l fun c' hc=>h c' (by simp[hc]);refine⟨max n m,fun c' hc=>?_⟩;simp only[List.mem_cons]at hc;rcases hc with rfl|hc
   ·exact (cN (Nat.le_max_left n m) (Nat.le_max_left n m)).p _ _ _ hn
   ·exact (cN (Nat.le_max_right n m) (Nat.le_max_right n m)).p _ _ _ (hm c' hc)
theorem Og{g:Nat}{af:aC}{x:List PV}{f:Prim}(hg:AP g=some af)(hp:af.rf=some f):(aF AP).p g x=f.f (aF AP).p x:=by
 refine nc (rQ g x) (fun k r h=>?_) fun r h=>?_
 · cases k with
   |zero=>simp[run]at h
   |succ k=>
     simp only[run,hg,hp]at h;exact f.mono (fun g x r e=>(Ku (k+1)).p _ _ _ ((cN (Nat.le_succ k) (Nat.le_refl _)).p _ _ _ e)) h
 ·obtain⟨l,h1,h2⟩:=f.fin _ _ _ h;obtain⟨n,hn⟩:=vZ l h1;refine⟨n+1,?_⟩;simp only[run,hg,hp];exact h2 _ fun c hc=>(cN (n:=n) (n':=n) (k:=n) (k':=n+1) (Nat.le_refl _) (Nat.le_succ n)).p _ _ _ (hn c hc)
theorem Qb{g:Nat}{af:aC}{x:List AV}{sh:Sh}{ts:aG}(hg:AP g=some af)(h2:x.length≤af.ntmps):(aF AP).i g x sh ts=nN AP true af x sh ts:=by
 refine nc (FK g x sh ts) (fun k r h=>?_) fun r h=>?_
 · cases k with
   |zero=>simp[run]at h
   |succ k=>
     simp only[run,hg]at h;rw[if_pos h2]at h;exact FM (n:=k+1) (eF (cN (Nat.le_succ k) (Nat.le_refl _)) (Nat.le_refl _) h)
 ·obtain⟨n,hn⟩:=vY h;refine⟨n+1,?_⟩;simp only[run,hg];rw[if_pos h2];exact eF (cN (n:=n) (n':=n) (k:=n) (k':=n+1) (Nat.le_refl _) (Nat.le_succ n)) (Nat.le_succ n) hn
end Go.Ab
