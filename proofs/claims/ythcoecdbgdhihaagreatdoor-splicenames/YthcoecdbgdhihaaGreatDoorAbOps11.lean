import Derived.Test.YthcoecdbgdhihaaGreatDoorAbCopy
/-
  What an operation Oe compiled from, and what its run looked at.
-/
set_option linter.unusedVariables false
set_option linter.unusedSimpArgs false
set_option linter.unnecessarySimpa false
set_option maxRecDepth 100000
set_option maxHeartbeats 8000000
namespace Go.Ab
section
variable {P:Program} {ns:Names} {A:lf} {dst:Option Nat} {op:Op} {args:List Operand}
theorem xh {k o sz:Nat} {ag:Bool} (h:cm P ns A dst op=some (.aU k o sz ag,args)) :
   ∃t tx,op=.load t (.tmp tx)∧args=[.tmp tx]∧cW P t=some sz∧fQ P t=some ag:=by
 cases op<;>simp only [cm] at h
 all_goals (repeat' (split at h))
 all_goals (try (simp at h;done))
 all_goals
   simp only [Option.some.injEq,Prod.mk.injEq,AK.aU.injEq] at h;obtain ⟨⟨rfl,rfl,rfl,rfl⟩,rfl⟩:=h;exact ⟨_,_,rfl,rfl,by assumption,by assumption⟩
theorem xj {sz:Nat} {ag:Bool} (h:cm P ns A dst op=some (.bg sz ag,args)) :
   ∃t tx,op=.load t (.tmp tx)∧args=[.tmp tx]∧cW P t=some sz∧fQ P t=some ag:=by
 cases op<;>simp only [cm] at h
 all_goals (repeat' (split at h))
 all_goals (try (simp at h;done))
 all_goals
   simp only [Option.some.injEq,Prod.mk.injEq,AK.bg.injEq] at h;obtain ⟨⟨rfl,rfl⟩,rfl⟩:=h;exact ⟨_,_,rfl,rfl,by assumption,by assumption⟩
theorem vg {k o sz:Nat} (h:cm P ns A dst op=some (.cV k o sz,args)) :
   ∃t tx v,op=.store t (.tmp tx) v∧args=[.tmp tx,v]∧cW P t=some sz:=by
 cases op<;>simp only [cm] at h
 all_goals (repeat' (split at h))
 all_goals (try (simp at h;done))
 all_goals
   simp only [Option.some.injEq,Prod.mk.injEq,AK.cV.injEq] at h;obtain ⟨⟨rfl,rfl,rfl⟩,rfl⟩:=h;exact ⟨_,_,_,rfl,rfl,by assumption⟩
theorem vh {sz:Nat} (h:cm P ns A dst op=some (.cd sz,args)) :
   ∃t tx v,op=.store t (.tmp tx) v∧args=[.tmp tx,v]∧cW P t=some sz:=by
 cases op<;>simp only [cm] at h
 all_goals (repeat' (split at h))
 all_goals (try (simp at h;done))
 all_goals
   simp only [Option.some.injEq,Prod.mk.injEq,AK.cd.injEq] at h;obtain ⟨rfl,rfl⟩:=h;exact ⟨_,_,_,rfl,rfl,by assumption⟩
theorem xl {k:Nat} {z:List PV} (h:cm P ns A dst op=some (.alloc k z,args)) :
   ∃t,op=.alloc t∧args=[]∧cT P t=some z∧dst=some k:=by
 cases op<;>simp only [cm] at h
 all_goals (repeat' (split at h))
 all_goals (try (simp at h;done))
 all_goals
   simp only [Option.some.injEq,Prod.mk.injEq,AK.alloc.injEq] at h;obtain ⟨⟨rfl,rfl⟩,rfl⟩:=h;exact ⟨_,rfl,rfl,by assumption,rfl⟩
theorem vi {z:List PV} (h:cm P ns A dst op=some (.iX z,args)) :
   ∃t,op=.alloc t∧args=[]∧cT P t=some z:=by
 cases op<;>simp only [cm] at h
 all_goals (repeat' (split at h))
 all_goals (try (simp at h;done))
 all_goals
   simp only [Option.some.injEq,Prod.mk.injEq,AK.iX.injEq] at h;obtain ⟨rfl,rfl⟩:=h;exact ⟨_,rfl,rfl,by assumption⟩
theorem DG {k sz:Nat} (h:cm P ns A dst op=some (.box k sz,args)) :
   ∃t x,op=.box t x∧args=[x]∧cW P t=some sz∧dst=some k:=by
 cases op<;>simp only [cm] at h
 all_goals (repeat' (split at h))
 all_goals (try (simp at h;done))
 all_goals
   simp only [Option.some.injEq,Prod.mk.injEq,AK.box.injEq] at h;obtain ⟨⟨rfl,rfl⟩,rfl⟩:=h;exact ⟨_,_,rfl,rfl,by assumption,rfl⟩
theorem zX {sz:Nat} (h:cm P ns A dst op=some (.mz sz,args)) :
   ∃t x,op=.box t x∧args=[x]∧cW P t=some sz:=by
 cases op<;>simp only [cm] at h
 all_goals (repeat' (split at h))
 all_goals (try (simp at h;done))
 all_goals
   simp only [Option.some.injEq,Prod.mk.injEq,AK.mz.injEq] at h;obtain ⟨rfl,rfl⟩:=h;exact ⟨_,_,rfl,rfl,by assumption⟩
theorem re {k:AK} (h:cm P ns A dst op=some (k,args)) (hk:(∃sz by_ ag z,k=.ir sz by_ ag z)∨∃d sz by_ z,k=.iY d sz by_ z) :
   ∃t e l c sz by_ ag z,op=.makeSlice t l c∧args=[l,c]∧P.underlying t=some (.slice e)∧cW P e=some sz∧eX P e=some by_∧cT P e=some z∧z.length=sz∧0<sz ∧
     (k=.ir sz by_ ag z∨∃d,dst=some d∧k=.iY d sz by_ z):=by
 have hno:∀{o:s9},k≠.v o:=by rintro o rfl;rcases hk with ⟨_,_,_,_,e⟩ | ⟨_,_,_,_,e⟩<;>cases e
 cases op with
 | makeSlice t l c=>
   simp only [cm] at h;split at h
   · rename_i e he;split at h
     · rename_i sz by_ ag z h1 h2 h3 h4;rw [Option.ite_none_right_eq_some] at h;obtain ⟨⟨h5,h6⟩,h⟩:=h;split at h
       · rename_i k' d hd;rw [Option.ite_none_right_eq_some] at h;obtain ⟨_,h⟩:=h;simp only [Option.some.injEq,Prod.mk.injEq] at h;exact ⟨t,e,l,c,sz,by_,ag,z,rfl,h.2.symm,d3 he,h1,h2,h4,h5,h6,.inr ⟨d,rfl,h.1.symm⟩⟩
       · simp at h
       · simp only [Option.some.injEq,Prod.mk.injEq] at h;exact ⟨t,e,l,c,sz,by_,ag,z,rfl,h.2.symm,d3 he,h1,h2,h4,h5,h6,.inl h.1.symm⟩
     · simp at h
   · simp at h
 | _=>
   exfalso;simp only [cm] at h
   (repeat' (split at h))
   all_goals (try (simp at h;done))
   all_goals (try simp only [Option.some.injEq,Prod.mk.injEq,Option.map_eq_some_iff,Option.ite_none_right_eq_some] at h)
   all_goals (rcases hk with ⟨_,_,_,_,rfl⟩ | ⟨_,_,_,_,rfl⟩<;>simp at h)
theorem xm {sz by_:Nat} {ag:Bool} {z:List PV} (h:cm P ns A dst op=some (.ir sz by_ ag z,args)) :
   ∃t e l c,op=.makeSlice t l c∧args=[l,c]∧P.underlying t=some (.slice e)∧cW P e=some sz∧eX P e=some by_∧cT P e=some z∧z.length=sz∧0<sz:=by
 obtain ⟨t,e,l,c,sz',by',ag',z',h1,h2,h3,h4,h5,h6,h7,h8,h9⟩:=re h (.inl ⟨_,_,_,_,rfl⟩);rcases h9 with h9 | ⟨d,_,h9⟩<;>cases h9;exact ⟨t,e,l,c,h1,h2,h3,h4,h5,h6,h7,h8⟩
theorem xn {d sz by_:Nat} {z:List PV} (h:cm P ns A dst op=some (.iY d sz by_ z,args)) :
   ∃t e l c,op=.makeSlice t l c∧args=[l,c]∧P.underlying t=some (.slice e)∧cW P e=some sz∧eX P e=some by_∧cT P e=some z∧z.length=sz∧0<sz∧dst=some d:=by
 obtain ⟨t,e,l,c,sz',by',ag',z',h1,h2,h3,h4,h5,h6,h7,h8,h9⟩:=re h (.inr ⟨_,_,_,_,rfl⟩);rcases h9 with h9 | ⟨d',h0,h9⟩<;>cases h9;exact ⟨t,e,l,c,h1,h2,h3,h4,h5,h6,h7,h8,h0⟩
theorem vj {sz by_:Nat} (h:cm P ns A dst op=some (.append sz by_,args)):∃c,op=.call c:=by
 cases op<;>simp only [cm] at h
 all_goals (repeat' (split at h))
 all_goals (try (simp at h;done))
 all_goals exact ⟨_,rfl⟩
theorem tq {sz by_:Nat} {ag:Bool} (h:cm P ns A dst op=some (.dd sz by_ ag,args)):∃c,op=.call c:=by
 cases op<;>simp only [cm] at h
 all_goals (repeat' (split at h))
 all_goals (try (simp at h;done))
 all_goals exact ⟨_,rfl⟩
theorem xp {sz:Nat} (h:cm P ns A dst op=some (.jq sz,args)):∃c,op=.call c:=by
 cases op<;>simp only [cm] at h
 all_goals (repeat' (split at h))
 all_goals (try (simp at h;done))
 all_goals exact ⟨_,rfl⟩
theorem vk {sz:Nat} {z:List PV} (h:cm P ns A dst op=some (.gK sz z,args)):∃c,op=.call c:=by
 cases op<;>simp only [cm] at h
 all_goals (repeat' (split at h))
 all_goals (try (simp at h;done))
 all_goals exact ⟨_,rfl⟩
theorem zY {k:AK} (hk:(match k with | .aq _ | .dN _ | .aJ .. | .lg _ | .eV | .dE | .clone .. | .gJ ..=>true | _=>false)=true) (h:cm P ns A dst op=some (k,args)):∃c,op=.call c:=by
 cases op<;>simp only [cm] at h
 all_goals (repeat' (split at h))
 all_goals (try (simp at h;done))
 all_goals (first | exact ⟨_,rfl⟩ | skip)
 all_goals (simp at h;first | (obtain ⟨rfl,_⟩:=h;simp at hk;done) | (obtain ⟨_,_,rfl,_⟩:=h;simp at hk;done))
end
section
variable {orc:ep} {vals:List AV} {cells:Option (List AV)} {sh:Sh} {ah:aN} {out:Out}
theorem ib {key off sz:Nat} {ag:Bool} (h:exec orc (.aU key off sz ag) vals cells sh ah=some out) :
   ∃cs x,vals=[.aG key off]∧cells=some cs∧cA ag sz cs off=some x∧out=⟨x,none,sh,ah⟩:=by
 rcases vals with _ | ⟨v,_ | ⟨u,r⟩⟩
 · simp [exec] at h
 · cases v with
   | aG d o=>
     simp only [exec,Option.ite_none_right_eq_some] at h;obtain ⟨⟨rfl,rfl⟩,h⟩:=h;cases cells with
     | none=>simp at h
     | some cs=>
       simp only [Option.map_eq_some_iff] at h;obtain ⟨x,h1,rfl⟩:=h;exact ⟨cs,x,rfl,rfl,h1,rfl⟩
   | _=>simp [exec] at h
 · cases v<;>simp [exec] at h
theorem iy {key off sz:Nat} (h:exec orc (.cV key off sz) vals cells sh ah=some out) :
   ∃cs v,vals=[.aG key off,v]∧cells=some cs∧(bF v).length=sz∧(bF v).all bp=true∧off+sz≤cs.length∧out=⟨.un,some (bn cs off (bF v)),sh,ah⟩:=by
 rcases vals with _ | ⟨v,_ | ⟨u,_ | ⟨_,_⟩⟩⟩
 · simp [exec] at h
 · cases v<;>simp [exec] at h
 · cases v with
   | aG d o=>
     simp only [exec,Option.ite_none_right_eq_some] at h;obtain ⟨⟨rfl,rfl,h1,h2⟩,h⟩:=h;cases cells with
     | none=>simp at h
     | some cs=>
       simp only [Option.ite_none_right_eq_some,Option.some.injEq] at h;obtain ⟨h3,rfl⟩:=h;exact ⟨cs,u,rfl,rfl,h1,h2,h3,rfl⟩
   | _=>simp [exec] at h
 · cases v<;>simp [exec] at h
theorem jd {key:Nat} {z:List PV} (h:exec orc (.alloc key z) vals cells sh ah=some out) :
   vals=[]∧cells=none∧out=⟨.aG key 0,some (z.map cf.zeroCell),sh,ah⟩:=by
 cases vals with
 | nil=>cases cells with
   | none=>simp [exec] at h;exact ⟨rfl,rfl,h.symm⟩
   | some _=>simp [exec] at h
 | cons _ _=>simp [exec] at h
theorem ly {key sz:Nat} (h:exec orc (.box key sz) vals cells sh ah=some out) :
   ∃v,vals=[v]∧cells=none∧(bF v).length=sz∧(bF v).all bp=true∧out=⟨.aG key 0,some (bF v),sh,ah⟩:=by
 rcases vals with _ | ⟨v,_ | ⟨u,r⟩⟩
 · simp [exec] at h
 · cases cells with
   | none=>
     simp only [exec,Option.ite_none_right_eq_some,Option.some.injEq] at h;obtain ⟨⟨h1,h2⟩,rfl⟩:=h;exact ⟨v,rfl,rfl,h1,h2,rfl⟩
   | some _=>simp [exec] at h
 · simp [exec] at h
theorem kg {sz:Nat} {ag:Bool} (h:exec orc (.bg sz ag) vals cells sh ah=some out) :
   ∃p x,vals=[p]∧out=⟨x,none,sh,ah⟩∧((∃cs,p=.gf cs∧df ag sz cs=some x)∨∃b off cs,p=.br b off∧sh[b]?=some (some cs)∧dr cs=false∧cA ag sz cs off=some x):=by
 rcases vals with _ | ⟨v,_ | ⟨u,r⟩⟩
 · simp [exec] at h
 · simp only [exec] at h;split at h
   · rename_i cs;simp only [Option.map_eq_some_iff] at h;obtain ⟨x,h1,rfl⟩:=h;exact ⟨_,x,rfl,rfl,.inl ⟨cs,rfl,h1⟩⟩
   · rename_i b off;split at h
     · rename_i cs hcs;split at h
       · cases h
       · rename_i hm;simp only [Option.map_eq_some_iff] at h;obtain ⟨x,h1,rfl⟩:=h;exact ⟨_,x,rfl,rfl,.inr ⟨b,off,cs,rfl,hcs,by simpa using hm,h1⟩⟩
     · simp at h
   · simp at h
 · simp [exec] at h
theorem iz {sz:Nat} (h:exec orc (.cd sz) vals cells sh ah=some out) :
   ∃b off v cs,vals=[.br b off,v]∧sh[b]?=some (some cs)∧dr cs=false∧(cY v).length=sz∧off+sz≤cs.length∧(cY v).all dS=true∧(cY v).all (aW (b+1))=true ∧
     out=⟨.un,none,sh.set b (some (bn cs off (cY v))),ah⟩:=by
 rcases vals with _ | ⟨v,_ | ⟨u,_ | ⟨_,_⟩⟩⟩
 · simp [exec] at h
 · cases v<;>simp [exec] at h
 · cases v with
   | br b off=>
     simp only [exec] at h;split at h
     · rename_i cs hcs;simp only [Option.ite_none_right_eq_some,Option.some.injEq] at h;obtain ⟨⟨h0,h1,h2,h3,h4⟩,rfl⟩:=h;exact ⟨b,off,u,cs,rfl,hcs,h0,h1,h2,h3,h4,rfl⟩
     · simp at h
   | _=>simp [exec] at h
 · cases v<;>simp [exec] at h
theorem l0 {sz:Nat} (h:exec orc (.mz sz) vals cells sh ah=some out) :
   ∃v,vals=[v]∧(cY v).length=sz∧(cY v).all dS=true∧(cY v).all (aW sh.length)=true∧out=⟨.br sh.length 0,none,sh++[some (cY v)],ah⟩:=by
 rcases vals with _ | ⟨v,_ | ⟨u,r⟩⟩
 · simp [exec] at h
 · simp only [exec,Option.ite_none_right_eq_some,Option.some.injEq] at h;obtain ⟨⟨h1,h2,h3⟩,rfl⟩:=h;exact ⟨v,rfl,h1,h2,h3,rfl⟩
 · simp [exec] at h
theorem jx {z:List PV} (h:exec orc (.iX z) vals cells sh ah=some out):vals=[]∧out=⟨.br sh.length 0,none,sh++[some (z.map cf.zeroCell)],ah⟩:=by
 cases vals with
 | nil=>simp [exec] at h;exact ⟨rfl,h.symm⟩
 | cons _ _=>simp [exec] at h
theorem kh {sz by_:Nat} {ag:Bool} {z:List PV} (h:exec orc (.ir sz by_ ag z) vals cells sh ah=some out) :
   ∃k k' n,vals=[.pv (.int k n),.pv (.int k' n)]∧0≤n∧n≤9223372036854775807∧n*by_≤140737488355328∧z.length=sz ∧
     out=⟨.bE sh.length sz n.toNat ag,none,sh++[some ((List.replicate n.toNat (z.map .pv)).flatten)],ah⟩:=by
 rcases vals with _ | ⟨v,_ | ⟨u,_ | ⟨_,_⟩⟩⟩
 · simp [exec] at h
 · simp [exec] at h
 · cases v with
   | pv p=>cases p with
     | int k n=>cases u with
       | pv q=>cases q with
         | int k' n'=>
           simp only [exec,Option.ite_none_right_eq_some,Option.some.injEq] at h;obtain ⟨⟨rfl,h1,h2,h3,h4⟩,rfl⟩:=h;exact ⟨k,k',n,rfl,h1,h2,h3,h4,rfl⟩
         | _=>simp [exec] at h
       | _=>simp [exec] at h
     | _=>simp [exec] at h
   | _=>simp [exec] at h
 · simp [exec] at h
theorem je {d sz by_:Nat} {z:List PV} (h:exec orc (.iY d sz by_ z) vals cells sh ah=some out) :
   ∃k k' n,vals=[.pv (.int k n),.pv (.int k' n)]∧0≤n∧n≤9223372036854775807∧n*by_≤140737488355328∧z.length=sz∧cells=none ∧
     out=⟨.jP d n.toNat,some ((List.replicate n.toNat (z.map .pv)).flatten),sh,ah⟩:=by
 rcases vals with _ | ⟨v,_ | ⟨u,_ | ⟨_,_⟩⟩⟩
 · simp [exec] at h
 · simp [exec] at h
 · cases v with
   | pv p=>cases p with
     | int k n=>cases u with
       | pv q=>cases q with
         | int k' n'=>
           cases cells with
           | some _=>simp [exec] at h
           | none=>
           simp only [exec,Option.ite_none_right_eq_some,Option.some.injEq] at h;obtain ⟨⟨rfl,h1,h2,h3,h4⟩,rfl⟩:=h;exact ⟨k,k',n,rfl,h1,h2,h3,h4,rfl,rfl⟩
         | _=>simp [exec] at h
       | _=>simp [exec] at h
     | _=>simp [exec] at h
   | _=>simp [exec] at h
 · simp [exec] at h
theorem mR {sz by_:Nat} (h:exec orc (.clone sz by_) vals cells sh ah=some out) :
   ∃x y ts,vals=[x]∧cD sz by_ (.bM []) x ah=some (y,ts)∧out=⟨y,none,sh,ts⟩:=by
 rcases vals with _ | ⟨v,_ | ⟨_,_⟩⟩
 · simp [exec] at h
 · simp only [exec,Option.map_eq_some_iff] at h;obtain ⟨⟨y,ts⟩,h1,rfl⟩:=h;exact ⟨v,y,ts,rfl,h1,rfl⟩
 · simp [exec] at h
theorem jy {sz by_:Nat} (h:exec orc (.append sz by_) vals cells sh ah=some out) :
   ∃s x y ts,vals=[s,x]∧cD sz by_ s x ah=some (y,ts)∧out=⟨y,none,sh,ts⟩:=by
 rcases vals with _ | ⟨v,_ | ⟨u,_ | ⟨_,_⟩⟩⟩
 · simp [exec] at h
 · simp [exec] at h
 · simp only [exec,Option.map_eq_some_iff] at h;obtain ⟨⟨y,ts⟩,h1,rfl⟩:=h;exact ⟨v,u,y,ts,rfl,h1,rfl⟩
 · simp [exec] at h
theorem ki {sz:Nat} (h:exec orc (.jq sz) vals cells sh ah=some out) :
   ∃x y xs k sh',vals=[x,y]∧cR y=some xs∧qP sz sh xs x=some (k,sh')∧out=⟨.pv (.int .i64 (k:Int)),none,sh',ah⟩:=by
 rcases vals with _ | ⟨v,_ | ⟨u,_ | ⟨_,_⟩⟩⟩
 · simp [exec] at h
 · simp [exec] at h
 · simp only [exec] at h;cases hx:cR u with
   | none=>rw [hx] at h;simp at h
   | some xs=>
     rw [hx] at h;simp only [Option.map_eq_some_iff] at h;obtain ⟨⟨k,sh'⟩,h1,rfl⟩:=h;exact ⟨v,u,xs,k,sh',rfl,hx,h1,rfl⟩
 · simp [exec] at h
theorem pG {sz:Nat} {z:List PV} (h:exec orc (.gK sz z) vals cells sh ah=some out) :
   ∃x sh',vals=[x]∧mM sz z sh (qO sz x)=some sh'∧out=⟨.pg [],none,sh',ah⟩:=by
 rcases vals with _ | ⟨v,_ | ⟨u,_⟩⟩
 · simp [exec] at h
 · simp only [exec,Option.map_eq_some_iff] at h;obtain ⟨sh',h1,rfl⟩:=h;exact ⟨v,sh',rfl,h1,rfl⟩
 · simp [exec] at h
theorem kj {sz by_:Nat} {ag:Bool} (h:exec orc (.dd sz by_ ag) vals cells sh ah=some out) :
   ∃s x xs y sh',vals=[s,x]∧cR x=some xs∧bC sz xs=true∧qd sz by_ ag s xs sh ah=some (y,sh')∧out=⟨y,none,sh',ah⟩:=by
 rcases vals with _ | ⟨v,_ | ⟨u,_ | ⟨_,_⟩⟩⟩
 · simp [exec] at h
 · simp [exec] at h
 · simp only [exec] at h;split at h
   · rename_i xs hxs;simp only [Option.ite_none_right_eq_some,Option.map_eq_some_iff] at h;obtain ⟨h0,⟨y,sh'⟩,h1,rfl⟩:=h;exact ⟨v,u,xs,y,sh',rfl,hxs,h0,h1,rfl⟩
   · simp at h
 · simp [exec] at h
end
end Go.Ab
