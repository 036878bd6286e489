import Derived.Test.YtcjggpmnbcfedaaGreatDoorAbCopy
import Derived.Test.YtcjggpmnbcfedaaGreatDoorAbDup
/-
  What an operation Rf compiled from, and what its run looked at.
-/
set_option linter.unusedVariables false
set_option linter.unusedSimpArgs false
set_option linter.unnecessarySimpa false
set_option maxRecDepth 100000
set_option maxHeartbeats 8000000
namespace Go.Ab
section
variable {P:Program} {ns:Names} {A:lJ} {dst:Option Nat} {op:Op} {args:List Operand}
theorem yn {k o sz:Nat} {ag:Bool} (h:bH P ns A dst op=some (.bh k o sz ag,args)) :
   ∃t tx,op=.load t (.tmp tx)∧args=[.tmp tx]∧cR P t=some sz∧gj P t=some ag:=by
 cases op<;>simp only [bH] at h
 all_goals (repeat' (split at h))
 all_goals (try (simp at h;done))
 all_goals
   simp only [Option.some.injEq,Prod.mk.injEq,AK.bh.injEq] at h
   obtain ⟨⟨rfl,rfl,rfl,rfl⟩,rfl⟩:=h
   exact ⟨_,_,rfl,rfl,by assumption,by assumption⟩
theorem yp {sz:Nat} {ag:Bool} (h:bH P ns A dst op=some (.bf sz ag,args)) :
   ∃t tx,op=.load t (.tmp tx)∧args=[.tmp tx]∧cR P t=some sz∧gj P t=some ag:=by
 cases op<;>simp only [bH] at h
 all_goals (repeat' (split at h))
 all_goals (try (simp at h;done))
 all_goals
   simp only [Option.some.injEq,Prod.mk.injEq,AK.bf.injEq] at h
   obtain ⟨⟨rfl,rfl⟩,rfl⟩:=h
   exact ⟨_,_,rfl,rfl,by assumption,by assumption⟩
theorem wj {k o sz:Nat} (h:bH P ns A dst op=some (.cY k o sz,args)) :
   ∃t tx v,op=.store t (.tmp tx) v∧args=[.tmp tx,v]∧cR P t=some sz:=by
 cases op<;>simp only [bH] at h
 all_goals (repeat' (split at h))
 all_goals (try (simp at h;done))
 all_goals
   simp only [Option.some.injEq,Prod.mk.injEq,AK.cY.injEq] at h
   obtain ⟨⟨rfl,rfl,rfl⟩,rfl⟩:=h
   exact ⟨_,_,_,rfl,rfl,by assumption⟩
theorem wm {sz:Nat} (h:bH P ns A dst op=some (.cZ sz,args)) :
   ∃t tx v,op=.store t (.tmp tx) v∧args=[.tmp tx,v]∧cR P t=some sz:=by
 cases op<;>simp only [bH] at h
 all_goals (repeat' (split at h))
 all_goals (try (simp at h;done))
 all_goals
   simp only [Option.some.injEq,Prod.mk.injEq,AK.cZ.injEq] at h
   obtain ⟨rfl,rfl⟩:=h
   exact ⟨_,_,_,rfl,rfl,by assumption⟩
theorem wo {sz:Nat} (h:bH P ns A dst op=some (.kG sz,args)) :
   ∃t tx v,op=.store t (.tmp tx) v∧args=[.tmp tx,v]∧cR P t=some sz:=by
 cases op<;>simp only [bH] at h
 all_goals (repeat' (split at h))
 all_goals (try (simp at h;done))
 all_goals
   simp only [Option.some.injEq,Prod.mk.injEq,AK.kG.injEq] at h
   obtain ⟨rfl,rfl⟩:=h
   exact ⟨_,_,_,rfl,rfl,by assumption⟩
theorem yq {k:Nat} {z:List PV} (h:bH P ns A dst op=some (.alloc k z,args)) :
   ∃t,op=.alloc t∧args=[]∧cO P t=some z∧dst=some k:=by
 cases op<;>simp only [bH] at h
 all_goals (repeat' (split at h))
 all_goals (try (simp at h;done))
 all_goals
   simp only [Option.some.injEq,Prod.mk.injEq,AK.alloc.injEq] at h
   obtain ⟨⟨rfl,rfl⟩,rfl⟩:=h
   exact ⟨_,rfl,rfl,by assumption,rfl⟩
theorem wq {z:List PV} (h:bH P ns A dst op=some (.jX z,args)) :
   ∃t,op=.alloc t∧args=[]∧cO P t=some z:=by
 cases op<;>simp only [bH] at h
 all_goals (repeat' (split at h))
 all_goals (try (simp at h;done))
 all_goals
   simp only [Option.some.injEq,Prod.mk.injEq,AK.jX.injEq] at h
   obtain ⟨rfl,rfl⟩:=h
   exact ⟨_,rfl,rfl,by assumption⟩
theorem FD {k sz:Nat} (h:bH P ns A dst op=some (.box k sz,args)) :
   ∃t x,op=.box t x∧args=[x]∧cR P t=some sz∧dst=some k:=by
 cases op<;>simp only [bH] at h
 all_goals (repeat' (split at h))
 all_goals (try (simp at h;done))
 all_goals
   simp only [Option.some.injEq,Prod.mk.injEq,AK.box.injEq] at h
   obtain ⟨⟨rfl,rfl⟩,rfl⟩:=h
   exact ⟨_,_,rfl,rfl,by assumption,rfl⟩
theorem Bc {sz:Nat} (h:bH P ns A dst op=some (.nA sz,args)) :
   ∃t x,op=.box t x∧args=[x]∧cR P t=some sz:=by
 cases op<;>simp only [bH] at h
 all_goals (repeat' (split at h))
 all_goals (try (simp at h;done))
 all_goals
   simp only [Option.some.injEq,Prod.mk.injEq,AK.nA.injEq] at h
   obtain ⟨rfl,rfl⟩:=h
   exact ⟨_,_,rfl,rfl,by assumption⟩
theorem Be {sz:Nat} (h:bH P ns A dst op=some (.vW sz,args)) :
   ∃t x,op=.box t x∧args=[x]∧cR P t=some sz:=by
 cases op<;>simp only [bH] at h
 all_goals (repeat' (split at h))
 all_goals (try (simp at h;done))
 all_goals
   simp only [Option.some.injEq,Prod.mk.injEq,AK.vW.injEq] at h
   obtain ⟨rfl,rfl⟩:=h
   exact ⟨_,_,rfl,rfl,by assumption⟩
theorem se {k:AK} (h:bH P ns A dst op=some (k,args)) (hk:(∃sz by_ ag z,k=.iY sz by_ ag z)∨∃d sz by_ z,k=.kr d sz by_ z) :
   ∃t e l c sz by_ ag z,op=.makeSlice t l c∧args=[l,c]∧P.underlying t=some (.slice e)∧cR P e=some sz∧eD P e=some by_∧cO P e=some z∧z.length=sz∧0<sz ∧
     (k=.iY sz by_ ag z∨∃d,dst=some d∧k=.kr d sz by_ z):=by
 have hno:∀{o:ua},k≠.v o:=by rintro o rfl;rcases hk with ⟨_,_,_,_,e⟩ | ⟨_,_,_,_,e⟩<;>cases e
 cases op with
 | makeSlice t l c=>
   simp only [bH] at h
   split at h
   · rename_i e he
     split at h
     · rename_i sz by_ ag z h1 h2 h3 h4
       rw [Option.ite_none_right_eq_some] at h
       obtain ⟨⟨h5,h6⟩,h⟩:=h
       split at h
       · rename_i k' d hd
         rw [Option.ite_none_right_eq_some] at h
         obtain ⟨_,h⟩:=h
         simp only [Option.some.injEq,Prod.mk.injEq] at h
         exact ⟨t,e,l,c,sz,by_,ag,z,rfl,h.2.symm,dz he,h1,h2,h4,h5,h6,.inr ⟨d,rfl,h.1.symm⟩⟩
       · simp at h
       · simp only [Option.some.injEq,Prod.mk.injEq] at h
         exact ⟨t,e,l,c,sz,by_,ag,z,rfl,h.2.symm,dz he,h1,h2,h4,h5,h6,.inl h.1.symm⟩
     · simp at h
   · simp at h
 | _=>
   exfalso
   simp only [bH] at h
   (repeat' (split at h))
   all_goals (try (simp at h;done))
   all_goals (try simp only [Option.some.injEq,Prod.mk.injEq,Option.map_eq_some_iff,Option.ite_none_right_eq_some] at h)
   all_goals (rcases hk with ⟨_,_,_,_,rfl⟩ | ⟨_,_,_,_,rfl⟩<;>simp at h)
theorem yt {sz by_:Nat} {ag:Bool} {z:List PV} (h:bH P ns A dst op=some (.iY sz by_ ag z,args)) :
   ∃t e l c,op=.makeSlice t l c∧args=[l,c]∧P.underlying t=some (.slice e)∧cR P e=some sz∧eD P e=some by_∧cO P e=some z∧z.length=sz∧0<sz:=by
 obtain ⟨t,e,l,c,sz',by',ag',z',h1,h2,h3,h4,h5,h6,h7,h8,h9⟩:=se h (.inl ⟨_,_,_,_,rfl⟩)
 rcases h9 with h9 | ⟨d,_,h9⟩<;>cases h9
 exact ⟨t,e,l,c,h1,h2,h3,h4,h5,h6,h7,h8⟩
theorem yu {d sz by_:Nat} {z:List PV} (h:bH P ns A dst op=some (.kr d sz by_ z,args)) :
   ∃t e l c,op=.makeSlice t l c∧args=[l,c]∧P.underlying t=some (.slice e)∧cR P e=some sz∧eD P e=some by_∧cO P e=some z∧z.length=sz∧0<sz∧dst=some d:=by
 obtain ⟨t,e,l,c,sz',by',ag',z',h1,h2,h3,h4,h5,h6,h7,h8,h9⟩:=se h (.inr ⟨_,_,_,_,rfl⟩)
 rcases h9 with h9 | ⟨d',h0,h9⟩<;>cases h9
 exact ⟨t,e,l,c,h1,h2,h3,h4,h5,h6,h7,h8,h0⟩
theorem wt {sz by_:Nat} (h:bH P ns A dst op=some (.append sz by_,args)):∃c,op=.call c:=by
 cases op<;>simp only [bH] at h
 all_goals (repeat' (split at h))
 all_goals (try (simp at h;done))
 all_goals exact ⟨_,rfl⟩
theorem uh {sz by_:Nat} {ag:Bool} (h:bH P ns A dst op=some (.dH sz by_ ag,args)):∃c,op=.call c:=by
 cases op<;>simp only [bH] at h
 all_goals (repeat' (split at h))
 all_goals (try (simp at h;done))
 all_goals exact ⟨_,rfl⟩
theorem ui {sz by_:Nat} (h:bH P ns A dst op=some (.gW sz by_,args)):∃c,op=.call c:=by
 cases op<;>simp only [bH] at h
 all_goals (repeat' (split at h))
 all_goals (try (simp at h;done))
 all_goals exact ⟨_,rfl⟩
theorem yv {sz:Nat} (h:bH P ns A dst op=some (.lR sz,args)):∃c,op=.call c:=by
 cases op<;>simp only [bH] at h
 all_goals (repeat' (split at h))
 all_goals (try (simp at h;done))
 all_goals exact ⟨_,rfl⟩
theorem wu {sz:Nat} {z:List PV} (h:bH P ns A dst op=some (.jY sz z,args)):∃c,op=.call c:=by
 cases op<;>simp only [bH] at h
 all_goals (repeat' (split at h))
 all_goals (try (simp at h;done))
 all_goals exact ⟨_,rfl⟩
theorem yx (h:bH P ns A dst op=some (.ot,args)):∃t,op=.makeMap t none∧args=[]:=by
 cases op<;>simp only [bH] at h
 case makeMap t r=>
   split at h
   · rename_i hr
     cases r with
     | none=>simp only [Option.some.injEq,Prod.mk.injEq,true_and] at h;exact ⟨_,rfl,h.symm⟩
     | some _=>simp at hr
   · simp at h
 all_goals (repeat' (split at h))
 all_goals (try (simp at h;done))
theorem yy {c:CK} {ok:Bool} {z:PV} (h:bH P ns A dst op=some (.ku c ok z,args)) :
   ∃t x i k e,op=.lookup t x i ok∧args=[x,i]∧P.underlying t=some (.map k e)∧gY P k=some c∧zeroOf P e=some z:=by
 cases op<;>simp only [bH] at h
 all_goals (repeat' (split at h))
 all_goals (try (simp at h;done))
 all_goals
   simp only [Option.some.injEq,Prod.mk.injEq,AK.ku.injEq] at h
   obtain ⟨⟨rfl,rfl,rfl⟩,rfl⟩:=h
   exact ⟨_,_,_,_,_,rfl,rfl,by assumption,by assumption,by assumption⟩
theorem Bf {c:CK} (h:bH P ns A dst op=some (.rR c,args)) :
   ∃t m i x k e,(op=.mapUpdate t m i x∨op=.insert t m i x)∧args=[m,i,x]∧P.underlying t=some (.map k e)∧gY P k=some c:=by
 cases op<;>simp only [bH] at h
 case mapUpdate t m i x=>
   split at h
   · rename_i k e hu
     simp only [Option.map_eq_some_iff,Prod.mk.injEq,AK.rR.injEq] at h
     obtain ⟨c',h1,rfl,rfl⟩:=h
     exact ⟨_,_,_,_,_,_,.inl rfl,rfl,hu,h1⟩
   · simp at h
 case insert t m i x=>
   split at h
   · rename_i k e hu
     simp only [Option.map_eq_some_iff,Prod.mk.injEq,AK.rR.injEq] at h
     obtain ⟨c',h1,rfl,rfl⟩:=h
     exact ⟨_,_,_,_,_,_,.inr rfl,rfl,hu,h1⟩
   · simp at h
 all_goals (repeat' (split at h))
 all_goals (try (simp at h;done))
theorem Bg {k:AK} (hk:(match k with | .aq _ | .d7 _ | .aF .. | .lA _ | .jG | .dw | .clone .. | .lQ ..=>true | _=>false)=true) (h:bH P ns A dst op=some (k,args)):∃c,op=.call c:=by
 cases op<;>simp only [bH] at h
 all_goals (repeat' (split at h))
 all_goals (try (simp at h;done))
 all_goals (first | exact ⟨_,rfl⟩ | skip)
 all_goals (simp at h;first | (obtain ⟨rfl,_⟩:=h;simp at hk;done) | (obtain ⟨_,_,rfl,_⟩:=h;simp at hk;done))
end
section
variable {orc:eu} {vals:List AV} {cells:Option (List AV)} {sh:Sh} {ae:aH} {out:Out}
theorem iB {key off sz:Nat} {ag:Bool} (h:exec orc (.bh key off sz ag) vals cells sh ae=some out) :
   ∃cs x,vals=[.aB key off]∧cells=some cs∧cA ag sz cs off=some x∧out=⟨x,none,sh,ae⟩:=by
 rcases vals with _ | ⟨v,_ | ⟨u,r⟩⟩
 · simp [exec] at h
 · cases v with
   | aB d o=>
     simp only [exec,Option.ite_none_right_eq_some] at h
     obtain ⟨⟨rfl,rfl⟩,h⟩:=h
     cases cells with
     | none=>simp at h
     | some cs=>
       simp only [Option.map_eq_some_iff] at h
       obtain ⟨x,h1,rfl⟩:=h
       exact ⟨cs,x,rfl,rfl,h1,rfl⟩
   | _=>simp [exec] at h
 · cases v<;>simp [exec] at h
theorem iL {key off sz:Nat} (h:exec orc (.cY key off sz) vals cells sh ae=some out) :
   ∃cs v,vals=[.aB key off,v]∧cells=some cs∧(bg v).length=sz∧(bg v).all bm=true∧off+sz≤cs.length∧out=⟨.un,some (bn cs off (bg v)),sh,ae⟩:=by
 rcases vals with _ | ⟨v,_ | ⟨u,_ | ⟨_,_⟩⟩⟩
 · simp [exec] at h
 · cases v<;>simp [exec] at h
 · cases v with
   | aB d o=>
     simp only [exec,Option.ite_none_right_eq_some] at h
     obtain ⟨⟨rfl,rfl,h1,h2⟩,h⟩:=h
     cases cells with
     | none=>simp at h
     | some cs=>
       simp only [Option.ite_none_right_eq_some,Option.some.injEq] at h
       obtain ⟨h3,rfl⟩:=h
       exact ⟨cs,u,rfl,rfl,h1,h2,h3,rfl⟩
   | _=>simp [exec] at h
 · cases v<;>simp [exec] at h
theorem jt {key:Nat} {z:List PV} (h:exec orc (.alloc key z) vals cells sh ae=some out) :
   vals=[]∧cells=none∧out=⟨.aB key 0,some (z.map bW.zeroCell),sh,ae⟩:=by
 cases vals with
 | nil=>cases cells with
   | none=>simp [exec] at h;exact ⟨rfl,rfl,h.symm⟩
   | some _=>simp [exec] at h
 | cons _ _=>simp [exec] at h
theorem l6 {key sz:Nat} (h:exec orc (.box key sz) vals cells sh ae=some out) :
   ∃v,vals=[v]∧cells=none∧(bg v).length=sz∧(bg v).all bm=true∧out=⟨.aB key 0,some (bg v),sh,ae⟩:=by
 rcases vals with _ | ⟨v,_ | ⟨u,r⟩⟩
 · simp [exec] at h
 · cases cells with
   | none=>
     simp only [exec,Option.ite_none_right_eq_some,Option.some.injEq] at h
     obtain ⟨⟨h1,h2⟩,rfl⟩:=h
     exact ⟨v,rfl,rfl,h1,h2,rfl⟩
   | some _=>simp [exec] at h
 · simp [exec] at h
theorem kL {sz:Nat} {ag:Bool} (h:exec orc (.bf sz ag) vals cells sh ae=some out) :
   ∃p x,vals=[p]∧out=⟨x,none,sh,ae⟩∧((∃cs,p=.dG cs∧da ag sz cs=some x)∨∃b off cs,p=.aZ b off∧sh[b]?=some (some cs)∧c_ cs=false∧cA ag sz cs off=some x):=by
 rcases vals with _ | ⟨v,_ | ⟨u,r⟩⟩
 · simp [exec] at h
 · simp only [exec] at h
   split at h
   · rename_i cs
     simp only [Option.map_eq_some_iff] at h
     obtain ⟨x,h1,rfl⟩:=h
     exact ⟨_,x,rfl,rfl,.inl ⟨cs,rfl,h1⟩⟩
   · rename_i b off
     split at h
     · rename_i cs hcs
       split at h
       · cases h
       · rename_i hm
         simp only [Option.map_eq_some_iff] at h
         obtain ⟨x,h1,rfl⟩:=h
         exact ⟨_,x,rfl,rfl,.inr ⟨b,off,cs,rfl,hcs,by simpa using hm,h1⟩⟩
     · simp at h
   · simp at h
 · simp [exec] at h
theorem iM {sz:Nat} (h:exec orc (.cZ sz) vals cells sh ae=some out) :
   ∃b off v cs,vals=[.aZ b off,v]∧sh[b]?=some (some cs)∧c_ cs=false∧(cB v).length=sz∧off+sz≤cs.length∧(cB v).all dv=true∧(cB v).all (aM (b+1))=true ∧
     out=⟨.un,none,sh.set b (some (bn cs off (cB v))),ae⟩:=by
 rcases vals with _ | ⟨v,_ | ⟨u,_ | ⟨_,_⟩⟩⟩
 · simp [exec] at h
 · cases v<;>simp [exec] at h
 · cases v with
   | aZ b off=>
     simp only [exec] at h
     split at h
     · rename_i cs hcs
       simp only [Option.ite_none_right_eq_some,Option.some.injEq] at h
       obtain ⟨⟨h0,h1,h2,h3,h4⟩,rfl⟩:=h
       exact ⟨b,off,u,cs,rfl,hcs,h0,h1,h2,h3,h4,rfl⟩
     · simp at h
   | _=>simp [exec] at h
 · cases v<;>simp [exec] at h
theorem jR {sz:Nat} (h:exec orc (.kG sz) vals cells sh ae=some out) :
   ∃b off v cs,vals=[.aZ b off,v]∧sh[b]?=some (some cs)∧c_ cs=false∧(bg v).length=sz∧off+sz≤cs.length∧(bg v).all dv=true∧(bg v).all (aM (b+1))=true ∧
     out=⟨.un,none,sh.set b (some (bn cs off (bg v))),ae⟩:=by
 rcases vals with _ | ⟨v,_ | ⟨u,_ | ⟨_,_⟩⟩⟩
 · simp [exec] at h
 · cases v<;>simp [exec] at h
 · cases v with
   | aZ b off=>
     simp only [exec] at h
     split at h
     · rename_i cs hcs
       simp only [Option.ite_none_right_eq_some,Option.some.injEq] at h
       obtain ⟨⟨h0,h1,h2,h3,h4⟩,rfl⟩:=h
       exact ⟨b,off,u,cs,rfl,hcs,h0,h1,h2,h3,h4,rfl⟩
     · simp at h
   | _=>simp [exec] at h
 · cases v<;>simp [exec] at h
theorem mJ {sz:Nat} (h:exec orc (.nA sz) vals cells sh ae=some out) :
   ∃v,vals=[v]∧(cB v).length=sz∧(cB v).all dv=true∧(cB v).all (aM sh.length)=true∧out=⟨.aZ sh.length 0,none,sh++[some (cB v)],ae⟩:=by
 rcases vals with _ | ⟨v,_ | ⟨u,r⟩⟩
 · simp [exec] at h
 · simp only [exec,Option.ite_none_right_eq_some,Option.some.injEq] at h
   obtain ⟨⟨h1,h2,h3⟩,rfl⟩:=h
   exact ⟨v,rfl,h1,h2,h3,rfl⟩
 · simp [exec] at h
theorem mK {sz:Nat} (h:exec orc (.vW sz) vals cells sh ae=some out) :
   ∃v,vals=[v]∧(bg v).length=sz∧(bg v).all dv=true∧(bg v).all (aM sh.length)=true∧out=⟨.aZ sh.length 0,none,sh++[some (bg v)],ae⟩:=by
 rcases vals with _ | ⟨v,_ | ⟨u,r⟩⟩
 · simp [exec] at h
 · simp only [exec,Option.ite_none_right_eq_some,Option.some.injEq] at h
   obtain ⟨⟨h1,h2,h3⟩,rfl⟩:=h
   exact ⟨v,rfl,h1,h2,h3,rfl⟩
 · simp [exec] at h
theorem jS {z:List PV} (h:exec orc (.jX z) vals cells sh ae=some out):vals=[]∧out=⟨.aZ sh.length 0,none,sh++[some (z.map bW.zeroCell)],ae⟩:=by
 cases vals with
 | nil=>simp [exec] at h;exact ⟨rfl,h.symm⟩
 | cons _ _=>simp [exec] at h
theorem kM {sz by_:Nat} {ag:Bool} {z:List PV} (h:exec orc (.iY sz by_ ag z) vals cells sh ae=some out) :
   ∃k k' n,vals=[.pv (.int k n),.pv (.int k' n)]∧0≤n∧n≤9223372036854775807∧n*by_≤140737488355328∧z.length=sz ∧
     out=⟨.bz sh.length sz n.toNat ag,none,sh++[some ((List.replicate n.toNat (z.map .pv)).flatten)],ae⟩:=by
 rcases vals with _ | ⟨v,_ | ⟨u,_ | ⟨_,_⟩⟩⟩
 · simp [exec] at h
 · simp [exec] at h
 · cases v with
   | pv p=>cases p with
     | int k n=>cases u with
       | pv q=>cases q with
         | int k' n'=>
           simp only [exec,Option.ite_none_right_eq_some,Option.some.injEq] at h
           obtain ⟨⟨rfl,h1,h2,h3,h4⟩,rfl⟩:=h
           exact ⟨k,k',n,rfl,h1,h2,h3,h4,rfl⟩
         | _=>simp [exec] at h
       | _=>simp [exec] at h
     | _=>simp [exec] at h
   | _=>simp [exec] at h
 · simp [exec] at h
theorem jv {d sz by_:Nat} {z:List PV} (h:exec orc (.kr d sz by_ z) vals cells sh ae=some out) :
   ∃k k' n,vals=[.pv (.int k n),.pv (.int k' n)]∧0≤n∧n≤9223372036854775807∧n*by_≤140737488355328∧z.length=sz∧cells=none ∧
     out=⟨.ji d n.toNat,some ((List.replicate n.toNat (z.map .pv)).flatten),sh,ae⟩:=by
 rcases vals with _ | ⟨v,_ | ⟨u,_ | ⟨_,_⟩⟩⟩
 · simp [exec] at h
 · simp [exec] at h
 · cases v with
   | pv p=>cases p with
     | int k n=>cases u with
       | pv q=>cases q with
         | int k' n'=>
           cases cells with
           | some _=>simp [exec] at h
           | none=>
           simp only [exec,Option.ite_none_right_eq_some,Option.some.injEq] at h
           obtain ⟨⟨rfl,h1,h2,h3,h4⟩,rfl⟩:=h
           exact ⟨k,k',n,rfl,h1,h2,h3,h4,rfl,rfl⟩
         | _=>simp [exec] at h
       | _=>simp [exec] at h
     | _=>simp [exec] at h
   | _=>simp [exec] at h
 · simp [exec] at h
theorem kN (h:exec orc .ot vals cells sh ae=some out):vals=[]∧out=⟨.dj sh.length,none,sh++[some [.dQ []]],ae⟩:=by
 cases vals with
 | nil=>simp [exec] at h;exact ⟨rfl,h.symm⟩
 | cons _ _=>simp [exec] at h
theorem jw {c:CK} {ok:Bool} {z:PV} (h:exec orc (.ku c ok z) vals cells sh ae=some out) :
   ∃s k kvs r,vals=[.dj s,.pv k]∧sh[s]?=some (some [.dQ kvs])∧jZ c kvs k=some r∧out=⟨jH ok z r,none,sh,ae⟩:=by
 rcases vals with _ | ⟨v,_ | ⟨u,_ | ⟨_,_⟩⟩⟩
 · simp [exec] at h
 · simp [exec] at h
 · simp only [exec] at h
   split at h
   · rename_i s k
     split at h
     · rename_i kvs hs
       simp only [Option.map_eq_some_iff] at h
       obtain ⟨r,h1,rfl⟩:=h
       exact ⟨s,k,kvs,r,rfl,hs,h1,rfl⟩
     · cases h
   · cases h
 · simp [exec] at h
theorem mL {c:CK} (h:exec orc (.rR c) vals cells sh ae=some out) :
   ∃s k v kvs p kvs',vals=[.dj s,.pv k,v]∧sh[s]?=some (some [.dQ kvs])∧dL [] v=some p∧lT c kvs k p=some kvs'∧out=⟨.un,none,sh.set s (some [.dQ kvs']),ae⟩:=by
 rcases vals with _ | ⟨v,_ | ⟨u,_ | ⟨t,_ | ⟨_,_⟩⟩⟩⟩
 · simp [exec] at h
 · simp [exec] at h
 · simp [exec] at h
 · simp only [exec] at h
   split at h
   · rename_i s k
     split at h
     · rename_i kvs p hs hp
       simp only [Option.map_eq_some_iff] at h
       obtain ⟨r,h1,rfl⟩:=h
       exact ⟨s,k,t,kvs,p,r,rfl,hs,hp,h1,rfl⟩
     · cases h
   · cases h
 · simp [exec] at h
theorem nE {sz by_:Nat} (h:exec orc (.clone sz by_) vals cells sh ae=some out) :
   ∃x y ts,vals=[x]∧cE sz by_ (.bJ []) x ae=some (y,ts)∧out=⟨y,none,sh,ts⟩:=by
 rcases vals with _ | ⟨v,_ | ⟨_,_⟩⟩
 · simp [exec] at h
 · simp only [exec,Option.map_eq_some_iff] at h
   obtain ⟨⟨y,ts⟩,h1,rfl⟩:=h
   exact ⟨v,y,ts,rfl,h1,rfl⟩
 · simp [exec] at h
theorem jT {sz by_:Nat} (h:exec orc (.append sz by_) vals cells sh ae=some out) :
   ∃s x y ts,vals=[s,x]∧cE sz by_ s x ae=some (y,ts)∧out=⟨y,none,sh,ts⟩:=by
 rcases vals with _ | ⟨v,_ | ⟨u,_ | ⟨_,_⟩⟩⟩
 · simp [exec] at h
 · simp [exec] at h
 · simp only [exec,Option.map_eq_some_iff] at h
   obtain ⟨⟨y,ts⟩,h1,rfl⟩:=h
   exact ⟨v,u,y,ts,rfl,h1,rfl⟩
 · simp [exec] at h
theorem je {sz by_:Nat} (h:exec orc (.gW sz by_) vals cells sh ae=some out) :
   ∃s x e xs p,vals=[s,x,e]∧cN x=some xs∧xT sz by_ xs s e ae=some p∧out=⟨.pv p,none,sh,ae⟩:=by
 rcases vals with _ | ⟨v,_ | ⟨u,_ | ⟨e,_ | ⟨_,_⟩⟩⟩⟩
 · simp [exec] at h
 · simp [exec] at h
 · simp [exec] at h
 · simp only [exec] at h
   cases hx:cN u with
   | none=>rw [hx] at h;simp at h
   | some xs=>
     rw [hx] at h
     simp only [Option.map_eq_some_iff] at h
     obtain ⟨p,h1,rfl⟩:=h
     exact ⟨v,u,e,xs,p,rfl,hx,h1,rfl⟩
 · simp [exec] at h
theorem kO {sz:Nat} (h:exec orc (.lR sz) vals cells sh ae=some out) :
   ∃x y xs k sh',vals=[x,y]∧cN y=some xs∧uE sz sh xs x=some (k,sh')∧out=⟨.pv (.int .i64 (k:Int)),none,sh',ae⟩:=by
 rcases vals with _ | ⟨v,_ | ⟨u,_ | ⟨_,_⟩⟩⟩
 · simp [exec] at h
 · simp [exec] at h
 · simp only [exec] at h
   cases hx:cN u with
   | none=>rw [hx] at h;simp at h
   | some xs=>
     rw [hx] at h
     simp only [Option.map_eq_some_iff] at h
     obtain ⟨⟨k,sh'⟩,h1,rfl⟩:=h
     exact ⟨v,u,xs,k,sh',rfl,hx,h1,rfl⟩
 · simp [exec] at h
theorem qA {sz:Nat} {z:List PV} (h:exec orc (.jY sz z) vals cells sh ae=some out) :
   ∃x sh',vals=[x]∧rU sz z sh (xS sz x)=some sh'∧out=⟨.nf [],none,sh',ae⟩:=by
 rcases vals with _ | ⟨v,_ | ⟨u,_⟩⟩
 · simp [exec] at h
 · simp only [exec,Option.map_eq_some_iff] at h
   obtain ⟨sh',h1,rfl⟩:=h
   exact ⟨v,sh',rfl,h1,rfl⟩
 · simp [exec] at h
theorem kP {sz by_:Nat} {ag:Bool} (h:exec orc (.dH sz by_ ag) vals cells sh ae=some out) :
   ∃s x xs y sh',vals=[s,x]∧cN x=some xs∧bF sz xs=true∧q_ sz by_ ag s xs sh ae=some (y,sh')∧out=⟨y,none,sh',ae⟩:=by
 rcases vals with _ | ⟨v,_ | ⟨u,_ | ⟨_,_⟩⟩⟩
 · simp [exec] at h
 · simp [exec] at h
 · simp only [exec] at h
   split at h
   · rename_i xs hxs
     simp only [Option.ite_none_right_eq_some,Option.map_eq_some_iff] at h
     obtain ⟨h0,⟨y,sh'⟩,h1,rfl⟩:=h
     exact ⟨v,u,xs,y,sh',rfl,hxs,h0,h1,rfl⟩
   · simp at h
 · simp [exec] at h
end
end Go.Ab
