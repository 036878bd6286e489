import Derived.Test.YthcoecdbgdhihaaGreatDoorAbGive
/-
  One operation of a region: what the evaluator gives is what the model does.
-/
set_option linter.unusedVariables false
set_option linter.unusedSimpArgs false
set_option linter.unnecessarySimpa false
set_option maxRecDepth 100000
set_option maxHeartbeats 8000000
namespace Go.Ab
section
variable {P:Program} {ns:Names} {G:Gh} {w:World}
theorem t6 {rs:List PV} {v:Value} (h:ic G.K rs v):aC (num ns) G (qQ rs) v:=by
 match rs,h with
 | [r],h=>simp only [ic] at h;simp only [qQ,aC];exact h
 | [],h=>simp only [ic] at h;simp only [qQ,aC];obtain ⟨vs,e,h⟩:=h;exact ⟨vs,e,gi h⟩
 | _::_::_,h=>simp only [ic] at h;simp only [qQ,aC];obtain ⟨vs,e,h⟩:=h;exact ⟨vs,e,gi h⟩
theorem t7 {rs:List AV} {v:Value} (h:dt (num ns) G rs v):aC (num ns) G (qR rs) v:=by
 match rs,h with
 | [r],h=>simp only [dt] at h;simp only [qR];exact h
 | [],h=>simp only [dt] at h;simp only [qR,aC];exact h
 | _::_::_,h=>simp only [dt] at h;simp only [qR,aC];exact h
theorem DQ {v:AV} {rv:Value} (h:aC (num ns) G v rv):aC (num ns) G (kL v) rv:=by
 unfold kL;split
 · rename_i p hp;simp only [aC];exact nv hp h
 · exact h
theorem ru {own:List Nat}:∀{i:Nat} {xs:List AV} {vs:List Value},aB (num ns) G xs vs→aB (num ns) G (eS own i xs) vs
 | _,[],_,h=>by simpa [eS,aB] using h
 | i,x::xs,_,h=>by
   simp only [aB] at h;obtain ⟨v,r,rfl,e1,e2⟩:=h;simp only [eS,aB];refine ⟨v,r,rfl,?_,ru e2⟩;split
   · exact e1
   · exact DQ e1
theorem GI {A:lf} {dst:Option Nat} {c:Call} {k:AK} {args:List Operand} (h:cm P ns A dst (.call c)=some (k,args)) (hk:k.calls=true) :
   (∃f g,c.callee=.value (.func f)∧ns.of f=some g∧args=c.args.toList∧(k=.aq g∨k=.dN g∨(∃own,k=.aJ g own)∨(∃sz by_,(k=.clone sz by_∨∃ag,k=.gJ sz by_ ag)∧look ns.cl g=some (sz,by_))∨k=.lg g)) ∨
   (∃t,c.callee=.value (.tmp t)∧args=.tmp t::c.args.toList∧(k=.eV∨k=.dE)):=by
 obtain ⟨callee,cargs,ctypes⟩:=c;simp only [cm] at h;split at h
 · split at h<;>simp at h<;>(obtain ⟨rfl,_⟩:=h;simp [AK.calls] at hk)
 · split at h<;>simp at h;obtain ⟨rfl,_⟩:=h;simp [AK.calls] at hk
 · split at h<;>simp at h;obtain ⟨rfl,_⟩:=h;simp [AK.calls] at hk
 · split at h
   · split at h
     · rw [Option.ite_none_right_eq_some] at h;obtain ⟨_,h⟩:=h;split at h
       · simp only [Option.map_eq_some_iff,Prod.mk.injEq] at h;obtain ⟨_,_,rfl,_⟩:=h;simp [AK.calls] at hk
       · split at h<;>(simp at h;obtain ⟨rfl,_⟩:=h;simp [AK.calls] at hk)
     · simp at h
   · simp at h
 · split at h
   · split at h
     · split at h<;>simp at h
       obtain ⟨rfl,_⟩:=h;simp [AK.calls] at hk
     · simp at h
   · simp at h
 · split at h
   · split at h<;>simp at h
     obtain ⟨rfl,_⟩:=h;simp [AK.calls] at hk
   · simp at h
 · rename_i f;left;split at h
   · rename_i g hg;split at h
     · rename_i sz by_ hcl;rw [Option.ite_none_right_eq_some] at h;obtain ⟨_,h⟩:=h;split at h
       · split at h
         · simp only [Option.map_eq_some_iff,Prod.mk.injEq] at h;obtain ⟨ag,_,h1,h2⟩:=h;exact ⟨f,g,rfl,hg,h2.symm,.inr (.inr (.inr (.inl ⟨sz,by_,.inr ⟨ag,h1.symm⟩,hcl⟩)))⟩
         · simp at h
       · simp only [Option.some.injEq,Prod.mk.injEq] at h;exact ⟨f,g,rfl,hg,h.2.symm,.inr (.inr (.inr (.inl ⟨sz,by_,.inl h.1.symm,hcl⟩)))⟩
     · split at h
       · simp at h;exact ⟨f,g,rfl,hg,h.2.symm,.inr (.inr (.inr (.inr h.1.symm)))⟩
       · split at h
         · simp at h;exact ⟨f,g,rfl,hg,h.2.symm,.inr (.inr (.inl ⟨_,h.1.symm⟩))⟩
         · split at h
           · simp at h;exact ⟨f,g,rfl,hg,h.2.symm,.inr (.inl h.1.symm)⟩
           · simp at h;exact ⟨f,g,rfl,hg,h.2.symm,.inl h.1.symm⟩
   · simp at h
 · rename_i t;right;split at h
   · simp at h;exact ⟨t,rfl,h.2.symm,.inr h.1.symm⟩
   · simp at h;exact ⟨t,rfl,h.2.symm,.inl h.1.symm⟩
 · simp at h
mutual
theorem Cy:∀{a b:PV},s_ a b=true→a=b
 | .bool a,b,h=>by cases b<;>simp [s_] at h;rw [h]
 | .int k n,b,h=>by cases b<;>simp [s_] at h;rw [h.1,h.2]
 | .str s,b,h=>by cases b<;>simp [s_] at h;rw [h]
 | .agg l,b,h=>by
   cases b with
   | agg q=>simp only [s_] at h;rw [rz h]
   | _=>simp [s_] at h
 | .aI l,b,h=>by
   cases b with
   | aI q=>simp only [s_] at h;rw [rz h]
   | _=>simp [s_] at h
theorem rz:∀{a b:List PV},qS a b=true→a=b
 | [],b,h=>by cases b with | nil=>rfl | cons _ _=>simp [qS] at h
 | x::r,b,h=>by
   cases b with
   | nil=>simp [qS] at h
   | cons y q=>
     simp only [qS,Bool.and_eq_true] at h;rw [Cy h.1,rz h.2]
end
theorem Cz:∀{a b:List AV},Dq a b=true→a=b
 | [],b,h=>by cases b with | nil=>rfl | cons _ _=>simp [Dq] at h
 | x::r,b,h=>by
   cases b with
   | nil=>simp [Dq] at h
   | cons y q=>
     simp only [Dq,Bool.and_eq_true] at h;rw [Cz h.2];have h1:=h.1;cases x with
     | pv p=>cases y with
       | pv p'=>simp only [Qi] at h1;rw [Cy h1]
       | _=>simp [Qi] at h1
     | _=>simp [Qi] at h1
theorem vq:∀{a b:Sh},qT a b=true→a=b
 | [],b,h=>by cases b with | nil=>rfl | cons _ _=>simp [qT] at h
 | none::r,b,h=>by
   cases b with
   | nil=>simp [qT] at h
   | cons y q=>cases y with
     | none=>simp only [qT] at h;rw [vq h]
     | some _=>simp [qT] at h
 | some x::r,b,h=>by
   cases b with
   | nil=>simp [qT] at h
   | cons y q=>cases y with
     | none=>simp [qT] at h
     | some y=>
       simp only [qT,Bool.and_eq_true] at h;rw [Cz h.1,vq h.2]
theorem tu {orc:ep} {vals:List AV} {cells:Option (List AV)} {sh:Sh} {ah:aN} {out:Out} (h:exec orc .dE vals cells sh ah=some out):exec orc .eV vals cells sh ah=some out:=by
 cases vals with
 | nil=>simp [exec] at h
 | cons f vals=>
   cases f with
   | fn g cap=>
     simp only [exec,Option.bind_eq_some_iff] at h;obtain ⟨⟨v,sh',ts⟩,h1,h2⟩:=h;simp only [QC,Option.ite_none_right_eq_some,Option.some.injEq] at h2;obtain ⟨h3,rfl⟩:=h2;have:=vq h3;subst this;simp [exec,h1]
   | _=>simp [exec] at h
theorem lD {orc:ep} (horc:gF P ns orc) {f g:Nat} {own:List Nat} (hg:ns.of f=some g) {vals:List AV} {vs:List Value} {x:AV} {mem:List (Nat×List AV)} {sh sh':Sh} {ah toks':aN}
   (hr:aB (num ns) G vals vs) (hi:Inv (num ns) G w mem sh ah) (h:er orc g own vals sh ah=some (x,sh',toks')) :
   Calls P f vs.toArray w fun e w'=>∃v G',e=.returned v∧aC (num ns) G' x v∧Inv (num ns) G' w' mem sh' toks'∧G.le G'∧cq G w G' w':=by
 unfold er at h;simp only [Option.ite_none_right_eq_some,Option.map_eq_some_iff] at h;obtain ⟨hp,⟨rs,sh1,ts1⟩,h1,h2⟩:=h;simp only [Prod.mk.injEq] at h2;obtain ⟨rfl,rfl,rfl⟩:=h2;obtain ⟨hC,hpr⟩:=horc.i g f _ _ rs _ sh1 ts1 hg (iA hp) h1;obtain ⟨m,tks,hN,hto,hargs⟩:=hi.GF hp (ru (own:=own) (i:=0) hr);refine (hC (G.to m tks) w vs hto hargs).mono ?_
 rintro e w' ⟨v,G1,rfl,gk,hi1,hevo⟩
 obtain ⟨g1,g2,g3⟩:=hi.back hN DN hi1 hevo;exact ⟨v,_,rfl,t7 (xG hpr gk),g1,g2,g3⟩
theorem xH {orc:ep} (horc:gF P ns orc) {f g:Nat} (hg:ns.of f=some g) {dC:List PV} {vs:List Value} {rs:List AV} {ts1:aN} {mem:List (Nat×List AV)} {sh:Sh} {ah:aN}
   (hr:iZ G.K dC vs) (hi:Inv (num ns) G w mem sh ah) (h:orc.i g (dC.map .pv) [] []=some (rs,[],ts1)) :
   Calls P f vs.toArray w fun e w'=>∃v G',e=.returned v∧aC (num ns) G' (qR (rs.map (dG ah.length))) v∧Inv (num ns) G' w' mem sh (ah++ts1)∧G.le G'∧cq G w G' w':=by
 have hpass:(dC.map AV.pv).all ct=true:=by
   rw [List.all_eq_true];intro x hx;obtain ⟨p,_,rfl⟩:=List.mem_map.1 hx;rfl
 obtain ⟨hC,hpr⟩:=horc.i g f _ _ rs _ _ ts1 hg hpass h;refine (hC G.Cx w vs hi.Cx (gi (ρ:=num ns) (G:=G.Cx) hr)).mono ?_
 rintro e w' ⟨v,G1,rfl,gk,hi1,hevo⟩
 obtain ⟨g1,g2,g3⟩:=hi.gZ hi1 hevo;exact ⟨v,_,rfl,t7 (DP hi1 hpr gk),g1,g2,g3⟩
theorem JP (hB:eT P ns) {orc:ep} (horc:gF P ns orc) {A:lf} {o:Oper} {k:AK} {args:List Operand} (hc:cm P ns A o.dst o.op=some (k,args)) {a:Act} {vals:List AV} {out:Out}
   {mem:List (Nat×List AV)} {sh:Sh} {ah:aN} (hr:aB (num ns) G vals (args.map a.eval)) (hi:Inv (num ns) G w mem sh ah)
   (h:exec orc k vals (k.key.bind (look mem)) sh ah=some out) {next:Act→World→Prop} {Q:Exit→Act→World→Prop}
   (hn:∀v w' G',aC (num ns) G' out.val v→Inv (num ns) G' w' (e_ mem k.key out.cells) out.sh out.ah→G.le G'→cq G w G' w'→next (a.put o.dst v) w'):o.wp P a w next Q:=by
 cases hk:k.calls with
 | false=>
   obtain ⟨n,v,w',G',g1,g2,g3,g4,g5,g6⟩:=pI hc hk hr hi h;unfold Oper.wp;rw [g1];rcases g2 with rfl | ⟨rfl,rfl⟩
   · exact hn v w' G' g3 g4 g5 g6
   · exact hn undef w' G' g3 g4 g5 g6
 | true=>
   obtain ⟨dst,op,type,pos,after,guard⟩:=o;have hcall:∃c,op=.call c:=zY (k:=k) (by cases k<;>simp_all [AK.calls]) hc;obtain ⟨c,rfl⟩:=hcall;rcases GI hc hk with ⟨f,g,hcal,hg,rfl,hk'⟩ | ⟨t,hcal,rfl,hkv⟩
   · have hrun:(execOp a.eval ⟨dst,.call c,type,pos,after,guard⟩).run P w=.ok (.enter f ((c.args.toList.map a.eval).toArray)) w:=by
       obtain ⟨callee,cargs,ctypes⟩:=c;simp only at hcal;subst hcal;simp only [execOp,resolve,Sem.run_bind,Act.eval,Deferred.ofValue,Sem.run_pure,Result.andThen_ok,invoke];rw [nC hB hg];congr 2;apply Array.ext';simp
     rcases hk' with rfl | rfl | ⟨own,rfl⟩ | ⟨sz,by_,hkc,hcl⟩ | rfl
     · -- for pure data
       simp only [exec] at h;split at h
       · rename_i dC hp;simp only [Option.map_eq_some_iff] at h;obtain ⟨rs,h1,rfl⟩:=h;have hC:=horc.p g f dC rs hg h1 G.K w _ (fun b c hb=>(hi.jS b c hb).2) hi.known (j8 hp hr);unfold Oper.wp;rw [hrun];refine hC.mono ?_
         rintro e w' ⟨v,K',rfl,gk,hK,hold,hkk,hb⟩
         obtain ⟨g1,g2,g3⟩:=hi.pure hK hold hkk hb;exact hn v w' _ (t6 gk) (by simpa [AK.key,e_] using g1) g2 g3
       · simp at h
     · -- for pure data,arrays frozen
       simp only [exec] at h;split at h
       · rename_i dC hp;simp only [Option.map_eq_some_iff] at h;obtain ⟨rs,h1,rfl⟩:=h;obtain ⟨G1,k1,k2,k3,k4,k5⟩:=Inv.kill (vals.flatMap fm) hi;have hC:=horc.p g f dC rs hg h1 G1.K w _ (fun b c hb=>(k1.jS b c hb).2) k1.known (pJ k2 k4 hi.ri (fun s hs=>hs) hp hr);unfold Oper.wp;rw [hrun];refine hC.mono ?_
         rintro e w' ⟨v,K',rfl,gk,hK,hold,hkk,hb⟩
         obtain ⟨g1,g2,g3⟩:=k1.pure hK hold hkk hb;exact hn v w' _ (t6 gk) (by simpa [AK.key,e_,d5] using g1) (Gh.le_trans k2 g2) (k3.trans g3)
       · simp at h
     · -- with the shared memory
       simp only [exec,Option.map_eq_some_iff] at h;obtain ⟨⟨x,sh',ts'⟩,h1,rfl⟩:=h;have hC:=lD horc hg hr hi h1;unfold Oper.wp;rw [hrun];refine hC.mono ?_
       rintro e w' ⟨v,G',rfl,g1,g2,g3,g4⟩
       exact hn v w' G' g1 (by simpa [AK.key,e_] using g2) g3 g4
     · -- slices.Clone
       have hkey:k.key=none:=by rcases hkc with rfl | ⟨ag,rfl⟩<;>rfl
       rw [hkey] at hn;rcases vals with _ | ⟨x,_ | ⟨_,_⟩⟩
       · rcases hkc with rfl | ⟨ag,rfl⟩<;>simp [exec] at h
       · obtain ⟨oc,y,sh',ts',h1,rfl⟩:∃oc y sh' ts',fW oc sz by_ x sh ah=some (y,sh',ts')∧out=⟨y,none,sh',ts'⟩:=by
           rcases hkc with rfl | ⟨ag,rfl⟩
           · simp only [exec,Option.map_eq_some_iff] at h;obtain ⟨⟨y,ts'⟩,h1,rfl⟩:=h;exact ⟨none,y,sh,ts',by simp [fW,h1],rfl⟩
           · simp only [exec,Option.map_eq_some_iff] at h;obtain ⟨⟨y,sh',ts'⟩,h1,rfl⟩:=h;exact ⟨some ag,y,sh',ts',h1,rfl⟩
         have hl:=hr.length;obtain ⟨v,hv⟩:∃v,c.args.toList.map a.eval=[v]:=List.length_eq_one_iff.1 (by simpa using hl);rw [hv] at hr;simp only [aB] at hr;obtain ⟨v',r,e,hx,rfl⟩:=hr;cases e;have hC:=horc.c g sz by_ f hcl hg oc G w mem sh sh' ah ts' x y v hi hx h1;unfold Oper.wp;rw [hrun,hv];refine hC.mono ?_
         rintro e w' ⟨u,G',rfl,g1,g2,g3,g4⟩
         exact hn u w' G' g1 (by simpa [e_] using g2) g3 g4
       · rcases hkc with rfl | ⟨ag,rfl⟩<;>simp [exec] at h
     · -- without the shared memory
       simp only [exec] at h;split at h
       · rename_i dC hp;split at h
         · rename_i rs ts1 h1;cases h;have hC:=xH horc hg (j8 hp hr) hi h1;unfold Oper.wp;rw [hrun];refine hC.mono ?_
           rintro e w' ⟨v,G',rfl,g1,g2,g3,g4⟩
           exact hn v w' G' g1 (by simpa [AK.key,e_] using g2) g3 g4
         · simp at h
       · simp at h
   · -- a function value
     have hkey:k.key=none:=by rcases hkv with rfl | rfl<;>rfl
     replace h:exec orc .eV vals none sh ah=some out:=by
       rcases hkv with rfl | rfl
       · exact h
       · exact tu h
     rw [hkey] at hn;cases vals with
     | nil=>simp [aB] at hr
     | cons x0 vals=>
       simp only [List.map_cons,aB] at hr;obtain ⟨fv,r,e,hf,hr⟩:=hr;simp only [List.cons.injEq] at e;obtain ⟨rfl,rfl⟩:=e;cases x0 with
       | fn g cap=>
         simp only [exec,Option.map_eq_some_iff] at h;obtain ⟨⟨x,sh',ts'⟩,h1,rfl⟩:=h;simp only [aC] at hf;obtain ⟨f,vs,hg,hv,hcap⟩:=hf;have hrun:(execOp a.eval ⟨dst,.call c,type,pos,after,guard⟩).run P w=.ok (.enter f ((c.args.toList.map a.eval++vs).toArray)) w:=by
           obtain ⟨callee,cargs,ctypes⟩:=c;simp only at hcal;subst hcal;simp only [execOp,resolve,Sem.run_bind];rw [hv];simp only [Deferred.ofValue,Sem.run_pure,Result.andThen_ok,invoke];rw [nC hB hg];congr 2;apply Array.ext';simp
         have hC:=lD horc hg (aB.append hr hcap) hi h1;unfold Oper.wp;rw [hrun];refine hC.mono ?_
         rintro e w' ⟨v,G',rfl,g1,g2,g3,g4⟩
         exact hn v w' G' g1 (by simpa [AK.key,e_] using g2) g3 g4
       | _=>simp [exec] at h
end
end Go.Ab
