import Derived.Test.YtfhhognolpjikaaAbGive
/-
  One operation of a region: what the evaluator gives is what the model does.
-/
set_option linter.unusedVariables false
set_option linter.unusedSimpArgs false
set_option maxRecDepth 100000
set_option maxHeartbeats 8000000
namespace Go.Ab
section
variable {P:Program} {ns:Names} {G:Gh} {w:World}
theorem oH {rs:List PV} {v:Value} (h:i7 G.K rs v):aq (num ns) G (mo rs) v:=by
 match rs,h with
 | [r],h=>simp only [i7] at h;simp only [mo,aq];exact h
 | [],h=>simp only [i7] at h;simp only [mo,aq];obtain ⟨vs,e,h⟩:=h;exact ⟨vs,e,eC h⟩
 | _::_::_,h=>simp only [i7] at h;simp only [mo,aq];obtain ⟨vs,e,h⟩:=h;exact ⟨vs,e,eC h⟩
theorem oI {rs:List AV} {v:Value} (h:cv (num ns) G rs v):aq (num ns) G (kl rs) v:=by
 match rs,h with
 | [r],h=>simp only [cv] at h;simp only [kl];exact h
 | [],h=>simp only [cv] at h;simp only [kl,aq];exact h
 | _::_::_,h=>simp only [cv] at h;simp only [kl,aq];exact h
theorem x7 {v:AV} {rv:Value} (h:aq (num ns) G v rv):aq (num ns) G (gK v) rv:=by
 unfold gK
 split
 · rename_i p hp;simp only [aq];exact jm hp h
 · exact h
theorem m8 {own:List Nat}:∀{i:Nat} {xs:List AV} {vs:List Value},al (num ns) G xs vs→al (num ns) G (dV own i xs) vs
 | _,[],_,h=>by simpa [dV,al] using h
 | i,x::xs,_,h=>by
   simp only [al] at h
   obtain ⟨v,r,rfl,e1,e2⟩:=h
   simp only [dV,al]
   refine ⟨v,r,rfl,?_,m8 e2⟩
   split
   · exact e1
   · exact x7 e1
theorem A0 {A:ki} {dst:Option Nat} {c:Call} {k:AK} {args:List Operand} (h:bp P ns A dst (.call c)=some (k,args)) (hk:k.calls=true) :
   (∃f g,c.callee=.value (.func f)∧ns.of f=some g∧args=c.args.toList∧(k=.aB g∨k=.eI g∨(∃own,k=.aA g own)∨(∃sz by_,k=.clone sz by_∧look ns.cl g=some (sz,by_))∨k=.hP g)) ∨
   (∃t,c.callee=.value (.tmp t)∧args=.tmp t::c.args.toList∧k=.eB):=by
 obtain ⟨callee,cargs,ctypes⟩:=c
 simp only [bp] at h
 split at h
 · split at h<;>simp at h<;>(obtain ⟨rfl,_⟩:=h;simp [AK.calls] at hk)
 · split at h<;>simp at h;obtain ⟨rfl,_⟩:=h;simp [AK.calls] at hk
 · split at h<;>simp at h;obtain ⟨rfl,_⟩:=h;simp [AK.calls] at hk
 · split at h
   · split at h
     · rw [Option.ite_none_right_eq_some] at h
       obtain ⟨_,h⟩:=h
       split at h
       · simp only [Option.map_eq_some_iff,Prod.mk.injEq] at h
         obtain ⟨_,_,rfl,_⟩:=h;simp [AK.calls] at hk
       · split at h<;>(simp at h;obtain ⟨rfl,_⟩:=h;simp [AK.calls] at hk)
     · simp at h
   · simp at h
 · split at h
   · split at h
     · split at h<;>simp at h
       obtain ⟨rfl,_⟩:=h;simp [AK.calls] at hk
     · simp at h
   · simp at h
 · split at h
   · split at h<;>simp at h
     obtain ⟨rfl,_⟩:=h;simp [AK.calls] at hk
   · simp at h
 · rename_i f
   left
   split at h
   · rename_i g hg
     split at h
     · rename_i sz by_ hcl
       simp only [Option.ite_none_right_eq_some,Option.some.injEq,Prod.mk.injEq] at h
       exact ⟨f,g,rfl,hg,h.2.2.symm,.inr (.inr (.inr (.inl ⟨sz,by_,h.2.1.symm,hcl⟩)))⟩
     · split at h
       · simp at h;exact ⟨f,g,rfl,hg,h.2.symm,.inr (.inr (.inr (.inr h.1.symm)))⟩
       · split at h
         · simp at h;exact ⟨f,g,rfl,hg,h.2.symm,.inr (.inr (.inl ⟨_,h.1.symm⟩))⟩
         · split at h
           · simp at h;exact ⟨f,g,rfl,hg,h.2.symm,.inr (.inl h.1.symm)⟩
           · simp at h;exact ⟨f,g,rfl,hg,h.2.symm,.inl h.1.symm⟩
   · simp at h
 · rename_i t
   right
   simp at h
   exact ⟨t,rfl,h.2.symm,h.1.symm⟩
 · simp at h
theorem jc {orc:d0} (horc:gV P ns orc) {f g:Nat} {own:List Nat} (hg:ns.of f=some g) {vals:List AV} {vs:List Value} {x:AV} {mem:List (Nat×List AV)} {sh sh':Sh} {aa toks':au}
   (hr:al (num ns) G vals vs) (hi:Inv (num ns) G w mem sh aa) (h:dP orc g own vals sh aa=some (x,sh',toks')) :
   Calls P f vs.toArray w fun e w'=>∃v G',e=.returned v∧aq (num ns) G' x v∧Inv (num ns) G' w' mem sh' toks'∧G.le G'∧bJ G w G' w':=by
 unfold dP at h
 simp only [Option.ite_none_right_eq_some,Option.map_eq_some_iff] at h
 obtain ⟨hp,⟨rs,sh1,ts1⟩,h1,h2⟩:=h
 simp only [Prod.mk.injEq] at h2
 obtain ⟨rfl,rfl,rfl⟩:=h2
 obtain ⟨hC,hpr⟩:=horc.i g f _ _ rs _ sh1 ts1 hg (fM hp) h1
 obtain ⟨m,tks,hN,hto,hargs⟩:=hi.AX hp (m8 (own:=own) (i:=0) hr)
 refine (hC (G.to m tks) w vs hto hargs).mono ?_
 rintro e w' ⟨v,G1,rfl,eD,hi1,hevo⟩
 obtain ⟨g1,g2,g3⟩:=hi.back hN xZ hi1 hevo
 exact ⟨v,_,rfl,oI (rk hpr eD),g1,g2,g3⟩
theorem rm {orc:d0} (horc:gV P ns orc) {f g:Nat} (hg:ns.of f=some g) {cU:List PV} {vs:List Value} {rs:List AV} {ts1:au} {mem:List (Nat×List AV)} {sh:Sh} {aa:au}
   (hr:hZ G.K cU vs) (hi:Inv (num ns) G w mem sh aa) (h:orc.i g (cU.map .pv) [] []=some (rs,[],ts1)) :
   Calls P f vs.toArray w fun e w'=>∃v G',e=.returned v∧aq (num ns) G' (kl (rs.map (bS aa.length))) v∧Inv (num ns) G' w' mem sh (aa++ts1)∧G.le G'∧bJ G w G' w':=by
 have hpass:(cU.map AV.pv).all bD=true:=by
   rw [List.all_eq_true]
   intro x hx
   obtain ⟨p,_,rfl⟩:=List.mem_map.1 hx
   rfl
 obtain ⟨hC,hpr⟩:=horc.i g f _ _ rs _ _ ts1 hg hpass h
 refine (hC G.x5 w vs hi.x5 (eC (ρ:=num ns) (G:=G.x5) hr)).mono ?_
 rintro e w' ⟨v,G1,rfl,eD,hi1,hevo⟩
 obtain ⟨g1,g2,g3⟩:=hi.fQ hi1 hevo
 exact ⟨v,_,rfl,oI (x6 hi1 hpr eD),g1,g2,g3⟩
theorem Dp (hB:fu P ns) {orc:d0} (horc:gV P ns orc) {A:ki} {o:Oper} {k:AK} {args:List Operand} (hc:bp P ns A o.dst o.op=some (k,args)) {a:Act} {vals:List AV} {out:Out}
   {mem:List (Nat×List AV)} {sh:Sh} {aa:au} (hr:al (num ns) G vals (args.map a.eval)) (hi:Inv (num ns) G w mem sh aa)
   (h:exec orc k vals (k.key.bind (look mem)) sh aa=some out) {next:Act→World→Prop} {Q:Exit→Act→World→Prop}
   (hn:∀v w' G',aq (num ns) G' out.val v→Inv (num ns) G' w' (ew mem k.key out.cells) out.sh out.aa→G.le G'→bJ G w G' w'→next (a.put o.dst v) w'):o.wp P a w next Q:=by
 cases hk:k.calls with
 | false=>
   obtain ⟨n,v,w',G',g1,g2,g3,g4,g5,g6⟩:=lV hc hk hr hi h
   unfold Oper.wp
   rw [g1]
   rcases g2 with rfl | ⟨rfl,rfl⟩
   · exact hn v w' G' g3 g4 g5 g6
   · exact hn undef w' G' g3 g4 g5 g6
 | true=>
   obtain ⟨dst,op,type,pos,after,guard⟩:=o
   have hcall:∃c,op=.call c:=tF (k:=k) (by cases k<;>simp_all [AK.calls]) hc
   obtain ⟨c,rfl⟩:=hcall
   rcases A0 hc hk with ⟨f,g,hcal,hg,rfl,hk'⟩ | ⟨t,hcal,rfl,rfl⟩
   · have hrun:(execOp a.eval ⟨dst,.call c,type,pos,after,guard⟩).run P w=.ok (.enter f ((c.args.toList.map a.eval).toArray)) w:=by
       obtain ⟨callee,cargs,ctypes⟩:=c
       simp only at hcal;subst hcal
       simp only [execOp,resolve,Sem.run_bind,Act.eval,Deferred.ofValue,Sem.run_pure,Result.andThen_ok,invoke]
       rw [iB hB hg]
       congr 2
       apply Array.ext'
       simp
     rcases hk' with rfl | rfl | ⟨own,rfl⟩ | ⟨sz,by_,rfl,hcl⟩ | rfl
     · -- for pure data
       simp only [exec] at h
       split at h
       · rename_i cU hp
         simp only [Option.map_eq_some_iff] at h
         obtain ⟨rs,h1,rfl⟩:=h
         have hC:=horc.p g f cU rs hg h1 G.K w _ hi.known (im hp hr)
         unfold Oper.wp
         rw [hrun]
         refine hC.mono ?_
         rintro e w' ⟨v,K',rfl,eD,hK,hold,hkk,hb⟩
         obtain ⟨g1,g2,g3⟩:=hi.pure hK hold hkk hb
         exact hn v w' _ (oH eD) (by simpa [AK.key,ew] using g1) g2 g3
       · simp at h
     · -- for pure data,arrays frozen
       simp only [exec] at h
       split at h
       · rename_i cU hp
         simp only [Option.map_eq_some_iff] at h
         obtain ⟨rs,h1,rfl⟩:=h
         obtain ⟨G1,k1,k2,k3,k4,k5⟩:=Inv.kill (vals.flatMap er) hi
         have hC:=horc.p g f cU rs hg h1 G1.K w _ k1.known (lW k2 k4 hi.pB (fun s hs=>hs) hp hr)
         unfold Oper.wp
         rw [hrun]
         refine hC.mono ?_
         rintro e w' ⟨v,K',rfl,eD,hK,hold,hkk,hb⟩
         obtain ⟨g1,g2,g3⟩:=k1.pure hK hold hkk hb
         exact hn v w' _ (oH eD) (by simpa [AK.key,ew,dL] using g1) (Gh.le_trans k2 g2) (k3.trans g3)
       · simp at h
     · -- with the shared memory
       simp only [exec,Option.map_eq_some_iff] at h
       obtain ⟨⟨x,sh',ts'⟩,h1,rfl⟩:=h
       have hC:=jc horc hg hr hi h1
       unfold Oper.wp
       rw [hrun]
       refine hC.mono ?_
       rintro e w' ⟨v,G',rfl,g1,g2,g3,g4⟩
       exact hn v w' G' g1 (by simpa [AK.key,ew] using g2) g3 g4
     · -- slices.Clone
       rcases vals with _ | ⟨x,_ | ⟨_,_⟩⟩
       · simp [exec] at h
       · simp only [exec,Option.map_eq_some_iff] at h
         obtain ⟨⟨y,ts'⟩,h1,rfl⟩:=h
         have hl:=hr.length
         obtain ⟨v,hv⟩:∃v,c.args.toList.map a.eval=[v]:=List.length_eq_one_iff.1 (by simpa using hl)
         rw [hv] at hr
         simp only [al] at hr
         obtain ⟨v',r,e,hx,rfl⟩:=hr
         cases e
         have hC:=horc.c g sz by_ f hcl hg G w mem sh aa ts' x y v hi hx h1
         unfold Oper.wp
         rw [hrun,hv]
         refine hC.mono ?_
         rintro e w' ⟨u,G',rfl,g1,g2,g3,g4⟩
         exact hn u w' G' g1 (by simpa [AK.key,ew] using g2) g3 g4
       · simp [exec] at h
     · -- without the shared memory
       simp only [exec] at h
       split at h
       · rename_i cU hp
         split at h
         · rename_i rs ts1 h1
           cases h
           have hC:=rm horc hg (im hp hr) hi h1
           unfold Oper.wp
           rw [hrun]
           refine hC.mono ?_
           rintro e w' ⟨v,G',rfl,g1,g2,g3,g4⟩
           exact hn v w' G' g1 (by simpa [AK.key,ew] using g2) g3 g4
         · simp at h
       · simp at h
   · -- a function value
     cases vals with
     | nil=>simp [al] at hr
     | cons x0 vals=>
       simp only [List.map_cons,al] at hr
       obtain ⟨fv,r,e,hf,hr⟩:=hr
       simp only [List.cons.injEq] at e
       obtain ⟨rfl,rfl⟩:=e
       cases x0 with
       | fn g cap=>
         simp only [exec,Option.map_eq_some_iff] at h
         obtain ⟨⟨x,sh',ts'⟩,h1,rfl⟩:=h
         simp only [aq] at hf
         obtain ⟨f,vs,hg,hv,hcap⟩:=hf
         have hrun:(execOp a.eval ⟨dst,.call c,type,pos,after,guard⟩).run P w=.ok (.enter f ((c.args.toList.map a.eval++vs).toArray)) w:=by
           obtain ⟨callee,cargs,ctypes⟩:=c
           simp only at hcal;subst hcal
           simp only [execOp,resolve,Sem.run_bind]
           rw [hv]
           simp only [Deferred.ofValue,Sem.run_pure,Result.andThen_ok,invoke]
           rw [iB hB hg]
           congr 2
           apply Array.ext'
           simp
         have hC:=jc horc hg (al.append hr hcap) hi h1
         unfold Oper.wp
         rw [hrun]
         refine hC.mono ?_
         rintro e w' ⟨v,G',rfl,g1,g2,g3,g4⟩
         exact hn v w' G' g1 (by simpa [AK.key,ew] using g2) g3 g4
       | _=>simp [exec] at h
end
end Go.Ab
