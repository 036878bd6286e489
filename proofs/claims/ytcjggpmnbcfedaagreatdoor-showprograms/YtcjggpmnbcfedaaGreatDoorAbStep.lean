import Derived.Test.YtcjggpmnbcfedaaGreatDoorAbGive
/-
  One operation of a region: what the evaluator gives is what the model does.
-/
set_option linter.unusedVariables false
set_option linter.unusedSimpArgs false
set_option linter.unnecessarySimpa false
set_option maxRecDepth 100000
set_option maxHeartbeats 8000000
namespace Go.Ab
section
variable {P:Program} {ns:Names} {G:Gh} {w:World}
theorem uS {rs:List PV} {v:Value} (h:iC G.K rs v):au (num ns) G (q9 rs) v:=by
 match rs,h with
 | [r],h=>simp only [iC] at h;simp only [q9,au];exact h
 | [],h=>simp only [iC] at h;simp only [q9,au];obtain ⟨vs,e,h⟩:=h;exact ⟨vs,e,gA h⟩
 | _::_::_,h=>simp only [iC] at h;simp only [q9,au];obtain ⟨vs,e,h⟩:=h;exact ⟨vs,e,gA h⟩
theorem uT {rs:List AV} {v:Value} (h:dJ (num ns) G rs v):au (num ns) G (oz rs) v:=by
 match rs,h with
 | [r],h=>simp only [dJ] at h;simp only [oz];exact h
 | [],h=>simp only [dJ] at h;simp only [oz,au];exact h
 | _::_::_,h=>simp only [dJ] at h;simp only [oz,au];exact h
theorem FN {v:AV} {rv:Value} (h:au (num ns) G v rv):au (num ns) G (jI v) rv:=by
 unfold jI
 split
 · rename_i p hp;simp only [au];exact mH hp h
 · exact h
theorem sv {own:List Nat}:∀{i:Nat} {xs:List AV} {vs:List Value},aw (num ns) G xs vs→aw (num ns) G (fm own i xs) vs
 | _,[],_,h=>by simpa [fm,aw] using h
 | i,x::xs,_,h=>by
   simp only [aw] at h
   obtain ⟨v,r,rfl,e1,e2⟩:=h
   simp only [fm,aw]
   refine ⟨v,r,rfl,?_,sv e2⟩
   split
   · exact e1
   · exact FN e1
theorem Jl {A:lJ} {dst:Option Nat} {c:Call} {k:AK} {args:List Operand} (h:bH P ns A dst (.call c)=some (k,args)) (hk:k.calls=true) :
   (∃f g,c.callee=.value (.func f)∧ns.of f=some g∧args=c.args.toList∧(k=.aq g∨k=.d7 g∨(∃own,k=.aF g own)∨(∃sz by_,(k=.clone sz by_∨∃ag,k=.lQ sz by_ ag)∧look ns.cl g=some (sz,by_))∨k=.lA g)) ∨
   (∃t,c.callee=.value (.tmp t)∧args=.tmp t::c.args.toList∧(k=.jG∨k=.dw)):=by
 obtain ⟨callee,cargs,ctypes⟩:=c
 simp only [bH] at h
 split at h
 · split at h<;>simp at h<;>(obtain ⟨rfl,_⟩:=h;simp [AK.calls] at hk)
 · split at h<;>simp at h;obtain ⟨rfl,_⟩:=h;simp [AK.calls] at hk
 · split at h<;>simp at h;obtain ⟨rfl,_⟩:=h;simp [AK.calls] at hk
 · split at h
   · split at h
     · rw [Option.ite_none_right_eq_some] at h
       obtain ⟨_,h⟩:=h
       split at h
       · simp only [Option.map_eq_some_iff,Prod.mk.injEq] at h
         obtain ⟨_,_,rfl,_⟩:=h;simp [AK.calls] at hk
       · split at h<;>(simp at h;obtain ⟨rfl,_⟩:=h;simp [AK.calls] at hk)
     · simp at h
   · simp at h
 · split at h
   · split at h
     · split at h<;>simp at h
       obtain ⟨rfl,_⟩:=h;simp [AK.calls] at hk
     · simp at h
   · simp at h
 · split at h
   · split at h<;>simp at h
     obtain ⟨rfl,_⟩:=h;simp [AK.calls] at hk
   · simp at h
 · rename_i f
   left
   split at h
   · rename_i g hg
     split at h
     · rename_i sz by_ hcl
       rw [Option.ite_none_right_eq_some] at h
       obtain ⟨_,h⟩:=h
       split at h
       · split at h
         · simp only [Option.map_eq_some_iff,Prod.mk.injEq] at h
           obtain ⟨ag,_,h1,h2⟩:=h
           exact ⟨f,g,rfl,hg,h2.symm,.inr (.inr (.inr (.inl ⟨sz,by_,.inr ⟨ag,h1.symm⟩,hcl⟩)))⟩
         · simp at h
       · simp only [Option.some.injEq,Prod.mk.injEq] at h
         exact ⟨f,g,rfl,hg,h.2.symm,.inr (.inr (.inr (.inl ⟨sz,by_,.inl h.1.symm,hcl⟩)))⟩
     · split at h
       · simp at h;exact ⟨f,g,rfl,hg,h.2.symm,.inr (.inr (.inr (.inr h.1.symm)))⟩
       · split at h
         · simp at h;exact ⟨f,g,rfl,hg,h.2.symm,.inr (.inr (.inl ⟨_,h.1.symm⟩))⟩
         · split at h
           · simp at h;exact ⟨f,g,rfl,hg,h.2.symm,.inr (.inl h.1.symm)⟩
           · simp at h;exact ⟨f,g,rfl,hg,h.2.symm,.inl h.1.symm⟩
   · simp at h
 · rename_i t
   right
   split at h
   · simp at h
     exact ⟨t,rfl,h.2.symm,.inr h.1.symm⟩
   · simp at h
     exact ⟨t,rfl,h.2.symm,.inl h.1.symm⟩
 · simp at h
mutual
theorem Eo:∀{a b:PV},nb a b=true→a=b
 | .bool a,b,h=>by cases b<;>simp [nb] at h;rw [h]
 | .int k n,b,h=>by cases b<;>simp [nb] at h;rw [h.1,h.2]
 | .str s,b,h=>by cases b<;>simp [nb] at h;rw [h]
 | .agg l,b,h=>by
   cases b with
   | agg q=>simp only [nb] at h;rw [sA h]
   | _=>simp [nb] at h
 | .aE l,b,h=>by
   cases b with
   | aE q=>simp only [nb] at h;rw [sA h]
   | _=>simp [nb] at h
theorem sA:∀{a b:List PV},oA a b=true→a=b
 | [],b,h=>by cases b with | nil=>rfl | cons _ _=>simp [oA] at h
 | x::r,b,h=>by
   cases b with
   | nil=>simp [oA] at h
   | cons y q=>
     simp only [oA,Bool.and_eq_true] at h
     rw [Eo h.1,sA h.2]
end
theorem Ep:∀{a b:List AV},uc a b=true→a=b
 | [],b,h=>by cases b with | nil=>rfl | cons _ _=>simp [uc] at h
 | x::r,b,h=>by
   cases b with
   | nil=>simp [uc] at h
   | cons y q=>
     simp only [uc,Bool.and_eq_true] at h
     rw [Ep h.2]
     have h1:=h.1
     cases x with
     | pv p=>cases y with
       | pv p'=>simp only [QR] at h1;rw [Eo h1]
       | _=>simp [QR] at h1
     | _=>simp [QR] at h1
theorem wz:∀{a b:Sh},lI a b=true→a=b
 | [],b,h=>by cases b with | nil=>rfl | cons _ _=>simp [lI] at h
 | none::r,b,h=>by
   cases b with
   | nil=>simp [lI] at h
   | cons y q=>cases y with
     | none=>simp only [lI] at h;rw [wz h]
     | some _=>simp [lI] at h
 | some x::r,b,h=>by
   cases b with
   | nil=>simp [lI] at h
   | cons y q=>cases y with
     | none=>simp [lI] at h
     | some y=>
       simp only [lI,Bool.and_eq_true] at h
       rw [Ep h.1,wz h.2]
theorem uk {orc:eu} {vals:List AV} {cells:Option (List AV)} {sh:Sh} {ae:aH} {out:Out} (h:exec orc .dw vals cells sh ae=some out):exec orc .jG vals cells sh ae=some out:=by
 cases vals with
 | nil=>simp [exec] at h
 | cons f vals=>
   cases f with
   | fn g cap=>
     simp only [exec,Option.bind_eq_some_iff] at h
     obtain ⟨⟨v,sh',ts⟩,h1,h2⟩:=h
     simp only [Ts,Option.ite_none_right_eq_some,Option.some.injEq] at h2
     obtain ⟨h3,rfl⟩:=h2
     have:=wz h3
     subst this
     simp [exec,h1]
   | _=>simp [exec] at h
theorem l_ {orc:eu} (horc:gk P ns orc) {f g:Nat} {own:List Nat} (hg:ns.of f=some g) {vals:List AV} {vs:List Value} {x:AV} {mem:List (Nat×List AV)} {sh sh':Sh} {ae toks':aH}
   (hr:aw (num ns) G vals vs) (hi:Inv (num ns) G w mem sh ae) (h:en orc g own vals sh ae=some (x,sh',toks')) :
   Calls P f vs.toArray w fun e w'=>∃v G',e=.returned v∧au (num ns) G' x v∧Inv (num ns) G' w' mem sh' toks'∧G.le G'∧bZ G w G' w':=by
 unfold en at h
 simp only [Option.ite_none_right_eq_some,Option.map_eq_some_iff] at h
 obtain ⟨hp,⟨rs,sh1,ts1⟩,h1,h2⟩:=h
 simp only [Prod.mk.injEq] at h2
 obtain ⟨rfl,rfl,rfl⟩:=h2
 obtain ⟨hC,hpr⟩:=horc.i g f _ _ rs _ sh1 ts1 hg (iN hp) h1
 obtain ⟨m,tks,hN,hto,hargs⟩:=hi.Ji hp (sv (own:=own) (i:=0) hr)
 refine (hC (G.to m tks) w vs hto hargs).mono ?_
 rintro e w' ⟨v,G1,rfl,gv,hi1,hevo⟩
 obtain ⟨g1,g2,g3⟩:=hi.back hN FK hi1 hevo
 exact ⟨v,_,rfl,uT (yM hpr gv),g1,g2,g3⟩
theorem yN {orc:eu} (horc:gk P ns orc) {f g:Nat} (hg:ns.of f=some g) {dO:List PV} {vs:List Value} {rs:List AV} {ts1:aH} {mem:List (Nat×List AV)} {sh:Sh} {ae:aH}
   (hr:jl G.K dO vs) (hi:Inv (num ns) G w mem sh ae) (h:orc.i g (dO.map .pv) [] []=some (rs,[],ts1)) :
   Calls P f vs.toArray w fun e w'=>∃v G',e=.returned v∧au (num ns) G' (oz (rs.map (cM ae.length))) v∧Inv (num ns) G' w' mem sh (ae++ts1)∧G.le G'∧bZ G w G' w':=by
 have hpass:(dO.map AV.pv).all cp=true:=by
   rw [List.all_eq_true]
   intro x hx
   obtain ⟨p,_,rfl⟩:=List.mem_map.1 hx
   rfl
 obtain ⟨hC,hpr⟩:=horc.i g f _ _ rs _ _ ts1 hg hpass h
 refine (hC G.Em w vs hi.Em (gA (ρ:=num ns) (G:=G.Em) hr)).mono ?_
 rintro e w' ⟨v,G1,rfl,gv,hi1,hevo⟩
 obtain ⟨g1,g2,g3⟩:=hi.iO hi1 hevo
 exact ⟨v,_,rfl,uT (FM hi1 hpr gv),g1,g2,g3⟩
theorem MQ (hB:eI P ns) {orc:eu} (horc:gk P ns orc) {A:lJ} {o:Oper} {k:AK} {args:List Operand} (hc:bH P ns A o.dst o.op=some (k,args)) {a:Act} {vals:List AV} {out:Out}
   {mem:List (Nat×List AV)} {sh:Sh} {ae:aH} (hr:aw (num ns) G vals (args.map a.eval)) (hi:Inv (num ns) G w mem sh ae)
   (h:exec orc k vals (k.key.bind (look mem)) sh ae=some out) {next:Act→World→Prop} {Q:Exit→Act→World→Prop}
   (hn:∀v w' G',au (num ns) G' out.val v→Inv (num ns) G' w' (eX mem k.key out.cells) out.sh out.ae→G.le G'→bZ G w G' w'→next (a.put o.dst v) w'):o.wp P a w next Q:=by
 cases hk:k.calls with
 | false=>
   obtain ⟨n,v,w',G',g1,g2,g3,g4,g5,g6⟩:=qC hc hk hr hi h
   unfold Oper.wp
   rw [g1]
   rcases g2 with rfl | ⟨rfl,rfl⟩
   · exact hn v w' G' g3 g4 g5 g6
   · exact hn undef w' G' g3 g4 g5 g6
 | true=>
   obtain ⟨dst,op,type,pos,after,guard⟩:=o
   have hcall:∃c,op=.call c:=Bg (k:=k) (by cases k<;>simp_all [AK.calls]) hc
   obtain ⟨c,rfl⟩:=hcall
   rcases Jl hc hk with ⟨f,g,hcal,hg,rfl,hk'⟩ | ⟨t,hcal,rfl,hkv⟩
   · have hrun:(execOp a.eval ⟨dst,.call c,type,pos,after,guard⟩).run P w=.ok (.enter f ((c.args.toList.map a.eval).toArray)) w:=by
       obtain ⟨callee,cargs,ctypes⟩:=c
       simp only at hcal;subst hcal
       simp only [execOp,resolve,Sem.run_bind,Act.eval,Deferred.ofValue,Sem.run_pure,Result.andThen_ok,invoke]
       rw [kQ hB hg]
       congr 2
       apply Array.ext'
       simp
     rcases hk' with rfl | rfl | ⟨own,rfl⟩ | ⟨sz,by_,hkc,hcl⟩ | rfl
     · -- for pure data
       simp only [exec] at h
       split at h
       · rename_i dO hp
         simp only [Option.map_eq_some_iff] at h
         obtain ⟨rs,h1,rfl⟩:=h
         have hC:=horc.p g f dO rs hg h1 G.K w _ hi.known (kH hp hr)
         unfold Oper.wp
         rw [hrun]
         refine hC.mono ?_
         rintro e w' ⟨v,K',rfl,gv,hK,hold,hkk,hb⟩
         obtain ⟨g1,g2,g3⟩:=hi.pure hK hold hkk hb
         exact hn v w' _ (uS gv) (by simpa [AK.key,eX] using g1) g2 g3
       · simp at h
     · -- for pure data,arrays frozen
       simp only [exec] at h
       split at h
       · rename_i dO hp
         simp only [Option.map_eq_some_iff] at h
         obtain ⟨rs,h1,rfl⟩:=h
         obtain ⟨G1,k1,k2,k3,k4,k5⟩:=Inv.kill (vals.flatMap eP) hi
         have hC:=horc.p g f dO rs hg h1 G1.K w _ k1.known (qD k2 k4 hi.sk (fun s hs=>hs) hp hr)
         unfold Oper.wp
         rw [hrun]
         refine hC.mono ?_
         rintro e w' ⟨v,K',rfl,gv,hK,hold,hkk,hb⟩
         obtain ⟨g1,g2,g3⟩:=k1.pure hK hold hkk hb
         exact hn v w' _ (uS gv) (by simpa [AK.key,eX,dY] using g1) (Gh.le_trans k2 g2) (k3.trans g3)
       · simp at h
     · -- with the shared memory
       simp only [exec,Option.map_eq_some_iff] at h
       obtain ⟨⟨x,sh',ts'⟩,h1,rfl⟩:=h
       have hC:=l_ horc hg hr hi h1
       unfold Oper.wp
       rw [hrun]
       refine hC.mono ?_
       rintro e w' ⟨v,G',rfl,g1,g2,g3,g4⟩
       exact hn v w' G' g1 (by simpa [AK.key,eX] using g2) g3 g4
     · -- slices.Clone
       have hkey:k.key=none:=by rcases hkc with rfl | ⟨ag,rfl⟩<;>rfl
       rw [hkey] at hn
       rcases vals with _ | ⟨x,_ | ⟨_,_⟩⟩
       · rcases hkc with rfl | ⟨ag,rfl⟩<;>simp [exec] at h
       · obtain ⟨oc,y,sh',ts',h1,rfl⟩:∃oc y sh' ts',j8 oc sz by_ x sh ae=some (y,sh',ts')∧out=⟨y,none,sh',ts'⟩:=by
           rcases hkc with rfl | ⟨ag,rfl⟩
           · simp only [exec,Option.map_eq_some_iff] at h
             obtain ⟨⟨y,ts'⟩,h1,rfl⟩:=h
             exact ⟨none,y,sh,ts',by simp [j8,h1],rfl⟩
           · simp only [exec,Option.map_eq_some_iff] at h
             obtain ⟨⟨y,sh',ts'⟩,h1,rfl⟩:=h
             exact ⟨some ag,y,sh',ts',h1,rfl⟩
         have hl:=hr.length
         obtain ⟨v,hv⟩:∃v,c.args.toList.map a.eval=[v]:=List.length_eq_one_iff.1 (by simpa using hl)
         rw [hv] at hr
         simp only [aw] at hr
         obtain ⟨v',r,e,hx,rfl⟩:=hr
         cases e
         have hC:=horc.c g sz by_ f hcl hg oc G w mem sh sh' ae ts' x y v hi hx h1
         unfold Oper.wp
         rw [hrun,hv]
         refine hC.mono ?_
         rintro e w' ⟨u,G',rfl,g1,g2,g3,g4⟩
         exact hn u w' G' g1 (by simpa [eX] using g2) g3 g4
       · rcases hkc with rfl | ⟨ag,rfl⟩<;>simp [exec] at h
     · -- without the shared memory
       simp only [exec] at h
       split at h
       · rename_i dO hp
         split at h
         · rename_i rs ts1 h1
           cases h
           have hC:=yN horc hg (kH hp hr) hi h1
           unfold Oper.wp
           rw [hrun]
           refine hC.mono ?_
           rintro e w' ⟨v,G',rfl,g1,g2,g3,g4⟩
           exact hn v w' G' g1 (by simpa [AK.key,eX] using g2) g3 g4
         · simp at h
       · simp at h
   · -- a function value
     have hkey:k.key=none:=by rcases hkv with rfl | rfl<;>rfl
     replace h:exec orc .jG vals none sh ae=some out:=by
       rcases hkv with rfl | rfl
       · exact h
       · exact uk h
     rw [hkey] at hn
     cases vals with
     | nil=>simp [aw] at hr
     | cons x0 vals=>
       simp only [List.map_cons,aw] at hr
       obtain ⟨fv,r,e,hf,hr⟩:=hr
       simp only [List.cons.injEq] at e
       obtain ⟨rfl,rfl⟩:=e
       cases x0 with
       | fn g cap=>
         simp only [exec,Option.map_eq_some_iff] at h
         obtain ⟨⟨x,sh',ts'⟩,h1,rfl⟩:=h
         simp only [au] at hf
         obtain ⟨f,vs,hg,hv,hcap⟩:=hf
         have hrun:(execOp a.eval ⟨dst,.call c,type,pos,after,guard⟩).run P w=.ok (.enter f ((c.args.toList.map a.eval++vs).toArray)) w:=by
           obtain ⟨callee,cargs,ctypes⟩:=c
           simp only at hcal;subst hcal
           simp only [execOp,resolve,Sem.run_bind]
           rw [hv]
           simp only [Deferred.ofValue,Sem.run_pure,Result.andThen_ok,invoke]
           rw [kQ hB hg]
           congr 2
           apply Array.ext'
           simp
         have hC:=l_ horc hg (aw.append hr hcap) hi h1
         unfold Oper.wp
         rw [hrun]
         refine hC.mono ?_
         rintro e w' ⟨v,G',rfl,g1,g2,g3,g4⟩
         exact hn v w' G' g1 (by simpa [AK.key,eX] using g2) g3 g4
       | _=>simp [exec] at h
end
end Go.Ab
