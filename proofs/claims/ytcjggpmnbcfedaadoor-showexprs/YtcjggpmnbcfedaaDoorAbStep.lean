import Derived.Test.YtcjggpmnbcfedaaDoorAbGive
/-
  One operation of a region: what the evaluator gives is what the model does.
-/
set_option linter.unusedVariables false
set_option linter.unusedSimpArgs false
set_option maxRecDepth 100000
set_option maxHeartbeats 8000000
namespace Go.Ab
section
variable {P:Program} {ns:Names} {G:Gh} {w:World}
theorem nO {rs:List PV} {v:Value} (h:fR G.K rs v):al (num ns) G (lM rs) v:=by
 match rs,h with
 | [r],h=>simp only [fR] at h;simp only [lM,al];exact h
 | [],h=>simp only [fR] at h;simp only [lM,al];obtain ⟨vs,e,h⟩:=h;exact ⟨vs,e,d6 h⟩
 | _::_::_,h=>simp only [fR] at h;simp only [lM,al];obtain ⟨vs,e,h⟩:=h;exact ⟨vs,e,d6 h⟩
theorem nP {rs:List AV} {v:Value} (h:cr (num ns) G rs v):al (num ns) G (jP rs) v:=by
 match rs,h with
 | [r],h=>simp only [cr] at h;simp only [jP];exact h
 | [],h=>simp only [cr] at h;simp only [jP,al];exact h
 | _::_::_,h=>simp only [cr] at h;simp only [jP,al];exact h
theorem w_ {v:AV} {rv:Value} (h:al (num ns) G v rv):al (num ns) G (il v) rv:=by
 unfold il
 split
 · rename_i p hp;simp only [al];exact iT hp h
 · exact h
theorem mr {own:List Nat}:∀{i:Nat} {xs:List AV} {vs:List Value},ae (num ns) G xs vs→ae (num ns) G (dv own i xs) vs
 | _,[],_,h=>by simpa [dv,ae] using h
 | i,x::xs,_,h=>by
   simp only [ae] at h
   obtain ⟨v,r,rfl,e1,e2⟩:=h
   simp only [dv,ae]
   refine ⟨v,r,rfl,?_,mr e2⟩
   split
   · exact e1
   · exact w_ e1
theorem z1 {A:jL} {dst:Option Nat} {c:Call} {k:AK} {args:List Operand} (h:a9 P ns A dst (.call c)=some (k,args)) (hk:k.calls=true) :
   (∃f g,c.callee=.value (.func f)∧ns.of f=some g∧args=c.args.toList∧(k=.aA g∨k=.eK g∨(∃own,k=.az g own)∨(∃sz by_,k=.clone sz by_∧look ns.cl g=some (sz,by_))∨k=.gG g)) ∨
   (∃t,c.callee=.value (.tmp t)∧args=.tmp t::c.args.toList∧(k=.gf∨k=.b_)):=by
 obtain ⟨callee,cargs,ctypes⟩:=c
 simp only [a9] at h
 split at h
 · split at h<;>simp at h<;>(obtain ⟨rfl,_⟩:=h;simp [AK.calls] at hk)
 · split at h<;>simp at h;obtain ⟨rfl,_⟩:=h;simp [AK.calls] at hk
 · split at h<;>simp at h;obtain ⟨rfl,_⟩:=h;simp [AK.calls] at hk
 · split at h
   · split at h
     · rw [Option.ite_none_right_eq_some] at h
       obtain ⟨_,h⟩:=h
       split at h
       · simp only [Option.map_eq_some_iff,Prod.mk.injEq] at h
         obtain ⟨_,_,rfl,_⟩:=h;simp [AK.calls] at hk
       · split at h<;>(simp at h;obtain ⟨rfl,_⟩:=h;simp [AK.calls] at hk)
     · simp at h
   · simp at h
 · split at h
   · split at h
     · split at h<;>simp at h
       obtain ⟨rfl,_⟩:=h;simp [AK.calls] at hk
     · simp at h
   · simp at h
 · split at h
   · split at h<;>simp at h
     obtain ⟨rfl,_⟩:=h;simp [AK.calls] at hk
   · simp at h
 · rename_i f
   left
   split at h
   · rename_i g hg
     split at h
     · rename_i sz by_ hcl
       simp only [Option.ite_none_right_eq_some,Option.some.injEq,Prod.mk.injEq] at h
       exact ⟨f,g,rfl,hg,h.2.2.symm,.inr (.inr (.inr (.inl ⟨sz,by_,h.2.1.symm,hcl⟩)))⟩
     · split at h
       · simp at h;exact ⟨f,g,rfl,hg,h.2.symm,.inr (.inr (.inr (.inr h.1.symm)))⟩
       · split at h
         · simp at h;exact ⟨f,g,rfl,hg,h.2.symm,.inr (.inr (.inl ⟨_,h.1.symm⟩))⟩
         · split at h
           · simp at h;exact ⟨f,g,rfl,hg,h.2.symm,.inr (.inl h.1.symm)⟩
           · simp at h;exact ⟨f,g,rfl,hg,h.2.symm,.inl h.1.symm⟩
   · simp at h
 · rename_i t
   right
   split at h
   · simp at h
     exact ⟨t,rfl,h.2.symm,.inr h.1.symm⟩
   · simp at h
     exact ⟨t,rfl,h.2.symm,.inl h.1.symm⟩
 · simp at h
mutual
theorem wg:∀{a b:PV},je a b=true→a=b
 | .bool a,b,h=>by cases b<;>simp [je] at h;rw [h]
 | .int k n,b,h=>by cases b<;>simp [je] at h;rw [h.1,h.2]
 | .str s,b,h=>by cases b<;>simp [je] at h;rw [h]
 | .agg l,b,h=>by
   cases b with
   | agg q=>simp only [je] at h;rw [mu h]
   | _=>simp [je] at h
 | .a8 l,b,h=>by
   cases b with
   | a8 q=>simp only [je] at h;rw [mu h]
   | _=>simp [je] at h
theorem mu:∀{a b:List PV},jQ a b=true→a=b
 | [],b,h=>by cases b with | nil=>rfl | cons _ _=>simp [jQ] at h
 | x::r,b,h=>by
   cases b with
   | nil=>simp [jQ] at h
   | cons y q=>
     simp only [jQ,Bool.and_eq_true] at h
     rw [wg h.1,mu h.2]
end
theorem wh:∀{a b:List AV},nc a b=true→a=b
 | [],b,h=>by cases b with | nil=>rfl | cons _ _=>simp [nc] at h
 | x::r,b,h=>by
   cases b with
   | nil=>simp [nc] at h
   | cons y q=>
     simp only [nc,Bool.and_eq_true] at h
     rw [wh h.2]
     have h1:=h.1
     cases x with
     | pv p=>cases y with
       | pv p'=>simp only [EP] at h1;rw [wg h1]
       | _=>simp [EP] at h1
     | _=>simp [EP] at h1
theorem oO:∀{a b:Sh},iv a b=true→a=b
 | [],b,h=>by cases b with | nil=>rfl | cons _ _=>simp [iv] at h
 | none::r,b,h=>by
   cases b with
   | nil=>simp [iv] at h
   | cons y q=>cases y with
     | none=>simp only [iv] at h;rw [oO h]
     | some _=>simp [iv] at h
 | some x::r,b,h=>by
   cases b with
   | nil=>simp [iv] at h
   | cons y q=>cases y with
     | none=>simp [iv] at h
     | some y=>
       simp only [iv,Bool.and_eq_true] at h
       rw [wh h.1,oO h.2]
theorem nn {orc:dC} {vals:List AV} {cells:Option (List AV)} {sh:Sh} {aa:au} {out:Out} (h:exec orc .b_ vals cells sh aa=some out):exec orc .gf vals cells sh aa=some out:=by
 cases vals with
 | nil=>simp [exec] at h
 | cons f vals=>
   cases f with
   | fn g cap=>
     simp only [exec,Option.bind_eq_some_iff] at h
     obtain ⟨⟨v,sh',ts⟩,h1,h2⟩:=h
     simp only [F0,Option.ite_none_right_eq_some,Option.some.injEq] at h2
     obtain ⟨h3,rfl⟩:=h2
     have:=oO h3
     subst this
     simp [exec,h1]
   | _=>simp [exec] at h
theorem iK {orc:dC} (horc:gu P ns orc) {f g:Nat} {own:List Nat} (hg:ns.of f=some g) {vals:List AV} {vs:List Value} {x:AV} {mem:List (Nat×List AV)} {sh sh':Sh} {aa toks':au}
   (hr:ae (num ns) G vals vs) (hi:Inv (num ns) G w mem sh aa) (h:da orc g own vals sh aa=some (x,sh',toks')) :
   Calls P f vs.toArray w fun e w'=>∃v G',e=.returned v∧al (num ns) G' x v∧Inv (num ns) G' w' mem sh' toks'∧G.le G'∧bz G w G' w':=by
 unfold da at h
 simp only [Option.ite_none_right_eq_some,Option.map_eq_some_iff] at h
 obtain ⟨hp,⟨rs,sh1,ts1⟩,h1,h2⟩:=h
 simp only [Prod.mk.injEq] at h2
 obtain ⟨rfl,rfl,rfl⟩:=h2
 obtain ⟨hC,hpr⟩:=horc.i g f _ _ rs _ sh1 ts1 hg (eY hp) h1
 obtain ⟨m,tks,hN,hto,hargs⟩:=hi.zX hp (mr (own:=own) (i:=0) hr)
 refine (hC (G.to m tks) w vs hto hargs).mono ?_
 rintro e w' ⟨v,G1,rfl,en,hi1,hevo⟩
 obtain ⟨g1,g2,g3⟩:=hi.back hN w6 hi1 hevo
 exact ⟨v,_,rfl,nP (qD hpr en),g1,g2,g3⟩
theorem qE {orc:dC} (horc:gu P ns orc) {f g:Nat} (hg:ns.of f=some g) {cd:List PV} {vs:List Value} {rs:List AV} {ts1:au} {mem:List (Nat×List AV)} {sh:Sh} {aa:au}
   (hr:ga G.K cd vs) (hi:Inv (num ns) G w mem sh aa) (h:orc.i g (cd.map .pv) [] []=some (rs,[],ts1)) :
   Calls P f vs.toArray w fun e w'=>∃v G',e=.returned v∧al (num ns) G' (jP (rs.map (bM aa.length))) v∧Inv (num ns) G' w' mem sh (aa++ts1)∧G.le G'∧bz G w G' w':=by
 have hpass:(cd.map AV.pv).all bp=true:=by
   rw [List.all_eq_true]
   intro x hx
   obtain ⟨p,_,rfl⟩:=List.mem_map.1 hx
   rfl
 obtain ⟨hC,hpr⟩:=horc.i g f _ _ rs _ _ ts1 hg hpass h
 refine (hC G.w8 w vs hi.w8 (d6 (ρ:=num ns) (G:=G.w8) hr)).mono ?_
 rintro e w' ⟨v,G1,rfl,en,hi1,hevo⟩
 obtain ⟨g1,g2,g3⟩:=hi.eZ hi1 hevo
 exact ⟨v,_,rfl,nP (w9 hi1 hpr en),g1,g2,g3⟩
theorem Cq (hB:eQ P ns) {orc:dC} (horc:gu P ns orc) {A:jL} {o:Oper} {k:AK} {args:List Operand} (hc:a9 P ns A o.dst o.op=some (k,args)) {a:Act} {vals:List AV} {out:Out}
   {mem:List (Nat×List AV)} {sh:Sh} {aa:au} (hr:ae (num ns) G vals (args.map a.eval)) (hi:Inv (num ns) G w mem sh aa)
   (h:exec orc k vals (k.key.bind (look mem)) sh aa=some out) {next:Act→World→Prop} {Q:Exit→Act→World→Prop}
   (hn:∀v w' G',al (num ns) G' out.val v→Inv (num ns) G' w' (dZ mem k.key out.cells) out.sh out.aa→G.le G'→bz G w G' w'→next (a.put o.dst v) w'):o.wp P a w next Q:=by
 cases hk:k.calls with
 | false=>
   obtain ⟨n,v,w',G',g1,g2,g3,g4,g5,g6⟩:=lh hc hk hr hi h
   unfold Oper.wp
   rw [g1]
   rcases g2 with rfl | ⟨rfl,rfl⟩
   · exact hn v w' G' g3 g4 g5 g6
   · exact hn undef w' G' g3 g4 g5 g6
 | true=>
   obtain ⟨dst,op,type,pos,after,guard⟩:=o
   have hcall:∃c,op=.call c:=sJ (k:=k) (by cases k<;>simp_all [AK.calls]) hc
   obtain ⟨c,rfl⟩:=hcall
   rcases z1 hc hk with ⟨f,g,hcal,hg,rfl,hk'⟩ | ⟨t,hcal,rfl,hkv⟩
   · have hrun:(execOp a.eval ⟨dst,.call c,type,pos,after,guard⟩).run P w=.ok (.enter f ((c.args.toList.map a.eval).toArray)) w:=by
       obtain ⟨callee,cargs,ctypes⟩:=c
       simp only at hcal;subst hcal
       simp only [execOp,resolve,Sem.run_bind,Act.eval,Deferred.ofValue,Sem.run_pure,Result.andThen_ok,invoke]
       rw [g_ hB hg]
       congr 2
       apply Array.ext'
       simp
     rcases hk' with rfl | rfl | ⟨own,rfl⟩ | ⟨sz,by_,rfl,hcl⟩ | rfl
     · -- for pure data
       simp only [exec] at h
       split at h
       · rename_i cd hp
         simp only [Option.map_eq_some_iff] at h
         obtain ⟨rs,h1,rfl⟩:=h
         have hC:=horc.p g f cd rs hg h1 G.K w _ hi.known (gQ hp hr)
         unfold Oper.wp
         rw [hrun]
         refine hC.mono ?_
         rintro e w' ⟨v,K',rfl,en,hK,hold,hkk,hb⟩
         obtain ⟨g1,g2,g3⟩:=hi.pure hK hold hkk hb
         exact hn v w' _ (nO en) (by simpa [AK.key,dZ] using g1) g2 g3
       · simp at h
     · -- for pure data,arrays frozen
       simp only [exec] at h
       split at h
       · rename_i cd hp
         simp only [Option.map_eq_some_iff] at h
         obtain ⟨rs,h1,rfl⟩:=h
         obtain ⟨G1,k1,k2,k3,k4,k5⟩:=Inv.kill (vals.flatMap dX) hi
         have hC:=horc.p g f cd rs hg h1 G1.K w _ k1.known (lp k2 k4 hi.oL (fun s hs=>hs) hp hr)
         unfold Oper.wp
         rw [hrun]
         refine hC.mono ?_
         rintro e w' ⟨v,K',rfl,en,hK,hold,hkk,hb⟩
         obtain ⟨g1,g2,g3⟩:=k1.pure hK hold hkk hb
         exact hn v w' _ (nO en) (by simpa [AK.key,dZ,dj] using g1) (Gh.le_trans k2 g2) (k3.trans g3)
       · simp at h
     · -- with the shared memory
       simp only [exec,Option.map_eq_some_iff] at h
       obtain ⟨⟨x,sh',ts'⟩,h1,rfl⟩:=h
       have hC:=iK horc hg hr hi h1
       unfold Oper.wp
       rw [hrun]
       refine hC.mono ?_
       rintro e w' ⟨v,G',rfl,g1,g2,g3,g4⟩
       exact hn v w' G' g1 (by simpa [AK.key,dZ] using g2) g3 g4
     · -- slices.Clone
       rcases vals with _ | ⟨x,_ | ⟨_,_⟩⟩
       · simp [exec] at h
       · simp only [exec,Option.map_eq_some_iff] at h
         obtain ⟨⟨y,ts'⟩,h1,rfl⟩:=h
         have hl:=hr.length
         obtain ⟨v,hv⟩:∃v,c.args.toList.map a.eval=[v]:=List.length_eq_one_iff.1 (by simpa using hl)
         rw [hv] at hr
         simp only [ae] at hr
         obtain ⟨v',r,e,hx,rfl⟩:=hr
         cases e
         have hC:=horc.c g sz by_ f hcl hg G w mem sh aa ts' x y v hi hx h1
         unfold Oper.wp
         rw [hrun,hv]
         refine hC.mono ?_
         rintro e w' ⟨u,G',rfl,g1,g2,g3,g4⟩
         exact hn u w' G' g1 (by simpa [AK.key,dZ] using g2) g3 g4
       · simp [exec] at h
     · -- without the shared memory
       simp only [exec] at h
       split at h
       · rename_i cd hp
         split at h
         · rename_i rs ts1 h1
           cases h
           have hC:=qE horc hg (gQ hp hr) hi h1
           unfold Oper.wp
           rw [hrun]
           refine hC.mono ?_
           rintro e w' ⟨v,G',rfl,g1,g2,g3,g4⟩
           exact hn v w' G' g1 (by simpa [AK.key,dZ] using g2) g3 g4
         · simp at h
       · simp at h
   · -- a function value
     have hkey:k.key=none:=by rcases hkv with rfl | rfl<;>rfl
     replace h:exec orc .gf vals none sh aa=some out:=by
       rcases hkv with rfl | rfl
       · exact h
       · exact nn h
     rw [hkey] at hn
     cases vals with
     | nil=>simp [ae] at hr
     | cons x0 vals=>
       simp only [List.map_cons,ae] at hr
       obtain ⟨fv,r,e,hf,hr⟩:=hr
       simp only [List.cons.injEq] at e
       obtain ⟨rfl,rfl⟩:=e
       cases x0 with
       | fn g cap=>
         simp only [exec,Option.map_eq_some_iff] at h
         obtain ⟨⟨x,sh',ts'⟩,h1,rfl⟩:=h
         simp only [al] at hf
         obtain ⟨f,vs,hg,hv,hcap⟩:=hf
         have hrun:(execOp a.eval ⟨dst,.call c,type,pos,after,guard⟩).run P w=.ok (.enter f ((c.args.toList.map a.eval++vs).toArray)) w:=by
           obtain ⟨callee,cargs,ctypes⟩:=c
           simp only at hcal;subst hcal
           simp only [execOp,resolve,Sem.run_bind]
           rw [hv]
           simp only [Deferred.ofValue,Sem.run_pure,Result.andThen_ok,invoke]
           rw [g_ hB hg]
           congr 2
           apply Array.ext'
           simp
         have hC:=iK horc hg (ae.append hr hcap) hi h1
         unfold Oper.wp
         rw [hrun]
         refine hC.mono ?_
         rintro e w' ⟨v,G',rfl,g1,g2,g3,g4⟩
         exact hn v w' G' g1 (by simpa [AK.key,dZ] using g2) g3 g4
       | _=>simp [exec] at h
end
end Go.Ab
