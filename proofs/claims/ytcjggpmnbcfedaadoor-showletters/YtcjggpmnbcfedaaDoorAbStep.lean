import Derived.Test.YtcjggpmnbcfedaaDoorAbGive
/-
  One operation of a region: what the evaluator gives is what the model does.
-/
set_option linter.unusedVariables false
set_option linter.unusedSimpArgs false
set_option linter.unnecessarySimpa false
set_option maxRecDepth 100000
set_option maxHeartbeats 8000000
namespace Go.Ab
section
variable {P:Program} {ns:Names} {G:Gh} {w:World}
theorem mZ {rs:List PV} {v:Value} (h:e_ G.K rs v):ah (num ns) G (k7 rs) v:=by
 match rs,h with
 | [r],h=>simp only [e_] at h;simp only [k7,ah];exact h
 | [],h=>simp only [e_] at h;simp only [k7,ah];obtain ⟨vs,e,h⟩:=h;exact ⟨vs,e,dw h⟩
 | _::_::_,h=>simp only [e_] at h;simp only [k7,ah];obtain ⟨vs,e,h⟩:=h;exact ⟨vs,e,dw h⟩
theorem m4 {rs:List AV} {v:Value} (h:bI (num ns) G rs v):ah (num ns) G (k8 rs) v:=by
 match rs,h with
 | [r],h=>simp only [bI] at h;simp only [k8];exact h
 | [],h=>simp only [bI] at h;simp only [k8,ah];exact h
 | _::_::_,h=>simp only [bI] at h;simp only [k8,ah];exact h
theorem uC {v:AV} {rv:Value} (h:ah (num ns) G v rv):ah (num ns) G (iM v) rv:=by
 unfold iM
 split
 · rename_i p hp;simp only [ah];exact iz hp h
 · exact h
theorem lH {own:List Nat}:∀{i:Nat} {xs:List AV} {vs:List Value},ae (num ns) G xs vs→ae (num ns) G (ep own i xs) vs
 | _,[],_,h=>by simpa [ep,ae] using h
 | i,x::xs,_,h=>by
   simp only [ae] at h
   obtain ⟨v,r,rfl,e1,e2⟩:=h
   simp only [ep,ae]
   refine ⟨v,r,rfl,?_,lH e2⟩
   split
   · exact e1
   · exact uC e1
theorem w_ {A:hO} {dst:Option Nat} {c:Call} {k:AK} {args:List Operand} (h:aG P ns A dst (.call c)=some (k,args)) (hk:k.calls=true) :
   (∃f g,c.callee=.value (.func f)∧ns.of f=some g∧args=c.args.toList∧(k=.aQ g∨k=.eo g∨(∃own,k=.gQ g own)∨(∃sz by_,(k=.clone sz by_∨∃ag,k=.gp sz by_ ag)∧look ns.cl g=some (sz,by_))∨k=.gY g)) ∨
   (∃t,c.callee=.value (.tmp t)∧args=.tmp t::c.args.toList∧(k=.fq∨k=.bP)):=by
 obtain ⟨callee,cargs,ctypes⟩:=c
 simp only [aG] at h
 split at h
 · split at h<;>simp at h<;>(obtain ⟨rfl,_⟩:=h;simp [AK.calls] at hk)
 · split at h<;>simp at h;obtain ⟨rfl,_⟩:=h;simp [AK.calls] at hk
 · split at h<;>simp at h;obtain ⟨rfl,_⟩:=h;simp [AK.calls] at hk
 · split at h
   · split at h
     · rw [Option.ite_none_right_eq_some] at h
       obtain ⟨_,h⟩:=h
       split at h
       · simp only [Option.map_eq_some_iff,Prod.mk.injEq] at h
         obtain ⟨_,_,rfl,_⟩:=h;simp [AK.calls] at hk
       · split at h<;>(simp at h;obtain ⟨rfl,_⟩:=h;simp [AK.calls] at hk)
     · simp at h
   · simp at h
 · split at h
   · split at h
     · split at h<;>simp at h
       obtain ⟨rfl,_⟩:=h;simp [AK.calls] at hk
     · simp at h
   · simp at h
 · split at h
   · split at h<;>simp at h
     obtain ⟨rfl,_⟩:=h;simp [AK.calls] at hk
   · simp at h
 · rename_i f
   left
   split at h
   · rename_i g hg
     split at h
     · rename_i sz by_ hcl
       rw [Option.ite_none_right_eq_some] at h
       obtain ⟨_,h⟩:=h
       split at h
       · split at h
         · simp only [Option.map_eq_some_iff,Prod.mk.injEq] at h
           obtain ⟨ag,_,h1,h2⟩:=h
           exact ⟨f,g,rfl,hg,h2.symm,.inr (.inr (.inr (.inl ⟨sz,by_,.inr ⟨ag,h1.symm⟩,hcl⟩)))⟩
         · simp at h
       · simp only [Option.some.injEq,Prod.mk.injEq] at h
         exact ⟨f,g,rfl,hg,h.2.symm,.inr (.inr (.inr (.inl ⟨sz,by_,.inl h.1.symm,hcl⟩)))⟩
     · split at h
       · simp at h;exact ⟨f,g,rfl,hg,h.2.symm,.inr (.inr (.inr (.inr h.1.symm)))⟩
       · split at h
         · simp at h;exact ⟨f,g,rfl,hg,h.2.symm,.inr (.inr (.inl ⟨_,h.1.symm⟩))⟩
         · split at h
           · simp at h;exact ⟨f,g,rfl,hg,h.2.symm,.inr (.inl h.1.symm)⟩
           · simp at h;exact ⟨f,g,rfl,hg,h.2.symm,.inl h.1.symm⟩
   · simp at h
 · rename_i t
   right
   split at h
   · simp at h
     exact ⟨t,rfl,h.2.symm,.inr h.1.symm⟩
   · simp at h
     exact ⟨t,rfl,h.2.symm,.inl h.1.symm⟩
 · simp at h
mutual
theorem tQ:∀{a b:PV},mm a b=true→a=b
 | .bool a,b,h=>by cases b<;>simp [mm] at h;rw [h]
 | .int k n,b,h=>by cases b<;>simp [mm] at h;rw [h.1,h.2]
 | .str s,b,h=>by cases b<;>simp [mm] at h;rw [h]
 | .agg l,b,h=>by
   cases b with
   | agg q=>simp only [mm] at h;rw [lI h]
   | _=>simp [mm] at h
 | .bz l,b,h=>by
   cases b with
   | bz q=>simp only [mm] at h;rw [lI h]
   | _=>simp [mm] at h
theorem lI:∀{a b:List PV},la a b=true→a=b
 | [],b,h=>by cases b with | nil=>rfl | cons _ _=>simp [la] at h
 | x::r,b,h=>by
   cases b with
   | nil=>simp [la] at h
   | cons y q=>
     simp only [la,Bool.and_eq_true] at h
     rw [tQ h.1,lI h.2]
end
theorem tR:∀{a b:List AV},ub a b=true→a=b
 | [],b,h=>by cases b with | nil=>rfl | cons _ _=>simp [ub] at h
 | x::r,b,h=>by
   cases b with
   | nil=>simp [ub] at h
   | cons y q=>
     simp only [ub,Bool.and_eq_true] at h
     rw [tR h.2]
     have h1:=h.1
     cases x with
     | pv p=>cases y with
       | pv p'=>simp only [B3] at h1;rw [tQ h1]
       | _=>simp [B3] at h1
     | _=>simp [B3] at h1
theorem nR:∀{a b:Sh},lb a b=true→a=b
 | [],b,h=>by cases b with | nil=>rfl | cons _ _=>simp [lb] at h
 | none::r,b,h=>by
   cases b with
   | nil=>simp [lb] at h
   | cons y q=>cases y with
     | none=>simp only [lb] at h;rw [nR h]
     | some _=>simp [lb] at h
 | some x::r,b,h=>by
   cases b with
   | nil=>simp [lb] at h
   | cons y q=>cases y with
     | none=>simp [lb] at h
     | some y=>
       simp only [lb,Bool.and_eq_true] at h
       rw [tR h.1,nR h.2]
theorem mC {orc:cZ} {vals:List AV} {cells:Option (List AV)} {sh:Sh} {aa:al} {out:Out} (h:exec orc .bP vals cells sh aa=some out):exec orc .fq vals cells sh aa=some out:=by
 cases vals with
 | nil=>simp [exec] at h
 | cons f vals=>
   cases f with
   | fn g cap=>
     simp only [exec,Option.bind_eq_some_iff] at h
     obtain ⟨⟨v,sh',ts⟩,h1,h2⟩:=h
     simp only [B_,Option.ite_none_right_eq_some,Option.some.injEq] at h2
     obtain ⟨h3,rfl⟩:=h2
     have:=nR h3
     subst this
     simp [exec,h1]
   | _=>simp [exec] at h
theorem iu {orc:cZ} (horc:ej P ns orc) {f g:Nat} {own:List Nat} (hg:ns.of f=some g) {vals:List AV} {vs:List Value} {x:AV} {mem:List (Nat×List AV)} {sh sh':Sh} {aa toks':al}
   (hr:ae (num ns) G vals vs) (hi:Inv (num ns) G w mem sh aa) (h:dd orc g own vals sh aa=some (x,sh',toks')) :
   Calls P f vs.toArray w fun e w'=>∃v G',e=.returned v∧ah (num ns) G' x v∧Inv (num ns) G' w' mem sh' toks'∧G.le G'∧aN G w G' w':=by
 unfold dd at h
 simp only [Option.ite_none_right_eq_some,Option.map_eq_some_iff] at h
 obtain ⟨hp,⟨rs,sh1,ts1⟩,h1,h2⟩:=h
 simp only [Prod.mk.injEq] at h2
 obtain ⟨rfl,rfl,rfl⟩:=h2
 obtain ⟨hC,hpr⟩:=horc.i g f _ _ rs _ sh1 ts1 hg (ek hp) h1
 obtain ⟨m,tks,hN,hto,hargs⟩:=hi.w7 hp (lH (own:=own) (i:=0) hr)
 refine (hC (G.to m tks) w vs hto hargs).mono ?_
 rintro e w' ⟨v,G1,rfl,dJ,hi1,hevo⟩
 obtain ⟨g1,g2,g3⟩:=hi.back hN uy hi1 hevo
 exact ⟨v,_,rfl,m4 (pM hpr dJ),g1,g2,g3⟩
theorem pN {orc:cZ} (horc:ej P ns orc) {f g:Nat} (hg:ns.of f=some g) {cv:List PV} {vs:List Value} {rs:List AV} {ts1:al} {mem:List (Nat×List AV)} {sh:Sh} {aa:al}
   (hr:fl G.K cv vs) (hi:Inv (num ns) G w mem sh aa) (h:orc.i g (cv.map .pv) [] []=some (rs,[],ts1)) :
   Calls P f vs.toArray w fun e w'=>∃v G',e=.returned v∧ah (num ns) G' (k8 (rs.map (cA aa.length))) v∧Inv (num ns) G' w' mem sh (aa++ts1)∧G.le G'∧aN G w G' w':=by
 have hpass:(cv.map AV.pv).all aY=true:=by
   rw [List.all_eq_true]
   intro x hx
   obtain ⟨p,_,rfl⟩:=List.mem_map.1 hx
   rfl
 obtain ⟨hC,hpr⟩:=horc.i g f _ _ rs _ _ ts1 hg hpass h
 refine (hC G.uA w vs hi.uA (dw (ρ:=num ns) (G:=G.uA) hr)).mono ?_
 rintro e w' ⟨v,G1,rfl,dJ,hi1,hevo⟩
 obtain ⟨g1,g2,g3⟩:=hi.d0 hi1 hevo
 exact ⟨v,_,rfl,m4 (uB hi1 hpr dJ),g1,g2,g3⟩
theorem zh (hB:dS P ns) {orc:cZ} (horc:ej P ns orc) {A:hO} {o:Oper} {k:AK} {args:List Operand} (hc:aG P ns A o.dst o.op=some (k,args)) {a:Act} {vals:List AV} {out:Out}
   {mem:List (Nat×List AV)} {sh:Sh} {aa:al} (hr:ae (num ns) G vals (args.map a.eval)) (hi:Inv (num ns) G w mem sh aa)
   (h:exec orc k vals (k.key.bind (look mem)) sh aa=some out) {next:Act→World→Prop} {Q:Exit→Act→World→Prop}
   (hn:∀v w' G',ah (num ns) G' out.val v→Inv (num ns) G' w' (cM mem k.key out.cells) out.sh out.aa→G.le G'→aN G w G' w'→next (a.put o.dst v) w'):o.wp P a w next Q:=by
 cases hk:k.calls with
 | false=>
   obtain ⟨n,v,w',G',g1,g2,g3,g4,g5,g6⟩:=kf hc hk hr hi h
   unfold Oper.wp
   rw [g1]
   rcases g2 with rfl | ⟨rfl,rfl⟩
   · exact hn v w' G' g3 g4 g5 g6
   · exact hn undef w' G' g3 g4 g5 g6
 | true=>
   obtain ⟨dst,op,type,pos,after,guard⟩:=o
   have hcall:∃c,op=.call c:=rj (k:=k) (by cases k<;>simp_all [AK.calls]) hc
   obtain ⟨c,rfl⟩:=hcall
   rcases w_ hc hk with ⟨f,g,hcal,hg,rfl,hk'⟩ | ⟨t,hcal,rfl,hkv⟩
   · have hrun:(execOp a.eval ⟨dst,.call c,type,pos,after,guard⟩).run P w=.ok (.enter f ((c.args.toList.map a.eval).toArray)) w:=by
       obtain ⟨callee,cargs,ctypes⟩:=c
       simp only at hcal;subst hcal
       simp only [execOp,resolve,Sem.run_bind,Act.eval,Deferred.ofValue,Sem.run_pure,Result.andThen_ok,invoke]
       rw [gD hB hg]
       congr 2
       apply Array.ext'
       simp
     rcases hk' with rfl | rfl | ⟨own,rfl⟩ | ⟨sz,by_,hkc,hcl⟩ | rfl
     · -- for pure data
       simp only [exec] at h
       split at h
       · rename_i cv hp
         simp only [Option.map_eq_some_iff] at h
         obtain ⟨rs,h1,rfl⟩:=h
         have hC:=horc.p g f cv rs hg h1 G.K w _ (fun b c hb=>(hi.hP b c hb).2) hi.known (gq hp hr)
         unfold Oper.wp
         rw [hrun]
         refine hC.mono ?_
         rintro e w' ⟨v,K',rfl,dJ,hK,hold,hkk,hb⟩
         obtain ⟨g1,g2,g3⟩:=hi.pure hK hold hkk hb
         exact hn v w' _ (mZ dJ) (by simpa [AK.key,cM] using g1) g2 g3
       · simp at h
     · -- for pure data,arrays frozen
       simp only [exec] at h
       split at h
       · rename_i cv hp
         simp only [Option.map_eq_some_iff] at h
         obtain ⟨rs,h1,rfl⟩:=h
         obtain ⟨G1,k1,k2,k3,k4,k5⟩:=Inv.kill (vals.flatMap da) hi
         have hC:=horc.p g f cv rs hg h1 G1.K w _ (fun b c hb=>(k1.hP b c hb).2) k1.known (kg k2 k4 hi.lC (fun s hs=>hs) hp hr)
         unfold Oper.wp
         rw [hrun]
         refine hC.mono ?_
         rintro e w' ⟨v,K',rfl,dJ,hK,hold,hkk,hb⟩
         obtain ⟨g1,g2,g3⟩:=k1.pure hK hold hkk hb
         exact hn v w' _ (mZ dJ) (by simpa [AK.key,cM,cm] using g1) (Gh.le_trans k2 g2) (k3.trans g3)
       · simp at h
     · -- with the shared memory
       simp only [exec,Option.map_eq_some_iff] at h
       obtain ⟨⟨x,sh',ts'⟩,h1,rfl⟩:=h
       have hC:=iu horc hg hr hi h1
       unfold Oper.wp
       rw [hrun]
       refine hC.mono ?_
       rintro e w' ⟨v,G',rfl,g1,g2,g3,g4⟩
       exact hn v w' G' g1 (by simpa [AK.key,cM] using g2) g3 g4
     · -- slices.Clone
       have hkey:k.key=none:=by rcases hkc with rfl | ⟨ag,rfl⟩<;>rfl
       rw [hkey] at hn
       rcases vals with _ | ⟨x,_ | ⟨_,_⟩⟩
       · rcases hkc with rfl | ⟨ag,rfl⟩<;>simp [exec] at h
       · obtain ⟨oc,y,sh',ts',h1,rfl⟩:∃oc y sh' ts',fW oc sz by_ x sh aa=some (y,sh',ts')∧out=⟨y,none,sh',ts'⟩:=by
           rcases hkc with rfl | ⟨ag,rfl⟩
           · simp only [exec,Option.map_eq_some_iff] at h
             obtain ⟨⟨y,ts'⟩,h1,rfl⟩:=h
             exact ⟨none,y,sh,ts',by simp [fW,h1],rfl⟩
           · simp only [exec,Option.map_eq_some_iff] at h
             obtain ⟨⟨y,sh',ts'⟩,h1,rfl⟩:=h
             exact ⟨some ag,y,sh',ts',h1,rfl⟩
         have hl:=hr.length
         obtain ⟨v,hv⟩:∃v,c.args.toList.map a.eval=[v]:=List.length_eq_one_iff.1 (by simpa using hl)
         rw [hv] at hr
         simp only [ae] at hr
         obtain ⟨v',r,e,hx,rfl⟩:=hr
         cases e
         have hC:=horc.c g sz by_ f hcl hg oc G w mem sh sh' aa ts' x y v hi hx h1
         unfold Oper.wp
         rw [hrun,hv]
         refine hC.mono ?_
         rintro e w' ⟨u,G',rfl,g1,g2,g3,g4⟩
         exact hn u w' G' g1 (by simpa [cM] using g2) g3 g4
       · rcases hkc with rfl | ⟨ag,rfl⟩<;>simp [exec] at h
     · -- without the shared memory
       simp only [exec] at h
       split at h
       · rename_i cv hp
         split at h
         · rename_i rs ts1 h1
           cases h
           have hC:=pN horc hg (gq hp hr) hi h1
           unfold Oper.wp
           rw [hrun]
           refine hC.mono ?_
           rintro e w' ⟨v,G',rfl,g1,g2,g3,g4⟩
           exact hn v w' G' g1 (by simpa [AK.key,cM] using g2) g3 g4
         · simp at h
       · simp at h
   · -- a function value
     have hkey:k.key=none:=by rcases hkv with rfl | rfl<;>rfl
     replace h:exec orc .fq vals none sh aa=some out:=by
       rcases hkv with rfl | rfl
       · exact h
       · exact mC h
     rw [hkey] at hn
     cases vals with
     | nil=>simp [ae] at hr
     | cons x0 vals=>
       simp only [List.map_cons,ae] at hr
       obtain ⟨fv,r,e,hf,hr⟩:=hr
       simp only [List.cons.injEq] at e
       obtain ⟨rfl,rfl⟩:=e
       cases x0 with
       | fn g cap=>
         simp only [exec,Option.map_eq_some_iff] at h
         obtain ⟨⟨x,sh',ts'⟩,h1,rfl⟩:=h
         simp only [ah] at hf
         obtain ⟨f,vs,hg,hv,hcap⟩:=hf
         have hrun:(execOp a.eval ⟨dst,.call c,type,pos,after,guard⟩).run P w=.ok (.enter f ((c.args.toList.map a.eval++vs).toArray)) w:=by
           obtain ⟨callee,cargs,ctypes⟩:=c
           simp only at hcal;subst hcal
           simp only [execOp,resolve,Sem.run_bind]
           rw [hv]
           simp only [Deferred.ofValue,Sem.run_pure,Result.andThen_ok,invoke]
           rw [gD hB hg]
           congr 2
           apply Array.ext'
           simp
         have hC:=iu horc hg (ae.append hr hcap) hi h1
         unfold Oper.wp
         rw [hrun]
         refine hC.mono ?_
         rintro e w' ⟨v,G',rfl,g1,g2,g3,g4⟩
         exact hn v w' G' g1 (by simpa [AK.key,cM] using g2) g3 g4
       | _=>simp [exec] at h
end
end Go.Ab
