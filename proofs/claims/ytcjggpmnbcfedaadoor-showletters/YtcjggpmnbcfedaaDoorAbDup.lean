import Derived.Test.YtcjggpmnbcfedaaDoorAbCopy
/-
  The same strings appended once more onto a slice from before.
-/
set_option linter.unusedVariables false
set_option linter.unusedSimpArgs false
set_option linter.unnecessarySimpa false
set_option maxRecDepth 100000
set_option maxHeartbeats 8000000
namespace Go.Ab
section
variable {P:Program} {ns:Names} {G:Gh} {w:World} {A:hO}
theorem pb:∀{a b:List PV},cb a b=true→a=b
 | [],[],_=>rfl
 | .str a::r,.str b::q,h=>by
   simp only [cb,Bool.and_eq_true,beq_iff_eq] at h
   rw [h.1,pb h.2]
 | [],_::_,h=>by simp [cb] at h
 | .bool _::_,_,h=>by simp [cb] at h
 | .int _ _::_,_,h=>by simp [cb] at h
 | .agg _::_,_,h=>by simp [cb] at h
 | .bz _::_,_,h=>by simp [cb] at h
 | .str _::_,[],h=>by simp [cb] at h
 | .str _::_,.bool _::_,h=>by simp [cb] at h
 | .str _::_,.int _ _::_,h=>by simp [cb] at h
 | .str _::_,.agg _::_,h=>by simp [cb] at h
 | .str _::_,.bz _::_,h=>by simp [cb] at h
theorem ly {K:aF}:∀{xs ys:List PV} {a b:List Value},cb ys xs=true→bM K (xs.flatMap aB) a→bM K (xs.flatMap aB) b→a=b
 | [],_,a,b,_,ha,hb=>by
   simp only [List.flatMap_nil,bM] at ha hb
   rw [ha,hb]
 | .str s::xs,ys,a,b,h,ha,hb=>by
   cases ys with
   | nil=>simp [cb] at h
   | cons y ys=>
     cases y with
     | str s'=>
       simp only [cb,Bool.and_eq_true] at h
       simp only [List.flatMap_cons,aB,List.cons_append,List.nil_append,bM,R] at ha hb
       obtain ⟨v,r,rfl,e1,e2⟩:=ha
       obtain ⟨v',r',rfl,f1,f2⟩:=hb
       have:=ly h.2 e2 f2
       simp at e1 f1
       rw [e1,f1,this]
     | _=>simp [cb] at h
 | .bool _::_,ys,_,_,h,_,_=>by cases ys with | nil=>simp [cb] at h | cons y ys=>cases y<;>simp [cb] at h
 | .int _ _::_,ys,_,_,h,_,_=>by cases ys with | nil=>simp [cb] at h | cons y ys=>cases y<;>simp [cb] at h
 | .agg _::_,ys,_,_,h,_,_=>by cases ys with | nil=>simp [cb] at h | cons y ys=>cases y<;>simp [cb] at h
 | .bz _::_,ys,_,_,h,_,_=>by cases ys with | nil=>simp [cb] at h | cons y ys=>cases y<;>simp [cb] at h
theorem w6 {α:Type} {c new:List α} {a:Nat} (h:∀j,j<new.length→c[a+j]?=new[j]?):c.take a++new++c.drop (a+new.length)=c:=by
 have e:new=(c.drop a).take new.length:=by
   apply List.ext_getElem?
   intro j
   rw [List.getElem?_take]
   split
   · rename_i hj
     rw [List.getElem?_drop,h j hj]
   · rename_i hj
     exact List.getElem?_eq_none (by omega)
 have e2:c.drop (a+new.length)=(c.drop a).drop new.length:=by rw [List.drop_drop]
 rw [e2,List.append_assoc]
 conv=>lhs;arg 2;arg 1;rw [e]
 rw [List.take_append_drop,List.take_append_drop]
theorem my {argTypes:Array TypeId} {type t e e1 t1 sz by_:Nat} {z:List PV} {s x ev:AV} {xs:List PV} {p:PV} {vs vx ve:Value} {mem:List (Nat×List AV)} {sh:Sh} {aa:al}
   (h0:argTypes[0]?=some t) (h1:argTypes[1]?=some t1)
   (hu:P.underlying t=some (.slice e)) (hu1:P.underlying t1=some (.slice e1)) (hsz:bt P e=some sz) (hby:cD P e=some by_) (hz:bc P e=some z) (hzl:z.length=sz) (hb0:0<by_)
   (hs:ah (num ns) G s vs) (hx:ah (num ns) G x vx) (hev:ah (num ns) G ev ve) (hi:Inv (num ns) G w mem sh aa) (hxs:bw x=some xs) (h:oM sz by_ xs s ev aa=some p) :
   ∃v w' G',(Builtin.append_ argTypes type #[vs,vx]).run P w=.ok v w'∧ah (num ns) G' (.pv p) v∧Inv (num ns) G' w' mem sh aa∧G.le G'∧aN G w G' w':=by
 unfold oM at h
 split at h
 · rename_i l τ m σ
   simp only [Option.ite_none_right_eq_some,Option.some.injEq] at h
   obtain ⟨⟨rfl,htok,hml,hhl,hhx,rfl,hsame,hne,hbytes⟩,rfl⟩:=h
   have hdrop:=pb hsame
   simp only [ah] at hs hev
   obtain ⟨tk,e1,⟨e2,ewas⟩,e3,_⟩:=hs
   obtain ⟨tk',f1,_,f3,f4⟩:=hev
   rw [e1] at f1;cases f1
   have hlen:m.length=tk.len:=by
     have:=hi.cY τ tk e1
     rw [htok] at this;simpa using this
   obtain ⟨_,frow⟩:=f4 hlen
   have hxpos:0<xs.length:=by cases xs with | nil=>simp at hne | cons _ _=>simp
   have hmne:m≠[]:=by rintro rfl;simp at hml;omega
   obtain ⟨b,o,hbase,hrow⟩:=frow.resolve_left hmne
   have hsz1:tk.sz=1:=by
     cases xs with
     | nil=>simp at hxpos
     | cons x0 xs'=>
       have hd:=hrow.drop l.length
       rw [hdrop] at hd
       simp only [Row] at hd
       obtain ⟨⟨us,g1,_,g3⟩,_⟩:=hd
       have:=g3.length
       simp [aP] at hhx
       omega
   obtain ⟨base,tlen,cap,tsz,town⟩:=tk
   simp only at hlen hbase hrow hsz1
   subst hsz1 hbase hlen
   rcases ewas with d | ⟨base',len',cap',rfl,hcase⟩
   · exact absurd d.1 (by simp)
   obtain ⟨xb,xc,rfl⟩:=ef hxs hx
   have hrx:=cg hxs hx
   obtain ⟨q1,q2,q3,q4,q5,hlen',q6⟩:=aZ.1 e3
   cases q4
   subst hlen'
   obtain ⟨new,n1,n2,n3,n4⟩:=gT (P:=P) hrx hhx (Nat.le_refl _)
   rw [List.take_of_length_le (Nat.le_refl _)] at n2
   simp only [Nat.mul_one] at n1
   have hdr:=hrow.drop l.length
   rw [hdrop] at hdr
   obtain ⟨new',g1,g2,g3,g4⟩:=hdr.jo
   have hnn:=ly hsame g3 n2
   subst hnn
   rcases Nat.lt_or_ge cap' (l.length+xs.length) with hfit | hfit
   · -- it does not fit
     obtain ⟨az,o1,o2,o3,o4⟩:=dR (P:=P) (w:=w.drew) (fun b o u hk=>hi.known b o u hk) e3 hhl rfl
     obtain ⟨rest,newCap,p1,p2,p3⟩:=eG (type:=type) (az:=az.toArray) (new:=new'.toArray) h0 h1 hu hu1 hsz hby hz hzl (base:=base') (len:=l.length) (cap:=cap') (n:=xs.length) (xb:=xb) (xc:=xc) rfl
       (fun w' e=>by subst e;exact o1) (fun w' e=>by subst e;exact n4 _ (fun b o u hk=>hi.known b o u hk)) hfit hb0 (by rw [←hml];exact hbytes)
     refine ⟨_,_,_,p3,?_,hi.drew.ie _ e,Gh.iA hi.drew _,(aN.drew G w).trans (aN.ie hi.drew _ e)⟩
     have hle:=(Gh.iA hi.drew (az.toArray++new'.toArray++rest)).K
     have hat:At (G.jk w.drew.heap.size (az.toArray++new'.toArray++rest)).K w.heap.size 0 (az++new'):=by
       intro j v hj
       have hlt:=(List.getElem?_eq_some_iff.1 hj).1
       have:w.drew.heap.size=w.heap.size:=rfl
       simp only [Gh.jk,this,if_true,Nat.zero_add]
       rw [Array.getElem?_append_left (by simpa using hlt)]
       simpa using hj
     have hrow':Row (G.jk w.drew.heap.size (az.toArray++new'.toArray++rest)).K w.heap.size 0 1 (l++xs):=by
       refine Row.append (o3 _ _ _ hle fun j v hj=>hat j v ?_) ?_
       · rw [List.getElem?_append_left (List.getElem?_eq_some_iff.1 hj).1];exact hj
       · obtain ⟨vss,r1,r2,r3,r4⟩:=hdr.flat
         have hvv:vss=new':=by
           apply List.ext_getElem?
           intro j
           rcases Nat.lt_or_ge j vss.length with hj | hj
           · have a1:=r2 j _ (List.getElem?_eq_getElem hj)
             have hj':j<new'.length:=by omega
             have a2:=g2 j _ (List.getElem?_eq_getElem hj')
             rw [a1] at a2
             rw [List.getElem?_eq_getElem hj,List.getElem?_eq_getElem hj']
             exact a2
           · rw [List.getElem?_eq_none hj,List.getElem?_eq_none (by omega)]
         subst hvv
         refine r3 _ _ _ hle fun j v hj=>?_
         have:=hat (az.length+j) v (by rw [List.getElem?_append_right (by omega),Nat.add_sub_cancel_left];exact hj)
         rw [o2] at this
         rwa [Nat.zero_add,←Nat.zero_add (l.length*1+j),←Nat.add_assoc] at this
     simp only [ah]
     exact aZ.2 ⟨_,_,_,rfl,p1,by simp,.inr ⟨_,_,_,rfl,hrow'⟩⟩
   · -- it lies there
     rcases hcase with hc | ⟨rfl,rfl,ho⟩
     · simp only at hc;omega
     simp only at ho
     have hown:town=true:=ho.resolve_left (by omega)
     obtain ⟨tk'',k1,k2,k3⟩:=hi.bE τ _ htok
     rw [e1] at k1;cases k1
     obtain ⟨b',o',c,ty,p1,p2,p3,p4,p5⟩:=k3.spare (.inr hown)
     simp only [Option.some.injEq,Addr.mk.injEq] at p1
     obtain ⟨rfl,rfl,_⟩:=p1
     simp only [Nat.mul_one] at p4
     simp only [Nat.mul_one] at g1 g2
     have nF:=run_storeCells_at (P:=P) b (o+l.length) ty new' 0 c w p3 (by omega) g4
     simp only [Nat.add_zero] at nF
     have hself:(c.toList.take (o+l.length)++new'++c.toList.drop (o+l.length+new'.length)).toArray=c:=by
       rw [w6]
       · intro j hj
         have a2:=hi.known _ _ _ (g2 j _ (List.getElem?_eq_getElem hj))
         simp only [World.cell?,p3,Option.isSome_none,Bool.false_eq_true,if_false] at a2
         rw [List.getElem?_eq_getElem hj]
         simpa using a2
     rw [hself,setRow_self w b c ty (0,0) p3] at nF
     have hrun:=cI (type:=type) h0 h1 hu hu1 hsz (base:=some ⟨b,o,none⟩) (len:=l.length) (cap:=cap') (n:=xs.length) (xb:=xb) (xc:=xc) rfl (n4 w hi.known) hfit
     refine ⟨.slice (some ⟨b,o,none⟩) (l.length+xs.length) cap',w,G,?_,?_,hi,G.le_refl,aN.refl G w⟩
     · refine Eq.trans hrun ?_
       simp only [Addr.ct,Nat.mul_one,nF,Result.andThen_ok]
     · simp only [ah]
       refine aZ.2 ⟨_,_,_,rfl,hfit,by simp,.inr ⟨_,_,1,rfl,Row.append ?_ hdr⟩⟩
       by_cases hl0:l=[]
       · subst hl0;simp only [Row]
       · obtain ⟨b2,o2,sz2,r1,r2⟩:=q6.resolve_left hl0
         cases r1
         have:=r2.sz hhl hl0
         subst this
         exact r2
 · simp at h
theorem pc {c:Call} {dst:Option Nat} {args:List Operand} {sz by_:Nat} (h:aG P ns A dst (.call c)=some (.dz sz by_,args)) :
   ∃x y u t e t1 e1 z,c.callee=.builtin .append∧c.args=#[x,y]∧args=[x,y,u]∧c.argTypes[0]?=some t∧c.argTypes[1]?=some t1∧P.underlying t=some (.slice e) ∧
     P.underlying t1=some (.slice e1)∧bt P e=some sz∧cD P e=some by_∧bc P e=some z∧z.length=sz∧0<sz∧0<by_:=by
 obtain ⟨callee,cargs,ctypes⟩:=c
 simp only [aG] at h
 repeat' (split at h)
 all_goals try (simp at h;done)
 rename_i x y e e1 ha ht ht1 _ _ _ sz' by' z hs hb hz hcond hhot _ u hdup
 simp only [Option.some.injEq,Prod.mk.injEq,AK.dz.injEq] at h
 obtain ⟨⟨rfl,rfl⟩,rfl⟩:=h
 obtain ⟨h1,h2,h3⟩:=hcond
 simp only [Option.bind_eq_some_iff] at ht ht1
 obtain ⟨t,ht,htu⟩:=ht
 obtain ⟨t1,ht1,ht1u⟩:=ht1
 exact ⟨x,y,.tmp u,t,e,t1,e1,z,rfl,by apply Array.ext';simpa using ha,rfl,ht,ht1,bF htu,bF ht1u,hs,hb,hz,h1,h2,h3⟩
end
end Go.Ab
