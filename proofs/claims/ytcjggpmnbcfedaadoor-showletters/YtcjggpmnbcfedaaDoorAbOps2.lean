import Derived.Test.YtcjggpmnbcfedaaDoorAbOps1
/-
  Parts, places, memory that is only read.
-/
set_option linter.unusedVariables false
set_option linter.unusedSimpArgs false
set_option linter.unnecessarySimpa false
set_option maxRecDepth 100000
set_option maxHeartbeats 8000000
namespace Go.Ab
section
variable {P:Program} {ns:Names} {G:Gh} {w:World}
theorem Addr.ct (b o n:Nat):(⟨b,o,none⟩:Addr).add n=⟨b,o+n,none⟩:=by unfold Addr.add;split<;>simp_all
theorem j3 (vs:List Value) (off sz:Nat):vs.toArray.extract off (off+sz)=((vs.drop off).take sz).toArray:=by
 simp [List.extract_toArray]
theorem q9 {t off sz:Nat} {ag:Bool} {cs:List AV} {vs:List Value} {x:AV} (hsz:bt P t=some sz) (hag:dE P t=some ag)
   (h:bl ag sz cs off=some x) (hr:ae (num ns) G cs vs) :
   ∃v,(part t vs.toArray off).run P w=.ok v w∧ah (num ns) G x v:=by
 unfold bl at h
 split at h
 · rename_i hle
   cases ag with
   | true=>
     simp at h;subst h
     refine ⟨.agg (vs.toArray.extract off (off+sz)),?_,?_⟩
     · simp only [part,Sem.run_bind,dF hag,Result.andThen_ok,if_true,bT hsz,Sem.run_pure]
     · simp only [ah]
       exact ⟨(vs.drop off).take sz,by rw [j3],(hr.drop off).take sz⟩
   | false=>
     simp at h
     obtain ⟨_,h⟩:=h
     obtain ⟨v,h1,h2⟩:=hr.get h
     refine ⟨v,?_,h2⟩
     simp only [part,Sem.run_bind,dF hag,Result.andThen_ok,Bool.false_eq_true,if_false]
     simp [h1]
 · simp at h
theorem oR {t off sz:Nat} {ag:Bool} {cs:List PV} {vs:List Value} {x:AV} (hsz:bt P t=some sz) (hag:dE P t=some ag)
   (h:cq ag sz (cs.drop off)=some x) (hr:bM G.K cs vs) :
   ∃v,(part t vs.toArray off).run P w=.ok v w∧ah (num ns) G x v:=by
 unfold cq at h
 split at h
 · rename_i hle
   cases ag with
   | true=>
     simp at h;subst h
     refine ⟨.agg (vs.toArray.extract off (off+sz)),?_,?_⟩
     · simp only [part,Sem.run_bind,dF hag,Result.andThen_ok,if_true,bT hsz,Sem.run_pure]
     · simp only [ah,Rel]
       exact ⟨(vs.drop off).take sz,by rw [j3],bM.take sz (bM.drop off hr)⟩
   | false=>
     simp only [Bool.false_eq_true,if_false,Option.ite_none_right_eq_some,Option.map_eq_some_iff] at h
     obtain ⟨_,c,h,rfl⟩:=h
     rw [List.getElem?_drop] at h
     obtain ⟨v,h1,h2⟩:=hr.get h
     simp only [Nat.add_zero] at h1
     refine ⟨v,?_,by simp only [ah];exact Rel.wW h2⟩
     simp only [part,Sem.run_bind,dF hag,Result.andThen_ok,Bool.false_eq_true,if_false]
     simp [h1]
 · simp at h
theorem fD {t sz:Nat} {ag:Bool} {b o:Nat} {vs:List Value} (hsz:bt P t=some sz) (hag:dE P t=some ag)
   (hc:∀j v,vs[j]?=some v→w.cell? ⟨b,o+j,none⟩=some v) (hl:sz≤vs.length) (h1:ag=false→sz=1) :
   (loadVar t ⟨b,o,none⟩).run P w=.ok (if ag then .agg (vs.take sz).toArray else vs.getD 0 undef) w:=by
 cases ag with
 | true=>
   have hlen:(vs.take sz).length=sz:=by simp;omega
   have:=run_loadCells_list (P:=P) w ⟨b,o,none⟩ (vs.take sz) (fun j v hj=>by
     rw [Addr.ct]
     rw [List.getElem?_take] at hj
     split at hj
     · exact hc j v hj
     · simp at hj)
   rw [hlen] at this
   simp only [loadVar,Sem.run_bind,dF hag,Result.andThen_ok,if_true,bT hsz,this,Sem.run_pure]
 | false=>
   have:=h1 rfl
   subst this
   cases vs with
   | nil=>simp at hl
   | cons v r=>
     have:=hc 0 v rfl
     simp only [Nat.add_zero] at this
     simp only [loadVar,Sem.run_bind,dF hag,Result.andThen_ok,Bool.false_eq_true,if_false,run_load,this]
     simp
theorem iN {t sz:Nat} {ag:Bool} {b o:Nat} {vs:List Value} {cs:List PV} {x:AV} (hsz:bt P t=some sz) (hag:dE P t=some ag)
   (h:cq ag sz cs=some x) (hr:bM G.K cs vs) (hc:∀j v,vs[j]?=some v→w.cell? ⟨b,o+j,none⟩=some v) :
   ∃v,(loadVar t ⟨b,o,none⟩).run P w=.ok v w∧ah (num ns) G x v:=by
 have hlen:=hr.length
 unfold cq at h
 split at h
 · rename_i hle
   cases ag with
   | true=>
     simp at h;subst h
     refine ⟨_,fD hsz hag hc (by omega) (by simp),?_⟩
     simp only [if_true,ah,Rel]
     exact ⟨_,rfl,bM.take sz hr⟩
   | false=>
     simp only [Bool.false_eq_true,if_false,Option.ite_none_right_eq_some,Option.map_eq_some_iff] at h
     obtain ⟨h1,c,h,rfl⟩:=h
     obtain ⟨v,h3,h4⟩:=hr.get h
     refine ⟨_,fD hsz hag hc (by omega) (fun _=>h1),?_⟩
     simp only [Bool.false_eq_true,if_false,ah]
     have:vs.getD 0 undef=v:=by simp [List.getD,h3]
     rw [this];exact Rel.wW h4
 · simp at h
theorem eF {t sz:Nat} {ag:Bool} {b off:Nat} {vs:List Value} {cs:List AV} {x:AV} (hsz:bt P t=some sz) (hag:dE P t=some ag)
   (h:bl ag sz cs off=some x) (hr:ae (num ns) G cs vs) (hc:∀j v,vs[j]?=some v→w.cell? ⟨b,j,none⟩=some v) :
   ∃v,(loadVar t ⟨b,off,none⟩).run P w=.ok v w∧ah (num ns) G x v:=by
 have hlen:=hr.length
 have hc':∀j v,(vs.drop off)[j]?=some v→w.cell? ⟨b,off+j,none⟩=some v:=fun j v hj=>by
   rw [List.getElem?_drop] at hj
   exact hc _ v hj
 unfold bl at h
 split at h
 · rename_i hle
   cases ag with
   | true=>
     simp at h;subst h
     refine ⟨_,fD hsz hag hc' (by simp;omega) (by simp),?_⟩
     simp only [if_true,ah]
     exact ⟨_,rfl,ae.take sz (ae.drop off hr)⟩
   | false=>
     simp at h
     obtain ⟨h1,h⟩:=h
     obtain ⟨v,h3,h4⟩:=hr.get h
     refine ⟨_,fD hsz hag hc' (by simp;omega) (fun _=>h1),?_⟩
     simp only [Bool.false_eq_true,if_false]
     have:(vs.drop off).getD 0 undef=v:=by simp [List.getD,List.getElem?_drop,h3]
     rw [this];exact h4
 · simp at h
theorem fX {b:Nat} {c:Array Value} {t:TypeId} {fr:Nat×Nat} (h:w.heap[b]?=some (.cells c t fr)):∀j v,c.toList[j]?=some v→w.cell? ⟨b,j,none⟩=some v:=by
 intro j v hj
 simp [World.cell?,h]
 simpa using hj
theorem ji {b:Nat} {c:Array Value} {t:TypeId} {fr:Nat×Nat} {vs suf:List Value} (h:w.heap[b]?=some (.cells c t fr)) (hs:c.toList=vs++suf):∀j v,vs[j]?=some v→w.cell? ⟨b,j,none⟩=some v:=by
 intro j v hj
 refine fX h j v ?_
 rw [hs,List.getElem?_append_left (List.getElem?_eq_some_iff.1 hj).1]
 exact hj
theorem j4 {t f:Nat} {fd:Field} (h:eR P t f=some fd):∃fs,P.underlying t=some (.struct fs)∧fs[f]?=some fd:=by
 unfold eR at h
 split at h
 · rename_i fs hu;exact ⟨fs,hu,h⟩
 · simp at h
theorem bF {t e:Nat} (h:cV P t=some e):P.underlying t=some (.slice e):=by
 unfold cV at h
 split at h
 · rename_i hu;simp at h;subst h;exact hu
 · simp at h
theorem oS {t f sz:Nat} {ag:Bool} {fd:Field} {x y:AV} {v:Value} (hf:eR P t f=some fd) (hsz:bt P fd.type=some sz) (hag:dE P fd.type=some ag)
   (h:aV (.field fd.offset sz ag) [x]=some y) (hr:ah (num ns) G x v):∃u,(Instr.field t v f).run P w=.ok u w∧ah (num ns) G y u:=by
 obtain ⟨fs,hu,hg⟩:=j4 hf
 simp only [aV] at h
 split at h
 · rename_i cs
   simp only [ah] at hr
   obtain ⟨vs,rfl,hr⟩:=hr
   obtain ⟨u,h1,h2⟩:=q9 (w:=w) hsz hag h hr
   refine ⟨u,?_,h2⟩
   simp only [Instr.field,Sem.run_bind,run_underlying hu,Result.andThen_ok,hg,asAgg,Sem.run_pure,h1]
 · rename_i cs
   simp only [ah,Rel] at hr
   obtain ⟨vs,rfl,hr⟩:=hr
   obtain ⟨u,h1,h2⟩:=oR (ns:=ns) (w:=w) hsz hag h hr
   refine ⟨u,?_,h2⟩
   simp only [Instr.field,Sem.run_bind,run_underlying hu,Result.andThen_ok,hg,asAgg,Sem.run_pure,h1]
 · simp at h
theorem ic {t f s:Nat} {fd:Field} (hf:eR P t f=some fd) (hsz:bt P fd.type=some s) (hs:s≠0) (b o:Nat) :
   (Instr.fieldAt t (.pointer (some ⟨b,o,none⟩)) f).run P w=.ok (.pointer (some ⟨b,o+fd.offset,none⟩)) w:=by
 obtain ⟨fs,hu,hg⟩:=j4 hf
 simp only [Instr.fieldAt,Sem.run_bind,run_underlying hu,Result.andThen_ok,hg,Instr.sureAddr,Sem.run_pure,fieldPlace,bT hsz,hs,if_false,Addr.ct]
theorem oT {t f s:Nat} {fd:Field} {x y:AV} {v:Value} (hf:eR P t f=some fd) (hsz:bt P fd.type=some s) (hs:s≠0)
   (h:aV (.ga fd.offset) [x]=some y) (hr:ah (num ns) G x v):∃u,(Instr.fieldAt t v f).run P w=.ok u w∧ah (num ns) G y u:=by
 simp only [aV] at h
 split at h
 · simp at h;subst h
   simp only [ah] at hr
   obtain ⟨b,e,rfl⟩:=hr
   exact ⟨_,ic hf hsz hs _ _,by simp only [ah];exact ⟨b,e,rfl⟩⟩
 · simp at h;subst h
   simp only [ah] at hr
   obtain ⟨b,e,rfl⟩:=hr
   exact ⟨_,ic hf hsz hs _ _,by simp only [ah];exact ⟨b,e,rfl⟩⟩
 · simp at h;subst h
   simp only [ah] at hr
   obtain ⟨b,o,vs,rfl,h1,h2⟩:=hr
   refine ⟨_,ic hf hsz hs _ _,?_⟩
   simp only [ah]
   refine ⟨b,_,vs.drop fd.offset,rfl,?_,bM.drop _ h2⟩
   intro j u hj
   rw [List.getElem?_drop] at hj
   have:=h1 _ u hj
   rwa [Nat.add_assoc]
 · simp at h
theorem j5 {t e sz:Nat} {k:IntKind} {i:Int} {b o len cap:Nat} (he:cV P t=some e) (hsz:bt P e=some sz) (h0:0≤i) (hi:i.toNat<len) :
   (Instr.indexAt t (.slice (some ⟨b,o,none⟩) len cap) (.int k i)).run P w=.ok (.pointer (some ⟨b,o+i.toNat*sz,none⟩)) w:=by
 have hu:=bF he
 have:(0≤i∧i<(len:Int)):=⟨h0,by omega⟩
 simp only [Instr.indexAt,Sem.run_bind,asIntOf,Sem.run_pure,Result.andThen_ok,run_underlying hu]
 simp [this,bT hsz,Addr.ct]
theorem cg {x:AV} {v:Value} {els:List PV} (h:bw x=some els) (hr:ah (num ns) G x v):Rel G.K (.bz els) v:=by
 unfold bw at h
 split at h
 · simp at h;subst h;simpa only [ah] using hr
 · simp at h;subst h
   simp only [ah] at hr
   obtain ⟨b,l,rfl,hr⟩:=hr
   exact aZ.2 ⟨b,l,l,rfl,Nat.le_refl _,hr⟩
 · simp at h;subst h
   simp only [ah] at hr
   obtain ⟨t,_,_,hr,_⟩:=hr
   exact hr
 · simp at h
theorem oU {t e sz:Nat} {k:IntKind} {i:Int} {x y:AV} {v:Value} (he:cV P t=some e) (hsz:bt P e=some sz)
   (h:aV (.ed sz) [x,.pv (.int k i)]=some y) (hr:ah (num ns) G x v) :
   ∃u,(Instr.indexAt t v (.int k i)).run P w=.ok u w∧ah (num ns) G y u:=by
 simp only [aV] at h
 split at h
 · simp at h
 · rename_i h0
   split at h
   · rename_i s sz' n ag
     simp only [ah] at hr
     obtain ⟨b,c,e1,rfl,_⟩:=hr
     simp only [Option.ite_none_right_eq_some,Option.some.injEq] at h
     obtain ⟨⟨h1,h2⟩,rfl⟩:=h
     refine ⟨_,j5 he hsz (by omega) h2,?_⟩
     simp only [ah]
     exact ⟨b,e1,by simp⟩
   · rename_i x' _
     split at h
     · rename_i els hels
       have hr':=cg hels hr
       obtain ⟨base,len,cap,rfl,_,hlen,hrow⟩:=aZ.1 hr'
       split at h
       · rename_i el hel
         simp only [Option.ite_none_right_eq_some,Option.some.injEq] at h
         obtain ⟨hl,rfl⟩:=h
         have hlt:i.toNat<els.length:=(List.getElem?_eq_some_iff.1 hel).1
         rcases hrow with hnil | ⟨b,o,sz',rfl,hrow⟩
         · subst hnil;simp at hlt
         · obtain ⟨vs,g1,g2,g3⟩:=hrow.get hel
           have:sz=sz':=by rw [←hl,←g3.length,g1]
           subst this
           refine ⟨_,j5 he hsz (by omega) (by omega),?_⟩
           simp only [ah]
           exact ⟨b,_,vs,rfl,g2,g3.cells⟩
       · simp at h
     · simp at h
theorem oV {t:Nat} {k:IntKind} {i:Int} {s:List UInt8} {y:AV} (hu:P.underlying t=some .string)
   (h:aV .index [.pv (.str s),.pv (.int k i)]=some y) :
   ∃u,(Instr.index t (.string ⟨s.toArray⟩) (.int k i)).run P w=.ok u w∧ah (num ns) G y u:=by
 simp only [aV] at h
 split at h
 · simp at h
 · rename_i h0
   simp only [Option.map_eq_some_iff] at h
   obtain ⟨b,h1,rfl⟩:=h
   refine ⟨_,?_,bU⟩
   have h2:(ByteArray.mk s.toArray)[i.toNat]?=some b:=by
     have hlt:=(List.getElem?_eq_some_iff.1 h1).1
     rw [getElem?_pos (ByteArray.mk s.toArray) i.toNat (by simpa [ByteArray.size] using hlt)]
     have:=(List.getElem?_eq_some_iff.1 h1).2
     simp only [Option.some.injEq]
     rw [←this];rfl
   simp only [Instr.index,Sem.run_bind,asIntOf,Sem.run_pure,Result.andThen_ok,run_underlying hu]
   have h3:0≤i:=by omega
   simp only [h3,if_true,h2,Sem.run_pure]
end
end Go.Ab
