import Derived.Test.YthcoecdbgdhihaaGreatDoorAbOps1
/-
  Parts, places, memory that is only read.
-/
set_option linter.unusedVariables false
set_option linter.unusedSimpArgs false
set_option linter.unnecessarySimpa false
set_option maxRecDepth 100000
set_option maxHeartbeats 8000000
namespace Go.Ab
section
variable {P:Program} {ns:Names} {G:Gh} {w:World}
theorem Addr.ev (b o n:Nat):(⟨b,o,none⟩:Addr).add n=⟨b,o+n,none⟩:=by unfold Addr.add;split<;>simp_all
theorem pq (vs:List Value) (off sz:Nat):vs.toArray.extract off (off+sz)=((vs.drop off).take sz).toArray:=by
 simp [List.extract_toArray]
theorem zR {t off sz:Nat} {ag:Bool} {cs:List AV} {vs:List Value} {x:AV} (hsz:cW P t=some sz) (hag:fQ P t=some ag)
   (h:cA ag sz cs off=some x) (hr:aB (num ns) G cs vs) :
   ∃v,(part t vs.toArray off).run P w=.ok v w∧aC (num ns) G x v:=by
 unfold cA at h;split at h
 · rename_i hle;cases ag with
   | true=>
     simp at h;subst h;refine ⟨.agg (vs.toArray.extract off (off+sz)),?_,?_⟩
     · simp only [part,Sem.run_bind,gC hag,Result.andThen_ok,if_true,dJ hsz,Sem.run_pure]
     · simp only [aC];exact ⟨(vs.drop off).take sz,by rw [pq],(hr.drop off).take sz⟩
   | false=>
     simp at h;obtain ⟨_,h⟩:=h;obtain ⟨v,h1,h2⟩:=hr.get h;refine ⟨v,?_,h2⟩;simp only [part,Sem.run_bind,gC hag,Result.andThen_ok,Bool.false_eq_true,if_false];simp [h1]
 · simp at h
theorem wR {t off sz:Nat} {ag:Bool} {cs:List PV} {vs:List Value} {x:AV} (hsz:cW P t=some sz) (hag:fQ P t=some ag)
   (h:df ag sz (cs.drop off)=some x) (hr:dV G.K cs vs) :
   ∃v,(part t vs.toArray off).run P w=.ok v w∧aC (num ns) G x v:=by
 unfold df at h;split at h
 · rename_i hle;cases ag with
   | true=>
     simp at h;subst h;refine ⟨.agg (vs.toArray.extract off (off+sz)),?_,?_⟩
     · simp only [part,Sem.run_bind,gC hag,Result.andThen_ok,if_true,dJ hsz,Sem.run_pure]
     · simp only [aC,Rel];exact ⟨(vs.drop off).take sz,by rw [pq],dV.take sz (dV.drop off hr)⟩
   | false=>
     simp only [Bool.false_eq_true,if_false,Option.ite_none_right_eq_some,Option.map_eq_some_iff] at h;obtain ⟨_,c,h,rfl⟩:=h;rw [List.getElem?_drop] at h;obtain ⟨v,h1,h2⟩:=hr.get h;simp only [Nat.add_zero] at h1;refine ⟨v,?_,by simp only [aC];exact Rel.Jy h2⟩;simp only [part,Sem.run_bind,gC hag,Result.andThen_ok,Bool.false_eq_true,if_false];simp [h1]
 · simp at h
theorem jt {t sz:Nat} {ag:Bool} {b o:Nat} {vs:List Value} (hsz:cW P t=some sz) (hag:fQ P t=some ag)
   (hc:∀j v,vs[j]?=some v→w.cell? ⟨b,o+j,none⟩=some v) (hl:sz≤vs.length) (h1:ag=false→sz=1) :
   (loadVar t ⟨b,o,none⟩).run P w=.ok (if ag then .agg (vs.take sz).toArray else vs.getD 0 undef) w:=by
 cases ag with
 | true=>
   have hlen:(vs.take sz).length=sz:=(by simp;omega);have:=run_loadCells_list (P:=P) w ⟨b,o,none⟩ (vs.take sz) (fun j v hj=>by
     rw [Addr.ev];rw [List.getElem?_take] at hj;split at hj
     · exact hc j v hj
     · simp at hj)
   rw [hlen] at this;simp only [loadVar,Sem.run_bind,gC hag,Result.andThen_ok,if_true,dJ hsz,this,Sem.run_pure]
 | false=>
   have:=h1 rfl;subst this;cases vs with
   | nil=>simp at hl
   | cons v r=>
     have:=hc 0 v rfl;simp only [Nat.add_zero] at this;simp only [loadVar,Sem.run_bind,gC hag,Result.andThen_ok,Bool.false_eq_true,if_false,run_load,this];simp
theorem mF {t sz:Nat} {ag:Bool} {b o:Nat} {vs:List Value} {cs:List PV} {x:AV} (hsz:cW P t=some sz) (hag:fQ P t=some ag)
   (h:df ag sz cs=some x) (hr:dV G.K cs vs) (hc:∀j v,vs[j]?=some v→w.cell? ⟨b,o+j,none⟩=some v) :
   ∃v,(loadVar t ⟨b,o,none⟩).run P w=.ok v w∧aC (num ns) G x v:=by
 have hlen:=hr.length;unfold df at h;split at h
 · rename_i hle;cases ag with
   | true=>
     simp at h;subst h;refine ⟨_,jt hsz hag hc (by omega) (by simp),?_⟩;simp only [if_true,aC,Rel];exact ⟨_,rfl,dV.take sz hr⟩
   | false=>
     simp only [Bool.false_eq_true,if_false,Option.ite_none_right_eq_some,Option.map_eq_some_iff] at h;obtain ⟨h1,c,h,rfl⟩:=h;obtain ⟨v,h3,h4⟩:=hr.get h;refine ⟨_,jt hsz hag hc (by omega) (fun _=>h1),?_⟩;simp only [Bool.false_eq_true,if_false,aC];have:vs.getD 0 undef=v:=by simp [List.getD,h3]
     rw [this];exact Rel.Jy h4
 · simp at h
theorem fH {t sz:Nat} {ag:Bool} {b off:Nat} {vs:List Value} {cs:List AV} {x:AV} (hsz:cW P t=some sz) (hag:fQ P t=some ag)
   (h:cA ag sz cs off=some x) (hr:aB (num ns) G cs vs) (hc:∀j v,vs[j]?=some v→w.cell? ⟨b,j,none⟩=some v) :
   ∃v,(loadVar t ⟨b,off,none⟩).run P w=.ok v w∧aC (num ns) G x v:=by
 have hlen:=hr.length;have hc':∀j v,(vs.drop off)[j]?=some v→w.cell? ⟨b,off+j,none⟩=some v:=fun j v hj=>by
   rw [List.getElem?_drop] at hj;exact hc _ v hj
 unfold cA at h;split at h
 · rename_i hle;cases ag with
   | true=>
     simp at h;subst h;refine ⟨_,jt hsz hag hc' (by simp;omega) (by simp),?_⟩;simp only [if_true,aC];exact ⟨_,rfl,aB.take sz (aB.drop off hr)⟩
   | false=>
     simp at h;obtain ⟨h1,h⟩:=h;obtain ⟨v,h3,h4⟩:=hr.get h;refine ⟨_,jt hsz hag hc' (by simp;omega) (fun _=>h1),?_⟩;simp only [Bool.false_eq_true,if_false];have:(vs.drop off).getD 0 undef=v:=by simp [List.getD,List.getElem?_drop,h3]
     rw [this];exact h4
 · simp at h
theorem gj {b:Nat} {c:Array Value} {t:TypeId} {fr:Nat×Nat} (h:w.heap[b]?=some (.cells c t fr)):∀j v,c.toList[j]?=some v→w.cell? ⟨b,j,none⟩=some v:=by
 intro j v hj;simp [World.cell?,h];simpa using hj
theorem nr {b:Nat} {c:Array Value} {t:TypeId} {fr:Nat×Nat} {vs suf:List Value} (h:w.heap[b]?=some (.cells c t fr)) (hs:c.toList=vs++suf):∀j v,vs[j]?=some v→w.cell? ⟨b,j,none⟩=some v:=by
 intro j v hj;refine gj h j v ?_;rw [hs,List.getElem?_append_left (List.getElem?_eq_some_iff.1 hj).1];exact hj
theorem pw {t f:Nat} {fd:Field} (h:gg P t f=some fd):∃fs,P.underlying t=some (.struct fs)∧fs[f]?=some fd:=by
 unfold gg at h;split at h
 · rename_i fs hu;exact ⟨fs,hu,h⟩
 · simp at h
theorem d3 {t e:Nat} (h:eY P t=some e):P.underlying t=some (.slice e):=by
 unfold eY at h;split at h
 · rename_i hu;simp at h;subst h;exact hu
 · simp at h
theorem wS {t f sz:Nat} {ag:Bool} {fd:Field} {x y:AV} {v:Value} (hf:gg P t f=some fd) (hsz:cW P fd.type=some sz) (hag:fQ P fd.type=some ag)
   (h:cf (.field fd.offset sz ag) [x]=some y) (hr:aC (num ns) G x v):∃u,(Instr.field t v f).run P w=.ok u w∧aC (num ns) G y u:=by
 obtain ⟨fs,hu,hg⟩:=pw hf;simp only [cf] at h;split at h
 · rename_i cs;simp only [aC] at hr;obtain ⟨vs,rfl,hr⟩:=hr;obtain ⟨u,h1,h2⟩:=zR (w:=w) hsz hag h hr;refine ⟨u,?_,h2⟩;simp only [Instr.field,Sem.run_bind,run_underlying hu,Result.andThen_ok,hg,asAgg,Sem.run_pure,h1]
 · rename_i cs;simp only [aC,Rel] at hr;obtain ⟨vs,rfl,hr⟩:=hr;obtain ⟨u,h1,h2⟩:=wR (ns:=ns) (w:=w) hsz hag h hr;refine ⟨u,?_,h2⟩;simp only [Instr.field,Sem.run_bind,run_underlying hu,Result.andThen_ok,hg,asAgg,Sem.run_pure,h1]
 · simp at h
theorem iw {t f s:Nat} {fd:Field} (hf:gg P t f=some fd) (hsz:cW P fd.type=some s) (hs:s≠0) (b o:Nat) :
   (Instr.fieldAt t (.pointer (some ⟨b,o,none⟩)) f).run P w=.ok (.pointer (some ⟨b,o+fd.offset,none⟩)) w:=by
 obtain ⟨fs,hu,hg⟩:=pw hf;simp only [Instr.fieldAt,Sem.run_bind,run_underlying hu,Result.andThen_ok,hg,Instr.sureAddr,Sem.run_pure,fieldPlace,dJ hsz,hs,if_false,Addr.ev]
theorem wT {t f s:Nat} {fd:Field} {x y:AV} {v:Value} (hf:gg P t f=some fd) (hsz:cW P fd.type=some s) (hs:s≠0)
   (h:cf (.aS fd.offset) [x]=some y) (hr:aC (num ns) G x v):∃u,(Instr.fieldAt t v f).run P w=.ok u w∧aC (num ns) G y u:=by
 simp only [cf] at h;split at h
 · simp at h;subst h;simp only [aC] at hr;obtain ⟨b,e,rfl⟩:=hr;exact ⟨_,iw hf hsz hs _ _,by simp only [aC];exact ⟨b,e,rfl⟩⟩
 · simp at h;subst h;simp only [aC] at hr;obtain ⟨b,e,rfl⟩:=hr;exact ⟨_,iw hf hsz hs _ _,by simp only [aC];exact ⟨b,e,rfl⟩⟩
 · simp at h;subst h;simp only [aC] at hr;obtain ⟨b,o,vs,rfl,h1,h2⟩:=hr;refine ⟨_,iw hf hsz hs _ _,?_⟩;simp only [aC];refine ⟨b,_,vs.drop fd.offset,rfl,?_,dV.drop _ h2⟩;intro j u hj;rw [List.getElem?_drop] at hj;have:=h1 _ u hj
   rwa [Nat.add_assoc]
 · simp at h
theorem pz {t e sz:Nat} {k:IntKind} {i:Int} {b o len cap:Nat} (he:eY P t=some e) (hsz:cW P e=some sz) (h0:0≤i) (hi:i.toNat<len) :
   (Instr.indexAt t (.slice (some ⟨b,o,none⟩) len cap) (.int k i)).run P w=.ok (.pointer (some ⟨b,o+i.toNat*sz,none⟩)) w:=by
 have hu:=d3 he;have:(0≤i∧i<(len:Int)):=⟨h0,by omega⟩;simp only [Instr.indexAt,Sem.run_bind,asIntOf,Sem.run_pure,Result.andThen_ok,run_underlying hu];simp [this,dJ hsz,Addr.ev]
theorem ew {x:AV} {v:Value} {els:List PV} (h:cR x=some els) (hr:aC (num ns) G x v):Rel G.K (.aI els) v:=by
 unfold cR at h;split at h
 · simp at h;subst h;simpa only [aC] using hr
 · simp at h;subst h;simp only [aC] at hr;obtain ⟨b,l,rfl,hr⟩:=hr;exact cK.2 ⟨b,l,l,rfl,Nat.le_refl _,hr⟩
 · simp at h;subst h;simp only [aC] at hr;obtain ⟨t,_,_,hr,_⟩:=hr;exact hr
 · simp at h
theorem wU {t e sz:Nat} {k:IntKind} {i:Int} {x y:AV} {v:Value} (he:eY P t=some e) (hsz:cW P e=some sz)
   (h:cf (.aA sz) [x,.pv (.int k i)]=some y) (hr:aC (num ns) G x v) :
   ∃u,(Instr.indexAt t v (.int k i)).run P w=.ok u w∧aC (num ns) G y u:=by
 simp only [cf] at h;split at h
 · simp at h
 · rename_i h0;split at h
   · rename_i s sz' n ag;simp only [aC] at hr;obtain ⟨b,c,e1,rfl,_⟩:=hr;simp only [Option.ite_none_right_eq_some,Option.some.injEq] at h;obtain ⟨⟨h1,h2⟩,rfl⟩:=h;refine ⟨_,pz he hsz (by omega) h2,?_⟩;simp only [aC];exact ⟨b,e1,by simp⟩
   · rename_i x' _;split at h
     · rename_i els hels;have hr':=ew hels hr;obtain ⟨base,len,cap,rfl,_,hlen,hrow⟩:=cK.1 hr';split at h
       · rename_i el hel;simp only [Option.ite_none_right_eq_some,Option.some.injEq] at h;obtain ⟨hl,rfl⟩:=h;have hlt:i.toNat<els.length:=(List.getElem?_eq_some_iff.1 hel).1;rcases hrow with hnil | ⟨b,o,sz',rfl,hrow⟩
         · subst hnil;simp at hlt
         · obtain ⟨vs,g1,g2,g3⟩:=hrow.get hel;have:sz=sz':=by rw [←hl,←g3.length,g1]
           subst this;refine ⟨_,pz he hsz (by omega) (by omega),?_⟩;simp only [aC];exact ⟨b,_,vs,rfl,g2,g3.cells⟩
       · simp at h
     · simp at h
theorem wV {t:Nat} {k:IntKind} {i:Int} {s:List UInt8} {y:AV} (hu:P.underlying t=some .string)
   (h:cf .index [.pv (.str s),.pv (.int k i)]=some y) :
   ∃u,(Instr.index t (.string ⟨s.toArray⟩) (.int k i)).run P w=.ok u w∧aC (num ns) G y u:=by
 simp only [cf] at h;split at h
 · simp at h
 · rename_i h0;simp only [Option.map_eq_some_iff] at h;obtain ⟨b,h1,rfl⟩:=h;refine ⟨_,?_,dK⟩;have h2:(ByteArray.mk s.toArray)[i.toNat]?=some b:=by
     have hlt:=(List.getElem?_eq_some_iff.1 h1).1;rw [getElem?_pos (ByteArray.mk s.toArray) i.toNat (by simpa [ByteArray.size] using hlt)];have:=(List.getElem?_eq_some_iff.1 h1).2;simp only [Option.some.injEq];rw [←this];rfl
   simp only [Instr.index,Sem.run_bind,asIntOf,Sem.run_pure,Result.andThen_ok,run_underlying hu];have h3:0≤i:=by omega
   simp only [h3,if_true,h2,Sem.run_pure]
end
end Go.Ab
