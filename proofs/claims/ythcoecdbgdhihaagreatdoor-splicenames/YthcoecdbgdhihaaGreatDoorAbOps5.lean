import Derived.Test.YthcoecdbgdhihaaGreatDoorAbOps4
/-
  Cuts of slices and strings; the operations on values, all together.
-/
set_option linter.unusedVariables false
set_option linter.unusedSimpArgs false
set_option linter.unnecessarySimpa false
set_option maxRecDepth 100000
set_option maxHeartbeats 8000000
namespace Go.Ab
section
variable {P:Program} {ns:Names} {G:Gh} {w:World}
theorem cZ {k:IntKind} {i:Int} {y:Nat} {code:BoundsCode} (h0:0≤i) (hy:i≤y):(Instr.sliceBound (.int k i) y code).run P w=.ok i.toNat w:=by
 simp only [Instr.sliceBound,Sem.run_bind,asIntOf,Sem.run_pure,Result.andThen_ok];rw [if_pos ⟨h0,hy⟩];rfl
theorem mP {lo hi mx:Option Operand} {f:Operand→Value} {rest:List AV} {n cap:Nat} {l h:Int} {m:Option Int} {b:Bool}
   (hr:aB (num ns) G rest ((lo.toList++hi.toList++mx.toList).map f)) (he:dZ lo.isSome hi.isSome mx.isSome n rest=some (l,h,m))
   (h0:0≤l) (h1:l≤h) (h2:h≤n) (h3:n≤cap) (hm:∀x,m=some x→x=h) :
   (Instr.sliceBounds b n cap (lo.map f) (hi.map f) (mx.map f)).run P w=.ok (l.toNat,h.toNat,(m.map Int.toNat).getD cap) w:=by
 cases lo<;>cases hi<;>cases mx<;>simp only [Option.isSome_none,Option.isSome_some,dZ] at he <;>
   (try (split at he<;>first | (simp at he;done) | skip))<;>(try (simp at he;done))
 all_goals simp at he
 all_goals obtain ⟨rfl,rfl,rfl⟩:=he
 all_goals (try contradiction)
 all_goals simp [aB,aC,Rel,R] at hr
 · simp only [Instr.sliceBounds,Option.map_none,Sem.run_bind,Sem.run_pure,Result.andThen_ok];simp
 · rename_i k h _ _ _;have e1:=cZ (P:=P) (w:=w) (k:=k) (i:=h) (y:=cap) (code:=if b then .sliceAcap else .sliceAlen) (by omega) (by omega);simp only [Instr.sliceBounds,Option.map_none,Option.map_some,hr,Sem.run_bind,Sem.run_pure,Result.andThen_ok,e1];simp
 · rename_i k h k' m _ _ _;obtain ⟨hr1,hr2⟩:=hr;have hmh:=hm m rfl;subst hmh;have e1:=cZ (P:=P) (w:=w) (k:=k') (i:=m) (y:=cap) (code:=if b then .slice3Acap else .slice3Alen) (by omega) (by omega);have e2:=cZ (P:=P) (w:=w) (k:=k) (i:=m) (y:=m.toNat) (code:=.slice3B) (by omega) (by omega);simp only [Instr.sliceBounds,Option.map_none,Option.map_some,hr1,hr2,Sem.run_bind,Sem.run_pure,Result.andThen_ok,e1,e2];simp
 · rename_i k l _ _ _;have e1:=cZ (P:=P) (w:=w) (k:=k) (i:=l) (y:=n) (code:=.sliceB) (by omega) (by omega);simp only [Instr.sliceBounds,Option.map_none,Option.map_some,hr,Sem.run_bind,Sem.run_pure,Result.andThen_ok,Option.isSome_none,Bool.false_eq_true,if_false,e1];simp
 · rename_i k l k' h _ _ _;obtain ⟨hr1,hr2⟩:=hr;have e1:=cZ (P:=P) (w:=w) (k:=k') (i:=h) (y:=cap) (code:=if b then .sliceAcap else .sliceAlen) (by omega) (by omega);have e2:=cZ (P:=P) (w:=w) (k:=k) (i:=l) (y:=h.toNat) (code:=.sliceB) (by omega) (by omega);simp only [Instr.sliceBounds,Option.map_none,Option.map_some,hr1,hr2,Sem.run_bind,Sem.run_pure,Result.andThen_ok,e1,Option.isSome_none,Bool.false_eq_true,if_false,e2];simp
 · rename_i k l k' h k'' m _ _ _;obtain ⟨hr1,hr2,hr3⟩:=hr;have hmh:=hm m rfl;subst hmh;have e1:=cZ (P:=P) (w:=w) (k:=k'') (i:=m) (y:=cap) (code:=if b then .slice3Acap else .slice3Alen) (by omega) (by omega);have e2:=cZ (P:=P) (w:=w) (k:=k') (i:=m) (y:=m.toNat) (code:=.slice3B) (by omega) (by omega);have e3:=cZ (P:=P) (w:=w) (k:=k) (i:=l) (y:=m.toNat) (code:=.slice3C) (by omega) (by omega);simp only [Instr.sliceBounds,Option.map_some,hr1,hr2,hr3,Sem.run_bind,Sem.run_pure,Result.andThen_ok,e1,e2,Option.isSome_some,if_true,e3];simp
theorem JJ {K:bJ} {els:List PV} {b o sz l h:Nat} (hr:Row K b o sz els):Row K b (o+l*sz) sz ((els.take h).drop l):=Row.drop l (Row.take h hr)
theorem w6 {t e sz:Nat} {lo hi mx:Option Operand} {f:Operand→Value} {x y:AV} {v:Value} {rest:List AV} (hu:P.underlying t=some (.slice e)) (hsz:cW P e=some sz)
   (hr:aB (num ns) G rest ((lo.toList++hi.toList++mx.toList).map f)) (hx:aC (num ns) G x v)
   (h:cO false sz lo.isSome hi.isSome mx.isSome (x::rest)=some y) :
   ∃u,(Instr.sliceAt t v (lo.map f) (hi.map f) (mx.map f)).run P w=.ok u w∧aC (num ns) G y u:=by
 simp only [cO,Bool.false_eq_true,if_false] at h;split at h
 · rename_i els hels;obtain ⟨base,len,cap,rfl,hcap,hlen,hrow⟩:=cK.1 (ew hels hx);split at h
   · rename_i l hh m hb;simp only [Option.ite_none_right_eq_some] at h;obtain ⟨⟨h0,h1,h2,h3⟩,h⟩:=h;have hm:∀x,m=some x→x=hh:=by
       intro x hx;subst hx;simp only [Option.ite_none_right_eq_some] at h;exact h.1
     rw [hlen] at hb h2;have hrun:=mP (P:=P) (w:=w) (b:=true) hr hb h0 h1 h2 (by omega:len≤cap) hm;have gk:(Instr.sliceAt t (.slice base len cap) (lo.map f) (hi.map f) (mx.map f)).run P w =
         .ok (.slice (if (m.map Int.toNat).getD cap=l.toNat then base else base.map (·.add (l.toNat*sz))) (hh.toNat-l.toNat) ((m.map Int.toNat).getD cap-l.toNat)) w:=by
       simp only [Instr.sliceAt,Sem.run_bind,run_underlying hu,Result.andThen_ok,Instr.slice,hrun,dJ hsz,Sem.run_pure]
     refine ⟨_,gk,?_⟩;have hsl:Ly G.K ((els.take hh.toNat).drop l.toNat) (if (m.map Int.toNat).getD cap=l.toNat then base else base.map (·.add (l.toNat*sz))) (hh.toNat-l.toNat):=by
       refine ⟨by simp;omega,?_⟩;by_cases hnil:(els.take hh.toNat).drop l.toNat=[]
       · exact .inl hnil
       · refine .inr ?_;have hlt:l.toNat<hh.toNat:=by
           rcases Nat.lt_or_ge l.toNat hh.toNat with h' | h'
           · exact h'
           · exfalso;apply hnil;apply List.drop_of_length_le;simp;omega
         rcases hrow with hn | ⟨b,o,sz',rfl,hrow⟩
         · subst hn;simp at hnil
         · have hne:(m.map Int.toNat).getD cap≠l.toNat:=by
             cases m with
             | none=>simp;omega
             | some x=>have:=hm x rfl;subst this;simp;omega
           rw [if_neg hne];have hels':els≠[]:=by intro e;subst e;simp at hnil
           refine ⟨b,o+l.toNat*sz',sz',?_,JJ hrow⟩;rcases h3 with h3 | h3
           · subst h3;simp [Addr.add]
           · have:=hrow.sz h3 hels';subst this;simp [Addr.ev]
     cases m with
     | none=>
       simp at h;subst h;simp only [aC];exact cK.2 ⟨_,_,_,rfl,by simp;omega,hsl⟩
     | some x=>
       have:=hm x rfl;subst this;simp at h;subst h;simp only [aC];exact ⟨_,_,rfl,hsl⟩
   · simp at h
 · simp at h
theorem u_ {t e sz:Nat} {lo hi mx:Option Operand} {f:Operand→Value} {x y:AV} {v:Value} {rest:List AV} (hu:P.underlying t=some (.slice e)) (hsz:cW P e=some sz) (hmx:mx.isSome=false)
   (hr:aB (num ns) G rest ((lo.toList++hi.toList++mx.toList).map f)) (hx:aC (num ns) G x v)
   (h:jR sz lo.isSome hi.isSome (x::rest)=some y) :
   ∃u,(Instr.sliceAt t v (lo.map f) (hi.map f) (mx.map f)).run P w=.ok u w∧aC (num ns) G y u:=by
 unfold jR at h;split at h
 · rename_i b z n ag rest' heq;simp only [List.cons.injEq] at heq;obtain ⟨rfl,rfl⟩:=heq;rw [Option.ite_none_right_eq_some] at h;obtain ⟨rfl,h⟩:=h;split at h
   · rename_i l hh hb;simp only [Option.ite_none_right_eq_some,Option.some.injEq] at h;obtain ⟨⟨h0,h1,h2⟩,rfl⟩:=h;simp only [aC] at hx;obtain ⟨blk,cap,hsm,rfl,hroom⟩:=hx;rw [←hmx] at hb;have hrun:=mP (P:=P) (w:=w) (b:=true) (cap:=n+cap) hr hb h0 h1 h2 (by omega) (by simp);have gk:(Instr.sliceAt t (.slice (some ⟨blk.1,0,none⟩) n (n+cap)) (lo.map f) (hi.map f) (mx.map f)).run P w =
         .ok (.slice (if n+cap=l.toNat then some ⟨blk.1,0,none⟩ else (some ⟨blk.1,0,none⟩:Option Addr).map (·.add (l.toNat*z))) (hh.toNat-l.toNat) (n+cap-l.toNat)) w:=by
       simp only [Instr.sliceAt,Sem.run_bind,run_underlying hu,Result.andThen_ok,Instr.slice,hrun,dJ hsz,Sem.run_pure,Option.map_none,Option.getD_none]
     refine ⟨_,gk,?_⟩;by_cases hl:l=0
     · subst hl;simp only [if_true,aC];refine ⟨blk,n+cap-hh.toNat,hsm,?_,?_⟩
       · have e1:hh.toNat+(n+cap-hh.toNat)=n+cap:=(by omega);rw [e1];simp [Addr.add]
       · have e1:hh.toNat+(n+cap-hh.toNat)=n+cap:=(by omega);rw [e1];exact hroom
     · rw [if_neg hl];simp only [aC];refine ⟨blk,_,_,hsm,rfl,?_⟩;by_cases hz:hh.toNat-l.toNat=0
       · exact .inl hz
       · right;rw [if_neg (by omega)];simp [Addr.add];exact fun e=>e.symm
   · simp at h
 · simp at h
theorem qe {t:Nat} {lo hi mx:Option Operand} {f:Operand→Value} {x y:AV} {v:Value} {rest:List AV} (hu:P.underlying t=some .string) (hmx:mx.isSome=false)
   (hr:aB (num ns) G rest ((lo.toList++hi.toList++mx.toList).map f)) (hx:aC (num ns) G x v)
   (h:cO true 0 lo.isSome hi.isSome false (x::rest)=some y) :
   ∃u,(Instr.sliceAt t v (lo.map f) (hi.map f) (mx.map f)).run P w=.ok u w∧aC (num ns) G y u:=by
 simp only [cO,if_true] at h;split at h
 · rename_i s;simp only [aC,jZ] at hx;subst hx;split at h
   · rename_i l hh hb;simp only [Option.ite_none_right_eq_some,Option.some.injEq] at h;obtain ⟨⟨h0,h1,h2⟩,rfl⟩:=h;rw [←hmx] at hb;have hrun:=mP (P:=P) (w:=w) (b:=false) hr hb h0 h1 h2 (Nat.le_refl _) (by simp);have hmx':mx=none:=by cases mx<;>simp_all
     subst hmx';have hsize:(ByteArray.mk s.toArray).size=s.length:=by simp [ByteArray.size]
     refine ⟨.string ((ByteArray.mk s.toArray).extract l.toNat hh.toNat),?_,?_⟩
     · simp only [Instr.sliceAt,Sem.run_bind,run_underlying hu,Result.andThen_ok,Instr.slice,Option.map_none,Option.isSome_none,Bool.false_eq_true,if_false,hsize];simp only [Option.map_none] at hrun;simp [hrun]
     · have:(ByteArray.mk s.toArray).extract l.toNat hh.toNat=⟨((s.take hh.toNat).drop l.toNat).toArray⟩:=by
         apply ByteArray.ext;simp [ByteArray.data_extract];rw [List.drop_take]
       rw [this];exact qW
   · simp at h
 · simp at h
end
end Go.Ab
