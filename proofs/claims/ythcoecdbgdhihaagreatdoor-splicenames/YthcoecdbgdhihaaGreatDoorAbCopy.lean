import Derived.Test.YthcoecdbgdhihaaGreatDoorAbHot
/-
  The builtin copy: elements over the head of an array that may be written.
-/
set_option linter.unusedVariables false
set_option linter.unusedSimpArgs false
set_option linter.unnecessarySimpa false
set_option maxRecDepth 100000
set_option maxHeartbeats 8000000
namespace Go.Ab
section
variable {P:Program} {ns:Names} {G:Gh} {w:World} {A:lf}
theorem qf {els:List PV} {base:Option Addr} {len cap sz k:Nat} (hr:Rel G.K (.aI els) (.slice base len cap)) (hs:bC sz els=true) (hk:k≤els.length) :
   ∃vss:List Value,vss.length=k*sz∧dV G.K ((els.take k).flatMap bw) vss∧(∀u∈vss,u.oneCell'=true) ∧
     ∀w:World,(∀b o u,G.K b o=some u→w.cell? ⟨b,o,none⟩=some u)→(Builtin.firstCells sz k (.slice base len cap)).run P w=.ok vss.toArray w:=by
 obtain ⟨base',len',cap',e,_,hlen,hrow'⟩:=cK.1 hr;cases e;by_cases hnil:els=[]
 · subst hnil;have:k=0:=by simpa using hk
   subst this;refine ⟨[],by simp,by simp [dV],by simp,fun w _=>?_⟩;cases base with
   | none=>simp [Builtin.firstCells]
   | some a=>simp [Builtin.firstCells,loadCells,loadCellsFrom]
 · obtain ⟨b,o,sz',rfl,hrow⟩:=hrow'.resolve_left hnil;have:=hrow.sz hs hnil;subst this;obtain ⟨vss,g1,g2,g3,g4⟩:=(hrow.take k).q';rw [List.length_take,Nat.min_eq_left hk] at g1;refine ⟨vss,g1,g3,g4,fun w hk=>?_⟩;have hl:=run_loadCells_list (P:=P) w ⟨b,o,none⟩ vss (fun j u hj=>by rw [Addr.ev];exact hk _ _ _ (g2 j u hj));rw [g1] at hl;simpa [Builtin.firstCells] using hl
theorem xg {argTypes:Array TypeId} {type t e sz k:Nat} {xs:List PV} {x y:AV} {v u:Value} {mem:List (Nat×List AV)} {sh sh':Sh} {ah:aN}
   (h0:argTypes[0]?=some t) (hu:P.underlying t=some (.slice e)) (hsz:cW P e=some sz)
   (hx:aC (num ns) G x v) (hy:aC (num ns) G y u) (hi:Inv (num ns) G w mem sh ah) (hxs:cR y=some xs) (h:qP sz sh xs x=some (k,sh')) :
   ∃w',(Builtin.copy_ argTypes type #[v,u]).run P w=.ok (.int .i64 k) w'∧Inv (num ns) G w' mem sh' ah∧cq G w G w':=by
 obtain ⟨xb,xc,rfl⟩:=jv hxs hy;have hrx:=ew hxs hy;unfold qP at h;split at h
 · rename_i b z n _;split at h
   · rename_i cells hcs;simp only [Option.ite_none_right_eq_some,Option.some.injEq,Prod.mk.injEq] at h;obtain ⟨⟨rfl,hhx,hmb,hle⟩,rfl,rfl⟩:=h;simp only [aC] at hx;obtain ⟨blk,cap,hsm,rfl,_⟩:=hx;have hkx:min xs.length n≤xs.length:=Nat.min_le_left _ _;have hkn:min xs.length n≤n:=Nat.min_le_right _ _;obtain ⟨new,n1,n2,n3,n4⟩:=qf (P:=P) hrx hhx hkx;have htk:xs.take (min xs.length n)=xs.take n:=by
       rcases Nat.le_total xs.length n with h | h
       · rw [Nat.min_eq_left h,List.take_of_length_le h,List.take_of_length_le (Nat.le_refl _)]
       · rw [Nat.min_eq_right h]
     rw [htk] at n2;generalize hk:min xs.length n=k at *;have hleafN:(((xs.take n).flatMap bw).map AV.pv).all dS=true:=xe (jV n2);have hrefsN:∀k,(((xs.take n).flatMap bw).map AV.pv).all (aW k)=true:=by
       intro k;rw [List.all_eq_true];intro x hx;obtain ⟨p,_,rfl⟩:=List.mem_map.1 hx;rfl
     have hrelN:aB (num ns) G (((xs.take n).flatMap bw).map .pv) new:=iu n2;obtain ⟨blk',hp',hblk,hlf,hrf⟩:=hi.dP _ _ hcs;rw [hsm] at hp';cases hp';obtain ⟨_,c,ty,us,suf,hh,hcz,hsp,hrel⟩:=hblk.cells hmb;have hul:us.length=cells.length:=hrel.length;have hkz:k*z≤n*z:=Nat.mul_le_mul_right z hkn;have hcl:c.toList.length=us.length+suf.length:=(by rw [hsp];simp);have hcl':c.size=us.length+suf.length:=(by simpa using hcl);have tV:=run_storeCells_at (P:=P) blk.1 0 ty new 0 c w hh (by rw [n1];omega) n3;simp only [Nat.add_zero] at tV;have hctt:c.toList.take 0=us.take 0:=(by simp);have hcd:c.toList.drop (0+new.length)=us.drop (0+new.length)++suf:=by
       rw [hsp,List.drop_append_of_le_length (by rw [n1];omega)]
     have hleaf:(bn cells 0 (((xs.take n).flatMap bw).map AV.pv)).all dS=true:=by
       rw [List.all_eq_true] at *;intro y hy;simp only [bn,List.mem_append] at hy;rcases hy with (hy | hy) | hy
       · exact hlf y (List.mem_of_mem_take hy)
       · exact hleafN y hy
       · exact hlf y (List.mem_of_mem_drop hy)
     have hrefs:(bn cells 0 (((xs.take n).flatMap bw).map AV.pv)).all (aW (b+1))=true:=by
       have zf':=hrefsN (b+1);rw [List.all_eq_true] at *;intro y hy;simp only [bn,List.mem_append] at hy;rcases hy with (hy | hy) | hy
       · exact hrf y (List.mem_of_mem_take hy)
       · exact zf' y hy
       · exact hrf y (List.mem_of_mem_drop hy)
     have hrel':=fy 0 hrel hrelN;obtain ⟨g1,g2⟩:=hi.nA (cells':=bn cells 0 (((xs.take n).flatMap bw).map AV.pv)) (c':=(c.toList.take 0++new++c.toList.drop (0+new.length)).toArray)
       (vs:=us.take 0++new++us.drop (0+new.length)) (suf:=suf) hcs hsm hh (by
         simp only [List.size_toArray,List.length_append,List.length_take,List.length_drop,n1,hcl];rw [←hcz,hcl'];omega)
       (by simp only [hctt,hcd,List.append_assoc]) hrel' hleaf hrefs
     refine ⟨_,?_,g1,g2⟩;have hmin:Nat.min xs.length n=k:=hk;have hl:=n4 w hi.known;simp [Builtin.copy_,h0,run_underlying hu,Builtin.lenOf,hmin,dJ hsz,hl,tV,goInt]
   · simp at h
 · simp at h
theorem DF {c:Call} {dst:Option Nat} {args:List Operand} {sz:Nat} (h:cm P ns A dst (.call c)=some (.jq sz,args)) :
   ∃x y t e t1 e1,c.callee=.builtin .copy∧c.args=#[x,y]∧args=[x,y]∧c.argTypes[0]?=some t∧c.argTypes[1]?=some t1∧P.underlying t=some (.slice e)∧P.underlying t1=some (.slice e1)∧cW P e=some sz:=by
 obtain ⟨callee,cargs,ctypes⟩:=c;simp only [cm] at h
 repeat' (split at h)
 all_goals try (simp at h;done)
 rename_i x y e e1 ha ht ht1 _ sz' hs;simp only [Option.some.injEq,Prod.mk.injEq,AK.jq.injEq] at h;obtain ⟨rfl,rfl⟩:=h;simp only [Option.bind_eq_some_iff] at ht ht1;obtain ⟨t,ht,htu⟩:=ht;obtain ⟨t1,ht1,htu1⟩:=ht1;exact ⟨x,y,t,e,t1,e1,rfl,by apply Array.ext';simpa using ha,rfl,ht,ht1,d3 htu,d3 htu1,hs⟩
end
end Go.Ab
