import Derived.Test.YthcoecdbgdhihaaGreatDoorAbOps9
/-
  The operations with memory that call nothing.
-/
set_option linter.unusedVariables false
set_option linter.unusedSimpArgs false
set_option linter.unnecessarySimpa false
set_option maxRecDepth 100000
set_option maxHeartbeats 8000000
namespace Go.Ab
section
variable {P:Program} {ns:Names} {G:Gh} {w:World}
theorem DC {ρ:cy} {x:AV} {v:Value} (h:aC ρ G x v) (hl:bp x=true):v.oneCell'=true:=by
 cases x with
 | pv p=>
   simp only [aC] at h;cases p with
   | agg _=>simp [bp] at hl
   | aI _=>obtain ⟨b,l,c,rfl,_⟩:=cK.1 h;rfl
   | bool _=>rw [iv] at h;subst h;rfl
   | int _ _=>rw [cB] at h;subst h;rfl
   | str _=>rw [jZ] at h;subst h;rfl
 | bM _=>simp only [aC] at h;obtain ⟨_,_,rfl,_⟩:=h;rfl
 | own _ _=>simp only [aC] at h;obtain ⟨_,_,_,h,_⟩:=h;obtain ⟨b,l,c,rfl,_⟩:=cK.1 h;rfl
 | br _ _=>simp only [aC] at h;obtain ⟨_,_,rfl⟩:=h;rfl
 | bE _ _ _ _=>simp only [aC] at h;obtain ⟨_,_,_,rfl,_⟩:=h;rfl
 | fn _ _=>simp only [aC] at h;obtain ⟨_,_,_,rfl,_⟩:=h;rfl
 | jN=>simp only [aC] at h;rcases h with rfl | rfl<;>rfl
 | jO _=>simp only [aC] at h;obtain ⟨_,_,rfl⟩:=h;rfl
 | fF _=>simp only [aC] at h
 | _=>simp [bp] at hl
theorem ka {ρ:cy}:∀{xs:List AV} {vs:List Value},aB ρ G xs vs→xs.all bp=true→∀u∈vs,u.oneCell'=true
 | [],_,h,_,u,hu=>by simp only [aB] at h;subst h;simp at hu
 | x::xs,_,h,hl,u,hu=>by
   simp only [aB] at h;obtain ⟨v,r,rfl,e1,e2⟩:=h;simp only [List.all_cons,Bool.and_eq_true] at hl;simp only [List.mem_cons] at hu;rcases hu with rfl | hu
   · exact DC e1 hl.1
   · exact ka e2 hl.2 u hu
theorem iP {xs:List AV} (h:xs.all dS=true):xs.all bp=true:=by
 rw [List.all_eq_true] at *;intro x hx;have:=h x hx;cases x<;>simp_all [dS,bp,cC]
def Oh (ns:Names) (P:Program) (G:Gh) (w:World) (mem:List (Nat×List AV)) (sh:Sh) (ah:aN) (s:Sem Next) (x:AV):Prop:=
 ∃n v w' G',s.run P w=.ok n w'∧(n=.value v∨(n=.skip∧v=undef))∧aC (num ns) G' x v∧Inv (num ns) G' w' mem sh ah∧G.le G'∧cq G w G' w'
theorem nB {t sz b off:Nat} {v:Value} {c:Array Value} {ty:TypeId} (hsz:cW P t=some sz) (hv:v.cells.size=sz) (hh:w.heap[b]?=some (.cells c ty (0,0)))
   (hl:off+sz≤c.size) (h1:∀u∈v.cells.toList,u.oneCell'=true) :
   (storeVar t ⟨b,off,none⟩ v).run P w=.ok () (w.setRow b (c.toList.take off++v.cells.toList++c.toList.drop (off+v.cells.toList.length)).toArray):=by
 have:=run_storeCells_at (P:=P) b off ty v.cells.toList 0 c w hh (by simp [hv];omega) h1;simp only [Nat.add_zero] at this;simp only [storeVar,Sem.run_bind,dJ hsz,Result.andThen_ok];rw [if_neg (by simp [hv])];simpa using this
theorem ia {t:TypeId} {v:Value}:(newVar t v).run P w=.ok ⟨w.heap.size,0,none⟩ (w.alloc (.cells v.cells t)):=rfl
theorem iQ {ρ:cy}:∀{xs:List AV} {vs:List Value},vs.length=xs.length→(∀(j:Nat) (x:AV) (v:Value),xs[j]?=some x→vs[j]?=some v→aC ρ G x v)→aB ρ G xs vs
 | [],vs,hl,_=>by
   have:vs=[]:=by cases vs<;>simp_all
   subst this;simp [aB]
 | x::xs,[],hl,_=>by simp at hl
 | x::xs,v::vs,hl,h=>by
   simp only [aB];exact ⟨v,vs,rfl,h 0 x v rfl rfl,iQ (by simpa using hl) fun j y u hy hu=>h (j+1) y u (by simpa using hy) (by simpa using hu)⟩
theorem d6 {α:Type} (l:List α):∀(n j:Nat),j<n*l.length→(List.replicate n l).flatten[j]?=l[j % l.length]?
 | 0,j,h=>by simp at h
 | n+1,j,h=>by
   rw [List.replicate_succ,List.flatten_cons];by_cases hj:j<l.length
   · rw [List.getElem?_append_left hj,Nat.mod_eq_of_lt hj]
   · rw [List.getElem?_append_right (by omega),d6 l n (j-l.length) (by rw [Nat.add_mul] at h;omega)];congr 1;exact (Nat.mod_eq_sub_mod (by omega)).symm
theorem tW {n:Int} (h0:0≤n) (h1:n≤9223372036854775807):IntKind.i64.wrap n=n:=by
 unfold IntKind.wrap;have e1:(2:Int) ^ IntKind.i64.bits=18446744073709551616:=by decide
 have e2:(2:Int) ^ (IntKind.i64.bits-1)=9223372036854775808:=by decide
 have e3:IntKind.i64.signed=true:=rfl;simp only [e1,e2,e3];have:n % 18446744073709551616=n:=Int.emod_eq_of_lt h0 (by omega);simp only [this];rw [if_neg];simp;omega
theorem kb {ρ:cy}:∀{l:List Value} {z:List PV},cL d0 l=some z→aB ρ G (z.map .pv) l∧(z.map AV.pv).all dS=true
 | [],_,h=>by simp [cL] at h;subst h;simp [aB]
 | v::l,z,h=>by
   simp only [cL] at h;split at h
   · rename_i y ys h1 h2;simp at h;subst h;obtain ⟨g1,g2⟩:=kb (ρ:=ρ) h2;obtain ⟨g3,g4⟩:=mO (K:=G.K) h1;have g5:dS (.pv y)=true:=by cases y<;>simp_all [dS,bp,eI]
     simp only [List.map_cons,aB,List.all_cons,g5,g2,Bool.and_true,and_true];exact ⟨v,l,rfl,by simp only [aC];exact Rel.Jy g3,g1⟩
   · simp at h
theorem ve (n:Nat) (z:List PV):(z.map AV.pv).all (aW n)=true:=by
 rw [List.all_eq_true];intro x hx;simp only [List.mem_map] at hx;obtain ⟨p,_,rfl⟩:=hx;simp [aW]
theorem DD (n:Nat) (z:List PV):(z.map cf.zeroCell).all (aW n)=true:=by
 rw [List.all_eq_true];intro x hx;simp only [List.mem_map] at hx;obtain ⟨p,_,rfl⟩:=hx;unfold cf.zeroCell;split<;>simp [aW]
end
mutual
theorem pF {n m:Nat} (h:n≤m):∀{x:AV},aW n x=true→aW m x=true
 | .un,_=>by simp [aW]
 | .pv _,_=>by simp [aW]
 | .bM _,_=>by simp [aW]
 | .own ..,_=>by simp [aW]
 | .jN,_=>by simp [aW]
 | .gf _,_=>by simp [aW]
 | .br b _,hx=>by simp [aW] at hx ⊢;omega
 | .bE b _ _ _,hx=>by simp [aW] at hx ⊢;omega
 | .fn _ cap,hx=>by simp only [aW] at hx ⊢;exact ke h hx
 | .agg cs,hx=>by simp only [aW] at hx ⊢;exact ke h hx
 | .aG ..,hx=>by simp [aW] at hx
 | .pg _,hx=>by simp [aW] at hx
 | .jO b,hx=>by simp [aW] at hx ⊢;omega
 | .fF _,_=>by simp [aW]
 | .oA ..,hx=>by simp [aW] at hx
theorem ke {n m:Nat} (h:n≤m):∀{xs:List AV},aW.cX n xs=true→aW.cX m xs=true
 | [],_=>by simp [aW.cX]
 | x::xs,hx=>by
   simp only [aW.cX,Bool.and_eq_true] at hx ⊢;exact ⟨pF h hx.1,ke h hx.2⟩
end
theorem kf {n m:Nat} (h:n≤m) {xs:List AV} (hx:xs.all (aW n)=true):xs.all (aW m)=true:=by
 rw [List.all_eq_true] at *;exact fun x hm=>pF h (hx x hm)
section
variable {P:Program} {ns:Names} {G:Gh} {w:World}
theorem jw {ρ:cy} {k:IntKind} {n:Int} {v:Value} (h:aC ρ G (.pv (.int k n)) v):v=.int k n:=by
 simp only [aC] at h;exact cB.1 h
theorem xa {t e sz by_:Nat} {ag:Bool} {z:List PV} {k k':IntKind} {n:Int} {mem:List (Nat×List AV)} {sh:Sh} {ah:aN} (hu:P.underlying t=some (.slice e)) (hsz:cW P e=some sz)
   (hby:eX P e=some by_) (hz:cT P e=some z) (hzl:z.length=sz) (hs0:0<sz) (h0:0≤n) (h1:n≤9223372036854775807) (h2:n*by_≤140737488355328) (hi:Inv (num ns) G w mem sh ah) :
   ∃v w' G',(Instr.makeSlice t (.int k n) (.int k' n)).run P w=.ok v w'∧aC (num ns) G' (.bE sh.length sz n.toNat ag) v ∧
     Inv (num ns) G' w' mem (sh++[some ((List.replicate n.toNat (z.map .pv)).flatten)]) ah∧G.le G'∧cq G w G' w':=by
 obtain ⟨i,hii,hib,hirun⟩:=lx hby w;obtain ⟨zv,hz1,hz2⟩:=gE (P:=P) (w:=w) hz;have hzs:zv.cells.size=sz:=by have:=gD hz2;simp at this;omega
 obtain ⟨zr,zl⟩:=kb (G:=G) (ρ:=num ns) hz2;let z0:Array Value:=if n.toNat*sz=0 then #[] else zv.cells;let c:Array Value:=(Array.range (n.toNat*sz)).map (z0[· % z0.size]!);have hw:IntKind.i64.wrap n=n:=tW h0 h1;have hbytes:(i.bytes:Int)*n≤281474976710656:=by rw [hib,Int.mul_comm];omega
 have hlen:((List.replicate n.toNat (z.map AV.pv)).flatten).length=n.toNat*sz:=by simp [hzl]
 have hrel:aB (num ns) G ((List.replicate n.toNat (z.map .pv)).flatten) c.toList:=by
   refine iQ (by simp [c,hzl]) fun j x v hx hv=>?_
   have hlt:j<n.toNat*sz:=by have:=(List.getElem?_eq_some_iff.1 hx).1;omega
   rw [d6 _ _ _ (by simpa [hzl] using hlt)] at hx;have hn0:¬n.toNat*sz=0:=by omega
   have hz0:z0=zv.cells:=if_neg hn0;obtain ⟨v',g1,g2⟩:=zr.get hx;have:v=v':=by
     simp only [c,hz0,Array.toList_map,List.getElem?_map,Array.toList_range,Option.map_eq_some_iff] at hv;obtain ⟨j',hj',hv⟩:=hv;rw [List.getElem?_range hlt] at hj';cases hj';simp only [List.length_map,hzl] at g1;rw [hzs] at hv;have hm:j % sz<zv.cells.size:=by rw [hzs];exact Nat.mod_lt _ hs0
     rw [getElem!_pos zv.cells (j % sz) hm] at hv;have g1':zv.cells[j % sz]?=some v':=by simpa using g1
     rw [Array.getElem?_eq_getElem hm] at g1';simp at g1';rw [←hv,g1']
   subst this;exact g2
 have hall:((List.replicate n.toNat (z.map AV.pv)).flatten).all dS=true:=by
   rw [List.all_eq_true] at *;intro x hx;simp only [List.mem_flatten,List.mem_replicate] at hx;obtain ⟨l,⟨_,rfl⟩,hx⟩:=hx;exact zl x hx
 have href:((List.replicate n.toNat (z.map AV.pv)).flatten).all (aW (sh.length+1))=true:=by
   have:=ve (sh.length+1) z;rw [List.all_eq_true] at *;intro x hx;simp only [List.mem_flatten,List.mem_replicate] at hx;obtain ⟨l,⟨_,rfl⟩,hx⟩:=hx;exact this x hx
 obtain ⟨g1,g2,g3⟩:=hi.q_ (cells:=(List.replicate n.toNat (z.map .pv)).flatten) (c:=c) e hrel hall href;refine ⟨.slice (some ⟨w.heap.size,0,none⟩) n.toNat n.toNat,_,_,?_,?_,g1,g2,g3⟩
 · have hp:(2:Int) ^ 48=281474976710656:=(by decide);have ht:(decide (n<0) || decide ((i.bytes:Int)*n > 2 ^ 48))=false:=by
     rw [hp];simp;omega
   have hir:∀w',(typeInfo e).run P w'=.ok i w':=fun w'=>by simp [typeInfo,hii]
   have hcond:¬((decide (n<0) || decide ((i.bytes:Int)*n > 2 ^ 48)) || decide (n<0) || decide (n > n))=true:=by
     rw [ht];simp;omega
   simp only [Instr.makeSlice,Sem.run_bind,run_underlying hu,Result.andThen_ok,asInt,asIntOf,Sem.run_pure,hir,hw];rw [if_neg hcond];simp only [Sem.run_bind,run_askRoom,Result.andThen_ok,dJ hsz];by_cases h00:n.toNat*sz=0
   · rw [if_pos h00];simp only [Sem.run_bind,Sem.run_pure,Result.andThen_ok];have hz0:z0=#[]:=if_pos h00;simp only [c,hz0];rfl
   · rw [if_neg h00];simp only [Sem.run_bind,Sem.run_pure,hz1,Result.andThen_ok];have hz0:z0=zv.cells:=if_neg h00;simp only [c,hz0];rfl
 · simp only [aC];exact ⟨(w.heap.size,c.size),0,by simp [Gh.dQ],rfl,by simp [c]⟩
theorem xd {t e sz by_ d:Nat} {z:List PV} {k k':IntKind} {n:Int} {mem:List (Nat×List AV)} {sh:Sh} {ah:aN} (hu:P.underlying t=some (.slice e)) (hsz:cW P e=some sz)
   (hby:eX P e=some by_) (hz:cT P e=some z) (hzl:z.length=sz) (hs0:0<sz) (h0:0≤n) (h1:n≤9223372036854775807) (h2:n*by_≤140737488355328) (hi:Inv (num ns) G w mem sh ah) (hl:look mem d=none) :
   ∃v w' G',(Instr.makeSlice t (.int k n) (.int k' n)).run P w=.ok v w'∧aC (num ns) G' (.jP d n.toNat) v ∧
     Inv (num ns) G' w' (dO mem d ((List.replicate n.toNat (z.map .pv)).flatten)) sh ah∧G.le G'∧cq G w G' w':=by
 obtain ⟨i,hii,hib,hirun⟩:=lx hby w;obtain ⟨zv,hz1,hz2⟩:=gE (P:=P) (w:=w) hz;have hzs:zv.cells.size=sz:=by have:=gD hz2;simp at this;omega
 obtain ⟨zr,zl⟩:=kb (G:=G) (ρ:=num ns) hz2;let z0:Array Value:=if n.toNat*sz=0 then #[] else zv.cells;let c:Array Value:=(Array.range (n.toNat*sz)).map (z0[· % z0.size]!);have hw:IntKind.i64.wrap n=n:=tW h0 h1;have hbytes:(i.bytes:Int)*n≤281474976710656:=by rw [hib,Int.mul_comm];omega
 have hlen:((List.replicate n.toNat (z.map AV.pv)).flatten).length=n.toNat*sz:=by simp [hzl]
 have hrel:aB (num ns) G ((List.replicate n.toNat (z.map .pv)).flatten) c.toList:=by
   refine iQ (by simp [c,hzl]) fun j x v hx hv=>?_
   have hlt:j<n.toNat*sz:=by have:=(List.getElem?_eq_some_iff.1 hx).1;omega
   rw [d6 _ _ _ (by simpa [hzl] using hlt)] at hx;have hn0:¬n.toNat*sz=0:=by omega
   have hz0:z0=zv.cells:=if_neg hn0;obtain ⟨v',g1,g2⟩:=zr.get hx;have:v=v':=by
     simp only [c,hz0,Array.toList_map,List.getElem?_map,Array.toList_range,Option.map_eq_some_iff] at hv;obtain ⟨j',hj',hv⟩:=hv;rw [List.getElem?_range hlt] at hj';cases hj';simp only [List.length_map,hzl] at g1;rw [hzs] at hv;have hm:j % sz<zv.cells.size:=by rw [hzs];exact Nat.mod_lt _ hs0
     rw [getElem!_pos zv.cells (j % sz) hm] at hv;have g1':zv.cells[j % sz]?=some v':=by simpa using g1
     rw [Array.getElem?_eq_getElem hm] at g1';simp at g1';rw [←hv,g1']
   subst this;exact g2
 have hall:((List.replicate n.toNat (z.map AV.pv)).flatten).all dS=true:=by
   rw [List.all_eq_true] at *;intro x hx;simp only [List.mem_flatten,List.mem_replicate] at hx;obtain ⟨l,⟨_,rfl⟩,hx⟩:=hx;exact zl x hx
 obtain ⟨g1,g2,g3⟩:=hi.oF (d:=d) (cells:=(List.replicate n.toNat (z.map .pv)).flatten) (c:=c) e hl hrel (iP hall);refine ⟨.slice (some ⟨w.heap.size,0,none⟩) n.toNat n.toNat,_,_,?_,?_,g1,g2,g3⟩
 · have hp:(2:Int) ^ 48=281474976710656:=(by decide);have ht:(decide (n<0) || decide ((i.bytes:Int)*n > 2 ^ 48))=false:=by
     rw [hp];simp;omega
   have hir:∀w',(typeInfo e).run P w'=.ok i w':=fun w'=>by simp [typeInfo,hii]
   have hcond:¬((decide (n<0) || decide ((i.bytes:Int)*n > 2 ^ 48)) || decide (n<0) || decide (n > n))=true:=by
     rw [ht];simp;omega
   simp only [Instr.makeSlice,Sem.run_bind,run_underlying hu,Result.andThen_ok,asInt,asIntOf,Sem.run_pure,hir,hw];rw [if_neg hcond];simp only [Sem.run_bind,run_askRoom,Result.andThen_ok,dJ hsz];by_cases h00:n.toNat*sz=0
   · rw [if_pos h00];simp only [Sem.run_bind,Sem.run_pure,Result.andThen_ok];have hz0:z0=#[]:=if_pos h00;simp only [c,hz0];rfl
   · rw [if_neg h00];simp only [Sem.run_bind,Sem.run_pure,hz1,Result.andThen_ok];have hz0:z0=zv.cells:=if_neg h00;simp only [c,hz0];rfl
 · simp only [aC];exact ⟨w.heap.size,by simp [Gh.dD],rfl⟩
end
end Go.Ab
