import Derived.Test.YtcjggpmnbcfedaaGreatDoorAbOps9
/-
  The operations with memory that call nothing.
-/
set_option linter.unusedVariables false
set_option linter.unusedSimpArgs false
set_option linter.unnecessarySimpa false
set_option maxRecDepth 100000
set_option maxHeartbeats 8000000
namespace Go.Ab
section
variable {P:Program} {ns:Names} {G:Gh} {w:World}
theorem Fz {ρ:cr} {x:AV} {v:Value} (h:au ρ G x v) (hl:bm x=true):v.oneCell'=true:=by
 cases x with
 | pv p=>
   simp only [au] at h
   cases p with
   | agg _=>simp [bm] at hl
   | aE _=>obtain ⟨b,l,c,rfl,_⟩:=cC.1 h;rfl
   | bool _=>rw [fU] at h;subst h;rfl
   | int _ _=>rw [cD] at h;subst h;rfl
   | str _=>rw [jK] at h;subst h;rfl
 | bJ _=>simp only [au] at h;obtain ⟨_,_,rfl,_⟩:=h;rfl
 | own _ _=>simp only [au] at h;obtain ⟨_,_,_,h,_⟩:=h;obtain ⟨b,l,c,rfl,_⟩:=cC.1 h;rfl
 | aZ _ _=>simp only [au] at h;obtain ⟨_,_,rfl⟩:=h;rfl
 | bz _ _ _ _=>simp only [au] at h;obtain ⟨_,_,_,rfl,_⟩:=h;rfl
 | fn _ _=>simp only [au] at h;obtain ⟨_,_,_,rfl,_⟩:=h;rfl
 | dS=>simp only [au] at h;rcases h with rfl | rfl<;>rfl
 | dj _=>simp only [au] at h;obtain ⟨_,_,rfl⟩:=h;rfl
 | dQ _=>simp only [au] at h
 | _=>simp [bm] at hl
theorem js {ρ:cr}:∀{xs:List AV} {vs:List Value},aw ρ G xs vs→xs.all bm=true→∀u∈vs,u.oneCell'=true
 | [],_,h,_,u,hu=>by simp only [aw] at h;subst h;simp at hu
 | x::xs,_,h,hl,u,hu=>by
   simp only [aw] at h
   obtain ⟨v,r,rfl,e1,e2⟩:=h
   simp only [List.all_cons,Bool.and_eq_true] at hl
   simp only [List.mem_cons] at hu
   rcases hu with rfl | hu
   · exact Fz e1 hl.1
   · exact js e2 hl.2 u hu
theorem gI {xs:List AV} (h:xs.all dv=true):xs.all bm=true:=by
 rw [List.all_eq_true] at *
 intro x hx
 have:=h x hx
 cases x<;>simp_all [dv,bm,bV]
def Ri (ns:Names) (P:Program) (G:Gh) (w:World) (mem:List (Nat×List AV)) (sh:Sh) (ae:aH) (s:Sem Next) (x:AV):Prop:=
 ∃n v w' G',s.run P w=.ok n w'∧(n=.value v∨(n=.skip∧v=undef))∧au (num ns) G' x v∧Inv (num ns) G' w' mem sh ae∧G.le G'∧bZ G w G' w'
theorem kI {t sz b off:Nat} {v:Value} {c:Array Value} {ty:TypeId} (hsz:cR P t=some sz) (hv:v.cells.size=sz) (hh:w.heap[b]?=some (.cells c ty (0,0)))
   (hl:off+sz≤c.size) (h1:∀u∈v.cells.toList,u.oneCell'=true) :
   (storeVar t ⟨b,off,none⟩ v).run P w=.ok () (w.setRow b (c.toList.take off++v.cells.toList++c.toList.drop (off+v.cells.toList.length)).toArray):=by
 have:=run_storeCells_at (P:=P) b off ty v.cells.toList 0 c w hh (by simp [hv];omega) h1
 simp only [Nat.add_zero] at this
 simp only [storeVar,Sem.run_bind,dV hsz,Result.andThen_ok]
 rw [if_neg (by simp [hv])]
 simpa using this
theorem gK {t:TypeId} {v:Value}:(newVar t v).run P w=.ok ⟨w.heap.size,0,none⟩ (w.alloc (.cells v.cells t)):=rfl
theorem jc {ρ:cr}:∀{xs:List AV} {vs:List Value},vs.length=xs.length→(∀(j:Nat) (x:AV) (v:Value),xs[j]?=some x→vs[j]?=some v→au ρ G x v)→aw ρ G xs vs
 | [],vs,hl,_=>by
   have:vs=[]:=by cases vs<;>simp_all
   subst this;simp [aw]
 | x::xs,[],hl,_=>by simp at hl
 | x::xs,v::vs,hl,h=>by
   simp only [aw]
   exact ⟨v,vs,rfl,h 0 x v rfl rfl,jc (by simpa using hl) fun j y u hy hu=>h (j+1) y u (by simpa using hy) (by simpa using hu)⟩
theorem ee {α:Type} (l:List α):∀(n j:Nat),j<n*l.length→(List.replicate n l).flatten[j]?=l[j % l.length]?
 | 0,j,h=>by simp at h
 | n+1,j,h=>by
   rw [List.replicate_succ,List.flatten_cons]
   by_cases hj:j<l.length
   · rw [List.getElem?_append_left hj,Nat.mod_eq_of_lt hj]
   · rw [List.getElem?_append_right (by omega),ee l n (j-l.length) (by rw [Nat.add_mul] at h;omega)]
     congr 1
     exact (Nat.mod_eq_sub_mod (by omega)).symm
theorem uN {n:Int} (h0:0≤n) (h1:n≤9223372036854775807):IntKind.i64.wrap n=n:=by
 unfold IntKind.wrap
 have e1:(2:Int) ^ IntKind.i64.bits=18446744073709551616:=by decide
 have e2:(2:Int) ^ (IntKind.i64.bits-1)=9223372036854775808:=by decide
 have e3:IntKind.i64.signed=true:=rfl
 simp only [e1,e2,e3]
 have:n % 18446744073709551616=n:=Int.emod_eq_of_lt h0 (by omega)
 simp only [this]
 rw [if_neg]
 simp;omega
theorem kJ {ρ:cr}:∀{l:List Value} {z:List PV},cH dZ l=some z→aw ρ G (z.map .pv) l∧(z.map AV.pv).all dv=true
 | [],_,h=>by simp [cH] at h;subst h;simp [aw]
 | v::l,z,h=>by
   simp only [cH] at h
   split at h
   · rename_i y ys h1 h2
     simp at h;subst h
     obtain ⟨g1,g2⟩:=kJ (ρ:=ρ) h2
     obtain ⟨g3,g4⟩:=jn (K:=G.K) h1
     have g5:dv (.pv y)=true:=by cases y<;>simp_all [dv,bm,eA]
     simp only [List.map_cons,aw,List.all_cons,g5,g2,Bool.and_true,and_true]
     exact ⟨v,l,rfl,by simp only [au];exact Rel.Ja g3,g1⟩
   · simp at h
theorem wh (n:Nat) (z:List PV):(z.map AV.pv).all (aM n)=true:=by
 rw [List.all_eq_true]
 intro x hx
 simp only [List.mem_map] at hx
 obtain ⟨p,_,rfl⟩:=hx
 simp [aM]
theorem FA (n:Nat) (z:List PV):(z.map bW.zeroCell).all (aM n)=true:=by
 rw [List.all_eq_true]
 intro x hx
 simp only [List.mem_map] at hx
 obtain ⟨p,_,rfl⟩:=hx
 unfold bW.zeroCell
 split<;>simp [aM]
end
mutual
theorem qz {n m:Nat} (h:n≤m):∀{x:AV},aM n x=true→aM m x=true
 | .un,_=>by simp [aM]
 | .pv _,_=>by simp [aM]
 | .bJ _,_=>by simp [aM]
 | .own ..,_=>by simp [aM]
 | .dS,_=>by simp [aM]
 | .dG _,_=>by simp [aM]
 | .aZ b _,hx=>by simp [aM] at hx ⊢;omega
 | .bz b _ _ _,hx=>by simp [aM] at hx ⊢;omega
 | .fn _ cap,hx=>by simp only [aM] at hx ⊢;exact kK h hx
 | .agg cs,hx=>by simp only [aM] at hx ⊢;exact kK h hx
 | .aB ..,hx=>by simp [aM] at hx
 | .nf _,hx=>by simp [aM] at hx
 | .dj b,hx=>by simp [aM] at hx ⊢;omega
 | .dQ _,_=>by simp [aM]
 | .nv ..,hx=>by simp [aM] at hx
theorem kK {n m:Nat} (h:n≤m):∀{xs:List AV},aM.cU n xs=true→aM.cU m xs=true
 | [],_=>by simp [aM.cU]
 | x::xs,hx=>by
   simp only [aM.cU,Bool.and_eq_true] at hx ⊢
   exact ⟨qz h hx.1,kK h hx.2⟩
end
theorem jd {n m:Nat} (h:n≤m) {xs:List AV} (hx:xs.all (aM n)=true):xs.all (aM m)=true:=by
 rw [List.all_eq_true] at *
 exact fun x hm=>qz h (hx x hm)
section
variable {P:Program} {ns:Names} {G:Gh} {w:World}
theorem jQ {ρ:cr} {k:IntKind} {n:Int} {v:Value} (h:au ρ G (.pv (.int k n)) v):v=.int k n:=by
 simp only [au] at h;exact cD.1 h
theorem ye {t e sz by_:Nat} {ag:Bool} {z:List PV} {k k':IntKind} {n:Int} {mem:List (Nat×List AV)} {sh:Sh} {ae:aH} (hu:P.underlying t=some (.slice e)) (hsz:cR P e=some sz)
   (hby:eD P e=some by_) (hz:cO P e=some z) (hzl:z.length=sz) (hs0:0<sz) (h0:0≤n) (h1:n≤9223372036854775807) (h2:n*by_≤140737488355328) (hi:Inv (num ns) G w mem sh ae) :
   ∃v w' G',(Instr.makeSlice t (.int k n) (.int k' n)).run P w=.ok v w'∧au (num ns) G' (.bz sh.length sz n.toNat ag) v ∧
     Inv (num ns) G' w' mem (sh++[some ((List.replicate n.toNat (z.map .pv)).flatten)]) ae∧G.le G'∧bZ G w G' w':=by
 obtain ⟨i,hii,hib,hirun⟩:=lZ hby w
 obtain ⟨zv,hz1,hz2⟩:=gP (P:=P) (w:=w) hz
 have hzs:zv.cells.size=sz:=by have:=gO hz2;simp at this;omega
 obtain ⟨zr,zl⟩:=kJ (G:=G) (ρ:=num ns) hz2
 let z0:Array Value:=if n.toNat*sz=0 then #[] else zv.cells
 let c:Array Value:=(Array.range (n.toNat*sz)).map (z0[· % z0.size]!)
 have hw:IntKind.i64.wrap n=n:=uN h0 h1
 have hbytes:(i.bytes:Int)*n≤281474976710656:=by rw [hib,Int.mul_comm];omega
 have hlen:((List.replicate n.toNat (z.map AV.pv)).flatten).length=n.toNat*sz:=by simp [hzl]
 have hrel:aw (num ns) G ((List.replicate n.toNat (z.map .pv)).flatten) c.toList:=by
   refine jc (by simp [c,hzl]) fun j x v hx hv=>?_
   have hlt:j<n.toNat*sz:=by have:=(List.getElem?_eq_some_iff.1 hx).1;omega
   rw [ee _ _ _ (by simpa [hzl] using hlt)] at hx
   have hn0:¬n.toNat*sz=0:=by omega
   have hz0:z0=zv.cells:=if_neg hn0
   obtain ⟨v',g1,g2⟩:=zr.get hx
   have:v=v':=by
     simp only [c,hz0,Array.toList_map,List.getElem?_map,Array.toList_range,Option.map_eq_some_iff] at hv
     obtain ⟨j',hj',hv⟩:=hv
     rw [List.getElem?_range hlt] at hj'
     cases hj'
     simp only [List.length_map,hzl] at g1
     rw [hzs] at hv
     have hm:j % sz<zv.cells.size:=by rw [hzs];exact Nat.mod_lt _ hs0
     rw [getElem!_pos zv.cells (j % sz) hm] at hv
     have g1':zv.cells[j % sz]?=some v':=by simpa using g1
     rw [Array.getElem?_eq_getElem hm] at g1'
     simp at g1'
     rw [←hv,g1']
   subst this
   exact g2
 have hall:((List.replicate n.toNat (z.map AV.pv)).flatten).all dv=true:=by
   rw [List.all_eq_true] at *
   intro x hx
   simp only [List.mem_flatten,List.mem_replicate] at hx
   obtain ⟨l,⟨_,rfl⟩,hx⟩:=hx
   exact zl x hx
 have href:((List.replicate n.toNat (z.map AV.pv)).flatten).all (aM (sh.length+1))=true:=by
   have:=wh (sh.length+1) z
   rw [List.all_eq_true] at *
   intro x hx
   simp only [List.mem_flatten,List.mem_replicate] at hx
   obtain ⟨l,⟨_,rfl⟩,hx⟩:=hx
   exact this x hx
 obtain ⟨g1,g2,g3⟩:=hi.oG (cells:=(List.replicate n.toNat (z.map .pv)).flatten) (c:=c) e hrel hall href
 refine ⟨.slice (some ⟨w.heap.size,0,none⟩) n.toNat n.toNat,_,_,?_,?_,g1,g2,g3⟩
 · have hp:(2:Int) ^ 48=281474976710656:=by decide
   have ht:(decide (n<0) || decide ((i.bytes:Int)*n > 2 ^ 48))=false:=by
     rw [hp];simp;omega
   have hir:∀w',(typeInfo e).run P w'=.ok i w':=fun w'=>by simp [typeInfo,hii]
   have hcond:¬((decide (n<0) || decide ((i.bytes:Int)*n > 2 ^ 48)) || decide (n<0) || decide (n > n))=true:=by
     rw [ht];simp;omega
   simp only [Instr.makeSlice,Sem.run_bind,run_underlying hu,Result.andThen_ok,asInt,asIntOf,Sem.run_pure,hir,hw]
   rw [if_neg hcond]
   simp only [Sem.run_bind,run_askRoom,Result.andThen_ok,dV hsz]
   by_cases h00:n.toNat*sz=0
   · rw [if_pos h00]
     simp only [Sem.run_bind,Sem.run_pure,Result.andThen_ok]
     have hz0:z0=#[]:=if_pos h00
     simp only [c,hz0]
     rfl
   · rw [if_neg h00]
     simp only [Sem.run_bind,Sem.run_pure,hz1,Result.andThen_ok]
     have hz0:z0=zv.cells:=if_neg h00
     simp only [c,hz0]
     rfl
 · simp only [au]
   exact ⟨(w.heap.size,c.size),0,by simp [Gh.dq],rfl,by simp [c]⟩
theorem yg {t e sz by_ d:Nat} {z:List PV} {k k':IntKind} {n:Int} {mem:List (Nat×List AV)} {sh:Sh} {ae:aH} (hu:P.underlying t=some (.slice e)) (hsz:cR P e=some sz)
   (hby:eD P e=some by_) (hz:cO P e=some z) (hzl:z.length=sz) (hs0:0<sz) (h0:0≤n) (h1:n≤9223372036854775807) (h2:n*by_≤140737488355328) (hi:Inv (num ns) G w mem sh ae) (hl:look mem d=none) :
   ∃v w' G',(Instr.makeSlice t (.int k n) (.int k' n)).run P w=.ok v w'∧au (num ns) G' (.ji d n.toNat) v ∧
     Inv (num ns) G' w' (dt mem d ((List.replicate n.toNat (z.map .pv)).flatten)) sh ae∧G.le G'∧bZ G w G' w':=by
 obtain ⟨i,hii,hib,hirun⟩:=lZ hby w
 obtain ⟨zv,hz1,hz2⟩:=gP (P:=P) (w:=w) hz
 have hzs:zv.cells.size=sz:=by have:=gO hz2;simp at this;omega
 obtain ⟨zr,zl⟩:=kJ (G:=G) (ρ:=num ns) hz2
 let z0:Array Value:=if n.toNat*sz=0 then #[] else zv.cells
 let c:Array Value:=(Array.range (n.toNat*sz)).map (z0[· % z0.size]!)
 have hw:IntKind.i64.wrap n=n:=uN h0 h1
 have hbytes:(i.bytes:Int)*n≤281474976710656:=by rw [hib,Int.mul_comm];omega
 have hlen:((List.replicate n.toNat (z.map AV.pv)).flatten).length=n.toNat*sz:=by simp [hzl]
 have hrel:aw (num ns) G ((List.replicate n.toNat (z.map .pv)).flatten) c.toList:=by
   refine jc (by simp [c,hzl]) fun j x v hx hv=>?_
   have hlt:j<n.toNat*sz:=by have:=(List.getElem?_eq_some_iff.1 hx).1;omega
   rw [ee _ _ _ (by simpa [hzl] using hlt)] at hx
   have hn0:¬n.toNat*sz=0:=by omega
   have hz0:z0=zv.cells:=if_neg hn0
   obtain ⟨v',g1,g2⟩:=zr.get hx
   have:v=v':=by
     simp only [c,hz0,Array.toList_map,List.getElem?_map,Array.toList_range,Option.map_eq_some_iff] at hv
     obtain ⟨j',hj',hv⟩:=hv
     rw [List.getElem?_range hlt] at hj'
     cases hj'
     simp only [List.length_map,hzl] at g1
     rw [hzs] at hv
     have hm:j % sz<zv.cells.size:=by rw [hzs];exact Nat.mod_lt _ hs0
     rw [getElem!_pos zv.cells (j % sz) hm] at hv
     have g1':zv.cells[j % sz]?=some v':=by simpa using g1
     rw [Array.getElem?_eq_getElem hm] at g1'
     simp at g1'
     rw [←hv,g1']
   subst this
   exact g2
 have hall:((List.replicate n.toNat (z.map AV.pv)).flatten).all dv=true:=by
   rw [List.all_eq_true] at *
   intro x hx
   simp only [List.mem_flatten,List.mem_replicate] at hx
   obtain ⟨l,⟨_,rfl⟩,hx⟩:=hx
   exact zl x hx
 obtain ⟨g1,g2,g3⟩:=hi.pI (d:=d) (cells:=(List.replicate n.toNat (z.map .pv)).flatten) (c:=c) e hl hrel (gI hall)
 refine ⟨.slice (some ⟨w.heap.size,0,none⟩) n.toNat n.toNat,_,_,?_,?_,g1,g2,g3⟩
 · have hp:(2:Int) ^ 48=281474976710656:=by decide
   have ht:(decide (n<0) || decide ((i.bytes:Int)*n > 2 ^ 48))=false:=by
     rw [hp];simp;omega
   have hir:∀w',(typeInfo e).run P w'=.ok i w':=fun w'=>by simp [typeInfo,hii]
   have hcond:¬((decide (n<0) || decide ((i.bytes:Int)*n > 2 ^ 48)) || decide (n<0) || decide (n > n))=true:=by
     rw [ht];simp;omega
   simp only [Instr.makeSlice,Sem.run_bind,run_underlying hu,Result.andThen_ok,asInt,asIntOf,Sem.run_pure,hir,hw]
   rw [if_neg hcond]
   simp only [Sem.run_bind,run_askRoom,Result.andThen_ok,dV hsz]
   by_cases h00:n.toNat*sz=0
   · rw [if_pos h00]
     simp only [Sem.run_bind,Sem.run_pure,Result.andThen_ok]
     have hz0:z0=#[]:=if_pos h00
     simp only [c,hz0]
     rfl
   · rw [if_neg h00]
     simp only [Sem.run_bind,Sem.run_pure,hz1,Result.andThen_ok]
     have hz0:z0=zv.cells:=if_neg h00
     simp only [c,hz0]
     rfl
 · simp only [au]
   exact ⟨w.heap.size,by simp [Gh.d0],rfl⟩
end
end Go.Ab
