import Derived.Test.YtfhhognolpjikaaAbOps9
/-
  The operations with memory that call nothing.
-/
set_option linter.unusedVariables false
set_option linter.unusedSimpArgs false
set_option maxRecDepth 100000
set_option maxHeartbeats 8000000
namespace Go.Ab
section
variable {P:Program} {ns:Names} {G:Gh} {w:World}
theorem xK {ρ:bI} {x:AV} {v:Value} (h:aq ρ G x v) (hl:aP x=true):v.oneCell'=true:=by
 cases x with
 | pv p=>
   simp only [aq] at h
   cases p with
   | agg _=>simp [aP] at hl
   | aI _=>obtain ⟨b,l,c,rfl,_⟩:=bO.1 h;rfl
   | bool _=>rw [ed] at h;subst h;rfl
   | int _ _=>rw [en] at h;subst h;rfl
   | str _=>rw [gL] at h;subst h;rfl
 | bR _=>simp only [aq] at h;obtain ⟨_,_,rfl,_⟩:=h;rfl
 | own _ _=>simp only [aq] at h;obtain ⟨_,_,_,h,_⟩:=h;obtain ⟨b,l,c,rfl,_⟩:=bO.1 h;rfl
 | ba _ _=>simp only [aq] at h;obtain ⟨_,_,rfl⟩:=h;rfl
 | bd _ _ _ _=>simp only [aq] at h;obtain ⟨_,_,_,rfl,_⟩:=h;rfl
 | fn _ _=>simp only [aq] at h;obtain ⟨_,_,_,rfl,_⟩:=h;rfl
 | cM=>simp only [aq] at h;rcases h with rfl | rfl<;>rfl
 | ck _=>simp only [aq] at h;obtain ⟨_,_,rfl⟩:=h;rfl
 | da _=>simp only [aq] at h
 | _=>simp [aP] at hl
theorem iq {ρ:bI}:∀{xs:List AV} {vs:List Value},al ρ G xs vs→xs.all aP=true→∀u∈vs,u.oneCell'=true
 | [],_,h,_,u,hu=>by simp only [al] at h;subst h;simp at hu
 | x::xs,_,h,hl,u,hu=>by
   simp only [al] at h
   obtain ⟨v,r,rfl,e1,e2⟩:=h
   simp only [List.all_cons,Bool.and_eq_true] at hl
   simp only [List.mem_cons] at hu
   rcases hu with rfl | hu
   · exact xK e1 hl.1
   · exact iq e2 hl.2 u hu
theorem jo {xs:List AV} (h:xs.all dq=true):xs.all aP=true:=by
 rw [List.all_eq_true] at *
 intro x hx
 have:=h x hx
 cases x<;>simp_all [dq,aP,br]
def GK (ns:Names) (P:Program) (G:Gh) (w:World) (mem:List (Nat×List AV)) (sh:Sh) (aa:au) (s:Sem Next) (x:AV):Prop:=
 ∃n v w' G',s.run P w=.ok n w'∧(n=.value v∨(n=.skip∧v=undef))∧aq (num ns) G' x v∧Inv (num ns) G' w' mem sh aa∧G.le G'∧bJ G w G' w'
theorem kz {t sz b off:Nat} {v:Value} {c:Array Value} {ty:TypeId} (hsz:cD P t=some sz) (hv:v.cells.size=sz) (hh:w.heap[b]?=some (.cells c ty (0,0)))
   (hl:off+sz≤c.size) (h1:∀u∈v.cells.toList,u.oneCell'=true) :
   (storeVar t ⟨b,off,none⟩ v).run P w=.ok () (w.setRow b (c.toList.take off++v.cells.toList++c.toList.drop (off+v.cells.toList.length)).toArray):=by
 have:=run_storeCells_at (P:=P) b off ty v.cells.toList 0 c w hh (by simp [hv];omega) h1
 simp only [Nat.add_zero] at this
 simp only [storeVar,Sem.run_bind,df hsz,Result.andThen_ok]
 rw [if_neg (by simp [hv])]
 simpa using this
theorem ir {t:TypeId} {v:Value}:(newVar t v).run P w=.ok ⟨w.heap.size,0,none⟩ (w.alloc (.cells v.cells t)):=rfl
theorem iu {ρ:bI}:∀{xs:List AV} {vs:List Value},vs.length=xs.length→(∀(j:Nat) (x:AV) (v:Value),xs[j]?=some x→vs[j]?=some v→aq ρ G x v)→al ρ G xs vs
 | [],vs,hl,_=>by
   have:vs=[]:=by cases vs<;>simp_all
   subst this;simp [al]
 | x::xs,[],hl,_=>by simp at hl
 | x::xs,v::vs,hl,h=>by
   simp only [al]
   exact ⟨v,vs,rfl,h 0 x v rfl rfl,iu (by simpa using hl) fun j y u hy hu=>h (j+1) y u (by simpa using hy) (by simpa using hu)⟩
theorem dW {α:Type} (l:List α):∀(n j:Nat),j<n*l.length→(List.replicate n l).flatten[j]?=l[j % l.length]?
 | 0,j,h=>by simp at h
 | n+1,j,h=>by
   rw [List.replicate_succ,List.flatten_cons]
   by_cases hj:j<l.length
   · rw [List.getElem?_append_left hj,Nat.mod_eq_of_lt hj]
   · rw [List.getElem?_append_right (by omega),dW l n (j-l.length) (by rw [Nat.add_mul] at h;omega)]
     congr 1
     exact (Nat.mod_eq_sub_mod (by omega)).symm
theorem xL {n:Int} (h0:0≤n) (h1:n≤9223372036854775807):IntKind.i64.wrap n=n:=by
 unfold IntKind.wrap
 have e1:(2:Int) ^ IntKind.i64.bits=18446744073709551616:=by decide
 have e2:(2:Int) ^ (IntKind.i64.bits-1)=9223372036854775808:=by decide
 have e3:IntKind.i64.signed=true:=rfl
 simp only [e1,e2,e3]
 have:n % 18446744073709551616=n:=Int.emod_eq_of_lt h0 (by omega)
 simp only [this]
 rw [if_neg]
 simp;omega
theorem jW {ρ:bI}:∀{l:List Value} {z:List PV},cX cW l=some z→al ρ G (z.map .pv) l∧(z.map AV.pv).all dq=true
 | [],_,h=>by simp [cX] at h;subst h;simp [al]
 | v::l,z,h=>by
   simp only [cX] at h
   split at h
   · rename_i y ys h1 h2
     simp at h;subst h
     obtain ⟨g1,g2⟩:=jW (ρ:=ρ) h2
     obtain ⟨g3,g4⟩:=gv (K:=G.K) h1
     have g5:dq (.pv y)=true:=by cases y<;>simp_all [dq,aP,fX]
     simp only [List.map_cons,al,List.all_cons,g5,g2,Bool.and_true,and_true]
     exact ⟨v,l,rfl,by simp only [aq];exact Rel.AN g3,g1⟩
   · simp at h
theorem xa (n:Nat) (z:List PV):(z.map AV.pv).all (az n)=true:=by
 rw [List.all_eq_true]
 intro x hx
 simp only [List.mem_map] at hx
 obtain ⟨p,_,rfl⟩:=hx
 simp [az]
theorem xM (n:Nat) (z:List PV):(z.map bq.zeroCell).all (az n)=true:=by
 rw [List.all_eq_true]
 intro x hx
 simp only [List.mem_map] at hx
 obtain ⟨p,_,rfl⟩:=hx
 unfold bq.zeroCell
 split<;>simp [az]
end
mutual
theorem lR {n m:Nat} (h:n≤m):∀{x:AV},az n x=true→az m x=true
 | .un,_=>by simp [az]
 | .pv _,_=>by simp [az]
 | .bR _,_=>by simp [az]
 | .own ..,_=>by simp [az]
 | .cM,_=>by simp [az]
 | .cQ _,_=>by simp [az]
 | .ba b _,hx=>by simp [az] at hx ⊢;omega
 | .bd b _ _ _,hx=>by simp [az] at hx ⊢;omega
 | .fn _ cap,hx=>by simp only [az] at hx ⊢;exact iv h hx
 | .agg cs,hx=>by simp only [az] at hx ⊢;exact iv h hx
 | .aT ..,hx=>by simp [az] at hx
 | .jH _,hx=>by simp [az] at hx
 | .ck b,hx=>by simp [az] at hx ⊢;omega
 | .da _,_=>by simp [az]
 | .jS ..,hx=>by simp [az] at hx
theorem iv {n m:Nat} (h:n≤m):∀{xs:List AV},az.bZ n xs=true→az.bZ m xs=true
 | [],_=>by simp [az.bZ]
 | x::xs,hx=>by
   simp only [az.bZ,Bool.and_eq_true] at hx ⊢
   exact ⟨lR h hx.1,iv h hx.2⟩
end
theorem iw {n m:Nat} (h:n≤m) {xs:List AV} (hx:xs.all (az n)=true):xs.all (az m)=true:=by
 rw [List.all_eq_true] at *
 exact fun x hm=>lR h (hx x hm)
section
variable {P:Program} {ns:Names} {G:Gh} {w:World}
theorem lS {ρ:bI} {k:IntKind} {n:Int} {v:Value} (h:aq ρ G (.pv (.int k n)) v):v=.int k n:=by
 simp only [aq] at h;exact en.1 h
theorem qJ {t e sz by_:Nat} {ag:Bool} {z:List PV} {k k':IntKind} {n:Int} {mem:List (Nat×List AV)} {sh:Sh} {aa:au} (hu:P.underlying t=some (.slice e)) (hsz:cD P e=some sz)
   (hby:ei P e=some by_) (hz:cd P e=some z) (hzl:z.length=sz) (hs0:0<sz) (h0:0≤n) (h1:n≤9223372036854775807) (h2:n*by_≤140737488355328) (hi:Inv (num ns) G w mem sh aa) :
   ∃v w' G',(Instr.makeSlice t (.int k n) (.int k' n)).run P w=.ok v w'∧aq (num ns) G' (.bd sh.length sz n.toNat ag) v ∧
     Inv (num ns) G' w' mem (sh++[some ((List.replicate n.toNat (z.map .pv)).flatten)]) aa∧G.le G'∧bJ G w G' w':=by
 obtain ⟨i,hii,hib,hirun⟩:=lF hby w
 obtain ⟨zv,hz1,hz2⟩:=fq (P:=P) (w:=w) hz
 have hzs:zv.cells.size=sz:=by have:=fH hz2;simp at this;omega
 obtain ⟨zr,zl⟩:=jW (G:=G) (ρ:=num ns) hz2
 let z0:Array Value:=if n.toNat*sz=0 then #[] else zv.cells
 let c:Array Value:=(Array.range (n.toNat*sz)).map (z0[· % z0.size]!)
 have hw:IntKind.i64.wrap n=n:=xL h0 h1
 have hbytes:(i.bytes:Int)*n≤281474976710656:=by rw [hib,Int.mul_comm];omega
 have hlen:((List.replicate n.toNat (z.map AV.pv)).flatten).length=n.toNat*sz:=by simp [hzl]
 have hrel:al (num ns) G ((List.replicate n.toNat (z.map .pv)).flatten) c.toList:=by
   refine iu (by simp [c,hzl]) fun j x v hx hv=>?_
   have hlt:j<n.toNat*sz:=by have:=(List.getElem?_eq_some_iff.1 hx).1;omega
   rw [dW _ _ _ (by simpa [hzl] using hlt)] at hx
   have hn0:¬n.toNat*sz=0:=by omega
   have hz0:z0=zv.cells:=if_neg hn0
   obtain ⟨v',g1,g2⟩:=zr.get hx
   have:v=v':=by
     simp only [c,hz0,Array.toList_map,List.getElem?_map,Array.toList_range,Option.map_eq_some_iff] at hv
     obtain ⟨j',hj',hv⟩:=hv
     rw [List.getElem?_range hlt] at hj'
     cases hj'
     simp only [List.length_map,hzl] at g1
     rw [hzs] at hv
     have hm:j % sz<zv.cells.size:=by rw [hzs];exact Nat.mod_lt _ hs0
     rw [getElem!_pos zv.cells (j % sz) hm] at hv
     have g1':zv.cells[j % sz]?=some v':=by simpa using g1
     rw [Array.getElem?_eq_getElem hm] at g1'
     simp at g1'
     rw [←hv,g1']
   subst this
   exact g2
 have hall:((List.replicate n.toNat (z.map AV.pv)).flatten).all dq=true:=by
   rw [List.all_eq_true] at *
   intro x hx
   simp only [List.mem_flatten,List.mem_replicate] at hx
   obtain ⟨l,⟨_,rfl⟩,hx⟩:=hx
   exact zl x hx
 have href:((List.replicate n.toNat (z.map AV.pv)).flatten).all (az (sh.length+1))=true:=by
   have:=xa (sh.length+1) z
   rw [List.all_eq_true] at *
   intro x hx
   simp only [List.mem_flatten,List.mem_replicate] at hx
   obtain ⟨l,⟨_,rfl⟩,hx⟩:=hx
   exact this x hx
 obtain ⟨g1,g2,g3⟩:=hi.mS (cells:=(List.replicate n.toNat (z.map .pv)).flatten) (c:=c) e hrel hall href
 refine ⟨.slice (some ⟨w.heap.size,0,none⟩) n.toNat n.toNat,_,_,?_,?_,g1,g2,g3⟩
 · have hp:(2:Int) ^ 48=281474976710656:=by decide
   have ht:(decide (n<0) || decide ((i.bytes:Int)*n > 2 ^ 48))=false:=by
     rw [hp];simp;omega
   have hir:∀w',(typeInfo e).run P w'=.ok i w':=fun w'=>by simp [typeInfo,hii]
   have hcond:¬((decide (n<0) || decide ((i.bytes:Int)*n > 2 ^ 48)) || decide (n<0) || decide (n > n))=true:=by
     rw [ht];simp;omega
   simp only [Instr.makeSlice,Sem.run_bind,run_underlying hu,Result.andThen_ok,asInt,asIntOf,Sem.run_pure,hir,hw]
   rw [if_neg hcond]
   simp only [Sem.run_bind,run_askRoom,Result.andThen_ok,df hsz]
   by_cases h00:n.toNat*sz=0
   · rw [if_pos h00]
     simp only [Sem.run_bind,Sem.run_pure,Result.andThen_ok]
     have hz0:z0=#[]:=if_pos h00
     simp only [c,hz0]
     rfl
   · rw [if_neg h00]
     simp only [Sem.run_bind,Sem.run_pure,hz1,Result.andThen_ok]
     have hz0:z0=zv.cells:=if_neg h00
     simp only [c,hz0]
     rfl
 · simp only [aq]
   exact ⟨(w.heap.size,c.size),0,by simp [Gh.cq],rfl,by simp [c]⟩
end
end Go.Ab
