import Derived.Test.YthcoecdbgdhihaaGreatDoorAbMap
/-
  Slices' literals and cuts; the operations on values, all together.
-/
set_option linter.unusedVariables false
set_option linter.unusedSimpArgs false
set_option linter.unnecessarySimpa false
set_option maxRecDepth 100000
set_option maxHeartbeats 8000000
namespace Go.Ab
section
variable {P:Program} {ns:Names} {G:Gh} {w:World}
theorem pC (sz:Nat):∀(rvs:List Value) (k:Nat) (rc:Array Value),rc.size=(k+rvs.length)*sz→(∀v∈rvs,v.cells.size=sz) →
   ∃rc',Instr.fill (fun i=>some (i*sz,sz)) rc ((List.range' k rvs.length).zip rvs)=some rc'∧rc'.toList=rc.toList.take (k*sz)++rvs.flatMap (fun v=>v.cells.toList)
 | [],k,rc,h,_=>⟨rc,by simp [Instr.fill],by simp at h;simp only [List.flatMap_nil,List.append_nil];rw [List.take_of_length_le];simp;omega⟩
 | v::rvs,k,rc,h,hs=>by
   have hv:=hs v (by simp);have hsz:rc.size=k*sz+(rvs.length+1)*sz:=(by rw [h,Nat.add_mul];simp);have hge:k*sz+sz≤rc.size:=(by rw [hsz,Nat.add_mul];omega);have hfold:(v.cells.zipIdx.foldl (fun cs (x:Value×Nat)=>cs.setIfInBounds (k*sz+x.2) x.1) rc).toList=rc.toList.take (k*sz)++v.cells.toList++rc.toList.drop (k*sz+sz):=by
     have:=oD (k*sz) v.cells.toList 0 rc (by simp [hv];omega);rw [←Array.foldl_toList];simpa [hv] using this
   have hsize:(v.cells.zipIdx.foldl (fun cs (x:Value×Nat)=>cs.setIfInBounds (k*sz+x.2) x.1) rc).size=rc.size:=by
     have hl:=congrArg List.length hfold;rw [List.length_append,List.length_append,List.length_take,List.length_drop] at hl;simp only [Array.length_toList,hv] at hl;omega
   obtain ⟨rc',e1,e2⟩:=pC sz rvs (k+1) _ (by rw [hsize,h];congr 1;simp;omega) (fun u hu=>hs u (by simp [hu]));refine ⟨rc',?_,?_⟩
   · simp only [List.length_cons,List.range'_succ,List.zip_cons_cons,Instr.fill];rw [if_neg (by simp [hv];omega)];exact e1
   · rw [e2,hfold];simp only [List.flatMap_cons];rw [List.append_assoc,List.take_append];have h1:(rc.toList.take (k*sz)).length=k*sz:=by simp;omega
     rw [h1];have h2:(k+1)*sz-k*sz=sz:=by rw [Nat.add_mul];omega
     rw [h2,List.take_of_length_le (by rw [h1,Nat.add_mul];omega),List.take_append];simp [hv,List.append_assoc];exact List.take_of_length_le (by simp [hv])
theorem pD (f:Operand→Value):∀(l:List (Nat×Operand)) (k:Nat),qk k l=true →
   l.map (fun x=>(x.1,f x.2))=(List.range' k ((l.map (·.2)).map f).length).zip ((l.map (·.2)).map f)
 | [],k,_=>by simp
 | (i,x)::l,k,h=>by
   simp only [qk,Bool.and_eq_true,beq_iff_eq] at h;obtain ⟨rfl,h⟩:=h;simp only [List.map_cons,List.length_cons,List.range'_succ,List.zip_cons_cons];rw [pD f l _ h]
theorem pE (f:Operand→Value):∀(l:List (Nat×Operand)),l.map (fun x=>(x.1,f x.2))=(l.map (·.1)).zip ((l.map (·.2)).map f)
 | []=>by simp
 | x::l=>by simp [pE f l]
theorem wZ {K:bJ} {b sz:Nat}:∀{els:List PV} {vs:List Value} {o:Nat},iZ K els vs→els.all (fun e=>(bw e).length == sz)=true →
   At K b o (vs.flatMap fun v=>v.cells.toList)→Row K b o sz els
 | [],_,_,_,_,_=>by simp only [Row]
 | e::els,vs,o,⟨v,r,e1,e2,e3⟩,hs,ha=>by
   subst e1;simp only [List.all_cons,Bool.and_eq_true,beq_iff_eq] at hs;have hR:=e2.Q8;have hlen:v.cells.toList.length=sz:=by rw [hR.length,hs.1]
   simp only [Row];refine ⟨⟨v.cells.toList,hlen,?_,hR⟩,wZ e3 hs.2 ?_⟩
   · intro j u hj;exact ha j u (by simp only [List.flatMap_cons];rw [List.getElem?_append_left (List.getElem?_eq_some_iff.1 hj).1];exact hj)
   · intro j u hj;have:=ha (sz+j) u (by simp only [List.flatMap_cons];rw [List.getElem?_append_right (by omega),hlen,Nat.add_sub_cancel_left];exact hj)
     rwa [←Nat.add_assoc] at this
theorem q8 {K:bJ} {sz:Nat}:∀{els:List PV} {vs:List Value},iZ K els vs→els.all (fun e=>(bw e).length == sz)=true→∀v∈vs,v.cells.size=sz
 | [],vs,h,_,v,hv=>by cases h;simp at hv
 | e::els,vs,⟨u,r,e1,e2,e3⟩,hs,v,hv=>by
   subst e1;simp only [List.all_cons,Bool.and_eq_true,beq_iff_eq] at hs;simp only [List.mem_cons] at hv;rcases hv with rfl | hv
   · have:=e2.Q8.length;simp at this;rw [this,hs.1]
   · exact q8 e3 hs.2 v hv
theorem uZ {ρ:cy} {mem:List (Nat×List AV)} {sh:Sh} {ah:aN} {t e sz n:Nat} {z:List PV} {vals:List AV} {rvs:List Value} {x:AV}
   (he:eY P t=some e) (hsz:cW P e=some sz) (hz:cT P e=some z) (hn:rvs.length=n) (h0:0<sz) (hb:n*sz≤16777216)
   (hr:aB (num ns) G vals rvs) (hi:Inv ρ G w mem sh ah) (h:cf (.aT sz) vals=some x) :
   ∃v c,(Instr.buildSlice t n ((List.range' 0 rvs.length).zip rvs).toArray).run P w=.ok v (w.alloc (.cells c e)) ∧
     aC (num ns) (G.iO w.heap.size c) x v:=by
 have hu:=d3 he;simp only [cf,Option.bind_eq_some_iff,Option.ite_none_right_eq_some,Option.some.injEq] at h;obtain ⟨els,h1,h2,rfl⟩:=h;have hrl:=j8 h1 hr;have hlen:=hrl.length;obtain ⟨zv,hz1,hz2⟩:=gE (w:=w) hz;have hne:¬(n*sz=0∧0<n):=by rintro ⟨a,b⟩;have:=Nat.mul_pos b h0;omega
 let z0:Array Value:=if n*sz=0 then #[] else zv.cells
 have hinit:((Array.range (n*sz)).map (z0[· % z0.size]!)).size=(0+rvs.length)*sz:=by simp [hn]
 obtain ⟨rc,g1,g2⟩:=pC sz rvs 0 _ hinit (q8 hrl h2);have g2':rc.toList=rvs.flatMap (fun v=>v.cells.toList):=by simpa using g2
 refine ⟨.slice (some ⟨w.heap.size,0,none⟩) n n,rc,?_,?_⟩
 · simp only [Instr.buildSlice,Sem.run_bind,run_underlying hu,Result.andThen_ok,dJ hsz];rw [if_neg (by omega)];by_cases h00:n*sz=0
   · have hz0:z0=#[]:=if_pos h00;rw [hz0] at g1;rw [if_pos h00];simp only [Sem.run_bind,Sem.run_pure,Result.andThen_ok,g1];rfl
   · have hz0:z0=zv.cells:=if_neg h00;rw [hz0] at g1;rw [if_neg h00];simp only [Sem.run_bind,Sem.run_pure,hz1,Result.andThen_ok,g1];rfl
 · simp only [aC];refine ⟨_,n,rfl,by omega,?_⟩;by_cases hnil:els=[]
   · exact .inl hnil
   · refine .inr ⟨w.heap.size,0,sz,rfl,?_⟩;have hle:=(Gh.qo hi rc).K;refine wZ (iZ.mono hle hrl) h2 ?_;rw [←g2'];have:=JI (G:=G) (b:=w.heap.size) (l:=rc.toList);simpa using this
end
end Go.Ab
