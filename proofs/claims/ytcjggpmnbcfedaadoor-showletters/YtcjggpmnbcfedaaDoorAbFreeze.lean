import Derived.Test.YtcjggpmnbcfedaaDoorAbCalls
/-
  Shared arrays that are frozen: from then on they are known for good.
-/
set_option linter.unusedVariables false
set_option linter.unusedSimpArgs false
set_option linter.unnecessarySimpa false
set_option maxRecDepth 100000
set_option maxHeartbeats 8000000
namespace Go.Ab
section
variable {P:Program} {ns:Names} {G:Gh} {w:World}
def Gh.freeze (G:Gh) (b:Nat) (c:Array Value):Gh:=
 { G with K:=fun k o=>if k=b then c[o]? else G.K k o,role:=fun k=>if k=b then .b_ else G.role k }
theorem Inv.freeze {mem:List (Nat×List AV)} {sh:Sh} {aa:al} (hi:Inv (num ns) G w mem sh aa) {s b:Nat} {cells:List AV} {c:Array Value} {t:TypeId}
   (hr:G.role b=.shr s) (hh:w.heap[b]?=some (.cells c t (0,0))) :
   Inv (num ns) (G.freeze b c) w mem (sh.set s none) aa∧G.le (G.freeze b c)∧aN G w (G.freeze b c) w:=by
 have hK:G.K.le (G.freeze b c).K:=fun k o v hk=>by
   simp only [Gh.freeze]
   rw [if_neg]
   · exact hk
   · rintro rfl
     rcases hi.aC _ _ _ hk with h | ⟨τ,h⟩<;>rw [hr] at h<;>simp at h
 have hle:G.le (G.freeze b c):=⟨hK,fun _ _ h=>h,fun _ _ h=>h,fun _ t h=>⟨t,h,⟨Nat.le_refl _,t.dO⟩,fun _=>rfl⟩⟩
 have hrole:∀k r,G.role k=r→r≠.shr s→(G.freeze b c).role k=r:=by
   intro k r hk hn
   simp only [Gh.freeze]
   rw [if_neg]
   · exact hk
   · rintro rfl;exact hn (hk.symm.trans hr)
 have hevo:aN G w (G.freeze b c) w:={
           size:=Nat.le_refl _,os:=rfl,tape:=rfl,output:=rfl,K:=hK,sm:=fun _ _ h=>h,
           b_:=fun k _ hk=>⟨hrole k _ hk (by simp),rfl⟩
           ew:=fun k τ _ hk=>.inr ⟨τ,hrole k _ hk (by simp)⟩
           dP:=fun k o v _ hk hkk=>by
             simp only [Gh.freeze] at hkk
             rwa [if_neg (by rintro rfl;rw [hr] at hk;simp at hk)] at hkk }
 refine ⟨⟨?_,?_,?_,?_,hi.dX,?_,?_,?_,hi.cY,hi.d7 hevo⟩,hle,hevo⟩
 · intro k o v hk
   simp only [Gh.freeze] at hk
   split at hk
   · rename_i e;subst e;simp [World.cell?,hh,hk]
   · exact hi.known k o v hk
 · intro k o v hk
   simp only [Gh.freeze] at hk
   split at hk
   · rename_i e;subst e;left;simp [Gh.freeze]
   · rename_i e
     simp only [Gh.freeze,if_neg e]
     exact hi.aC k o v hk
 · intro k hk
   simp only [Gh.freeze]
   split
   · rfl
   · exact hi.fresh k hk
 · intro d cs hd
   obtain ⟨b',e1,e2,e3⟩:=hi.bp d cs hd
   exact ⟨b',e1,e2.mono hle ((hrole b' _ e2.role (by simp)).trans e2.role.symm) rfl,e3⟩
 · intro s' cs hs'
   rw [List.getElem?_set] at hs'
   split at hs'
   · split at hs'<;>simp at hs'
   · rename_i hne
     obtain ⟨b',e1,e2,e3⟩:=hi.bD s' cs hs'
     exact ⟨b',e1,e2.mono hle ((hrole b'.1 _ e2.role (by simp;exact fun h=>hne h.symm)).trans e2.role.symm) rfl,e3⟩
 · intro s' b' h;simpa using hi.cN s' b' h
 · intro τ n hn
   obtain ⟨tk,e1,e2,e3⟩:=hi.bE τ n hn
   refine ⟨tk,e1,e2,e3.cap,e3.zero,fun hlt=>?_⟩
   obtain ⟨b',o,cc,ty,f1,f2,f3,f4,f5⟩:=e3.spare hlt
   refine ⟨b',o,cc,ty,f1,hrole b' _ f2 (by simp),f3,f4,fun j v hk=>f5 j v ?_⟩
   simp only [Gh.freeze] at hk
   rwa [if_neg (by rintro rfl;rw [hr] at f2;simp at f2)] at hk
def fY (ns:Names) (G G':Gh) (sh:Sh) (ks:List Nat):Prop:=
 ∀s∈ks,∀cells,sh[s]?=some (some cells)→cJ cells=false→∃b vs,G.sm s=some b∧At G'.K b.1 0 vs∧ae (num ns) G' cells vs
theorem pz {sh:Sh} {s:Nat} (h:∀cells,sh[s]?≠some (some cells)):sh.set s none=sh:=by
 apply List.ext_getElem?
 intro j
 rw [List.getElem?_set]
 split
 · rename_i e;subst e
   split
   · rename_i hlt
     cases hh:sh[s] with
     | none=>rw [List.getElem?_eq_getElem hlt,hh]
     | some cells=>exact absurd (by rw [List.getElem?_eq_getElem hlt,hh]) (h cells)
   · rename_i hge;rw [List.getElem?_eq_none (by omega)]
 · rfl
theorem Inv.drop {mem:List (Nat×List AV)} {sh:Sh} {aa:al} {G:Gh} (hi:Inv (num ns) G w mem sh aa) (s:Nat):Inv (num ns) G w mem (sh.set s none) aa:=
 { hi with
   bD:=fun s' cells hs=>by
     rw [List.getElem?_set] at hs
     split at hs
     · split at hs<;>simp at hs
     · exact hi.bD s' cells hs
   cN:=fun s' b h=>by simpa using hi.cN s' b h }
theorem Inv.kill {mem:List (Nat×List AV)} {aa:al}:∀(ks:List Nat) {sh:Sh} {G:Gh},Inv (num ns) G w mem sh aa →
   ∃G',Inv (num ns) G' w mem (kill sh ks) aa∧G.le G'∧aN G w G' w∧fY ns G G' sh ks∧G'.sm=G.sm
 | [],sh,G,hi=>⟨G,hi,G.le_refl,aN.refl G w,fun s h=>by simp at h,rfl⟩
 | s::ks,sh,G,hi=>by
   have hk:Go.Ab.kill sh (s::ks)=Go.Ab.kill (sh.set s none) ks:=rfl
   by_cases hs:∃cells,sh[s]?=some (some cells)
   · obtain ⟨cells,hs⟩:=hs
     obtain ⟨b,e1,e2,_⟩:=hi.bD s cells hs
     cases hmb:cJ cells with
     | true=>
       obtain ⟨G',h1,h2,h3,h4,h5⟩:=Inv.kill ks (hi.drop s)
       refine ⟨G',by rw [hk];exact h1,h2,h3,?_,h5⟩
       intro s' hs' cells' hc' hm'
       by_cases he:s'=s
       · subst he;rw [hs] at hc';cases hc';rw [hmb] at hm';cases hm'
       · simp only [List.mem_cons] at hs'
         exact h4 s' (hs'.resolve_left he) cells' (by rw [List.getElem?_set,if_neg (fun e=>he e.symm)];exact hc') hm'
     | false=>
     obtain ⟨hr,c,t,vs,suf,hh,_,hsp,hrel⟩:=e2.cells hmb
     obtain ⟨g1,g2,g3⟩:=hi.freeze (cells:=cells) hr hh
     obtain ⟨G',h1,h2,h3,h4,h5⟩:=Inv.kill ks g1
     refine ⟨G',by rw [hk];exact h1,Gh.le_trans g2 h2,g3.trans h3,?_,h5⟩
     intro s' hs' cells' hc' hm'
     by_cases he:s'=s
     · subst he
       rw [hs] at hc';cases hc'
       refine ⟨b,vs,e1,?_,ae.mono (Gh.le_trans g2 h2) hrel⟩
       intro j v hj
       apply h2.K
       simp only [Gh.freeze,if_true,Nat.zero_add]
       have:c.toList[j]?=some v:=by rw [hsp,List.getElem?_append_left (List.getElem?_eq_some_iff.1 hj).1];exact hj
       simpa using this
     · simp only [List.mem_cons] at hs'
       have:=h4 s' (hs'.resolve_left he) cells' (by rw [List.getElem?_set,if_neg (fun e=>he e.symm)];exact hc') hm'
       exact this
   · have hset:=pz (sh:=sh) (s:=s) (fun cells h=>hs ⟨cells,h⟩)
     obtain ⟨G',h1,h2,h3,h4,h5⟩:=Inv.kill ks hi
     refine ⟨G',by rw [hk,hset];exact h1,h2,h3,?_,h5⟩
     intro s' hs' cells' hc' hm'
     simp only [List.mem_cons] at hs'
     rcases hs' with rfl | hs'
     · exact absurd ⟨cells',hc'⟩ hs
     · exact h4 s' hs' cells' hc' hm'
theorem uq {cs:List AV} {ps:List PV} (h:jd cs=some ps):cJ cs=false:=by
 cases cs with
 | nil=>rfl
 | cons c cs=>cases c<;>first | rfl | simp [jd,jI] at h
theorem pA:∀{cs:List AV} {ps:List PV} {vs:List Value},jd cs=some ps→cs.all aA=true→ae (num ns) G cs vs→bM G.K ps vs
 | [],ps,vs,h,_,hr=>by simp [jd] at h;subst h;simp only [ae] at hr;simp [bM,hr]
 | c::cs,ps,vs,h,hl,hr=>by
   simp only [jd] at h
   simp only [List.all_cons,Bool.and_eq_true] at hl
   split at h
   · rename_i p ps' h1 h2
     simp at h;subst h
     simp only [ae] at hr
     obtain ⟨v,r,rfl,e1,e2⟩:=hr
     simp only [bM]
     exact ⟨v,r,rfl,(jj h1 e1).wY (jK h1 hl.1),pA h2 hl.2 e2⟩
   · simp at h
theorem mW {K:aF} {b sz:Nat}:∀(n:Nat) {ps:List PV} {vs:List Value} {o:Nat},bM K ps vs→ps.length=n*sz→At K b o vs→Row K b o sz ((chunk sz n ps).map .agg)
 | 0,_,_,_,_,_,_=>by simp only [chunk,List.map_nil,Row]
 | n+1,ps,vs,o,hr,hl,ha=>by
   have hlv:=hr.length
   rw [Nat.add_mul] at hl
   simp only [chunk,List.map_cons,Row]
   refine ⟨⟨vs.take sz,by simp;omega,?_,?_⟩,mW n (bM.drop sz hr) (by simp;omega) ?_⟩
   · intro j v hj
     rw [List.getElem?_take] at hj
     split at hj
     · exact ha j v hj
     · simp at hj
   · simp only [R];exact ⟨trivial,bM.take sz hr⟩
   · intro j v hj
     rw [List.getElem?_drop] at hj
     have:=ha _ v hj
     rwa [←Nat.add_assoc] at this
theorem jq {sz:Nat}:∀(n:Nat) (ps:List PV),(chunk sz n ps).length=n
 | 0,_=>rfl
 | n+1,ps=>by simp [chunk,jq n]
theorem lA {K:aF} {b:Nat}:∀{ps:List PV} {vs:List Value} {o:Nat},bM K ps vs→At K b o vs→Row K b o 1 ps
 | [],_,_,_,_=>by simp only [Row]
 | p::ps,vs,o,hr,ha=>by
   simp only [bM] at hr
   obtain ⟨v,r,rfl,e1,e2⟩:=hr
   simp only [Row]
   refine ⟨⟨[v],rfl,?_,R.top e1⟩,lA e2 ?_⟩
   · intro j u hj
     cases j with
     | zero=>simp at hj;subst hj;exact ha 0 v rfl
     | succ j=>simp at hj
   · intro j u hj
     have:=ha (j+1) u (by simpa using hj)
     rwa [show o+(j+1)=o+1+j from by omega] at this
theorem w9 {l:List AV} (n:Nat) (h:l.all aA=true):(l.take n).all aA=true:=by
 rw [List.all_eq_true] at h ⊢
 exact fun x hx=>h x (List.mem_of_mem_take hx)
theorem jr {G':Gh} {sh:Sh} {ks:List Nat} {x:AV} {p:PV} {v:Value} (hle:G.le G') (hf:fY ns G G' sh ks) (hl:∀(s:Nat) (cells:List AV),sh[s]?=some (some cells)→cells.all aA=true)
   (ha:∀s∈da x,s∈ks) (hx:∀cs,x≠.agg cs) (h:cK sh x=some p) (hr:ah (num ns) G x v):Rel G'.K p v:=by
 cases x with
 | aU s sz n ag=>
   simp only [cK] at h
   split at h
   · rename_i cells hc
     have key:∀ps els,jd (cells.take (n*sz))=some ps→cJ cells=false→n*sz≤cells.length→g_ sz ag n ps=some els→Rel G'.K (.bz els) v:=by
       intro ps els h1 hmb hlen h2
       obtain ⟨b,vs,e1,e2,e3⟩:=hf s (ha s (by simp [da])) cells hc hmb
       simp only [ah] at hr
       obtain ⟨b',cap,hb,rfl,_⟩:=hr
       rw [e1] at hb;cases hb
       have e3':ae (num ns) G' (cells.take (n*sz)) (vs.take (n*sz)):=e3.take _
       have e2':At G'.K b.1 0 (vs.take (n*sz)):=by
         intro j u hj
         rw [List.getElem?_take] at hj
         split at hj
         · exact e2 j u hj
         · simp at hj
       have hps:=pA h1 (w9 _ (hl s cells hc)) e3'
       have hpl:ps.length=n*sz:=by rw [←hps.length,e3'.length,List.length_take];omega
       unfold g_ at h2
       split at h2
       · simp at h2;subst h2
         refine aZ.2 ⟨_,_,_,rfl,by omega,by simp [jq],.inr ⟨b.1,0,sz,rfl,mW n hps hpl e2'⟩⟩
       · simp only [Option.ite_none_right_eq_some,Option.some.injEq] at h2
         obtain ⟨rfl,rfl⟩:=h2
         exact aZ.2 ⟨_,_,_,rfl,by omega,by omega,.inr ⟨b.1,0,1,rfl,lA hps e2'⟩⟩
     split at h
     · rename_i hlen
       simp only [Option.map_eq_some_iff,Option.bind_eq_some_iff] at h
       obtain ⟨els,⟨ps,h1,h2⟩,rfl⟩:=h
       exact key ps els (by rw [List.take_of_length_le (by omega)];exact h1) (uq h1) (by omega) h2
     · simp only [Option.ite_none_right_eq_some,Option.map_eq_some_iff,Option.bind_eq_some_iff] at h
       obtain ⟨⟨hmb,hlen⟩,els,⟨ps,h1,h2⟩,rfl⟩:=h
       exact key ps els h1 hmb hlen h2
   · simp at h
 | agg cs=>exact absurd rfl (hx cs)
 | _=>simp only [cK] at h;exact (jj h hr).mono hle.K
theorem mB {sh:Sh} {x:AV} {p:PV} (h:cK sh x=some p) (hl:aA x=true):dY p=true:=by
 cases x with
 | aU s sz n ag=>
   simp only [cK] at h
   split at h
   · split at h
     · simp only [Option.map_eq_some_iff] at h
       obtain ⟨els,_,rfl⟩:=h
       rfl
     · simp only [Option.ite_none_right_eq_some,Option.map_eq_some_iff] at h
       obtain ⟨_,els,_,rfl⟩:=h
       rfl
   · simp at h
 | _=>simp only [cK] at h;exact jK h hl
theorem nO {x:AV} (h:aA x=true):∀cs,x≠.agg cs:=by
 rintro cs rfl;simp [aA] at h
theorem gE {G':Gh} {sh:Sh} {ks:List Nat} (hle:G.le G') (hf:fY ns G G' sh ks) (hl:∀(s:Nat) (cells:List AV),sh[s]?=some (some cells)→cells.all aA=true) :
   ∀{cs:List AV} {ps:List PV} {vs:List Value},(∀s∈da (.agg cs),s∈ks)→eO sh cs=some ps→ae (num ns) G cs vs→bM G'.K ps vs
 | [],ps,vs,_,h,hr=>by simp [eO] at h;subst h;simp only [ae] at hr;simp [bM,hr]
 | c::cs,ps,vs,ha,h,hr=>by
   simp only [eO,Option.ite_none_right_eq_some] at h
   obtain ⟨hlf,h⟩:=h
   split at h
   · rename_i p ps' h1 h2
     simp at h;subst h
     simp only [ae] at hr
     obtain ⟨v,r,rfl,e1,e2⟩:=hr
     simp only [bM]
     refine ⟨v,r,rfl,(jr hle hf hl ?_ (nO hlf) h1 e1).wY (mB h1 hlf),gE hle hf hl ?_ h2 e2⟩
     · intro s hs
       refine ha s ?_
       simp only [da,List.flatMap_cons,List.mem_append]
       left
       cases c<;>simp_all [da,aA]
     · intro s hs
       refine ha s ?_
       simp only [da,List.flatMap_cons,List.mem_append] at hs ⊢
       exact .inr hs
   · simp at h
theorem lB {G':Gh} {sh:Sh} {ks:List Nat} (hle:G.le G') (hf:fY ns G G' sh ks) (hl:∀(s:Nat) (cells:List AV),sh[s]?=some (some cells)→cells.all aA=true)
   {x:AV} {p:PV} {v:Value} (ha:∀s∈da x,s∈ks) (h:gX sh x=some p) (hr:ah (num ns) G x v):Rel G'.K p v:=by
 by_cases hx:∃cs,x=.agg cs
 · obtain ⟨cs,rfl⟩:=hx
   simp only [gX,Option.map_eq_some_iff] at h
   obtain ⟨ps,h1,rfl⟩:=h
   simp only [ah] at hr
   obtain ⟨vs,rfl,hr⟩:=hr
   simp only [Rel]
   exact ⟨vs,rfl,gE hle hf hl ha h1 hr⟩
 · have hx':∀cs,x≠.agg cs:=fun cs e=>hx ⟨cs,e⟩
   have:gX sh x=cK sh x:=by cases x<;>first | rfl | exact absurd rfl (hx' _)
   rw [this] at h
   exact jr hle hf hl ha hx' h hr
theorem kg {G':Gh} {sh:Sh} {ks:List Nat} (hle:G.le G') (hf:fY ns G G' sh ks) (hl:∀(s:Nat) (cells:List AV),sh[s]?=some (some cells)→cells.all aA=true) :
   ∀{xs:List AV} {ps:List PV} {vs:List Value},(∀s∈xs.flatMap da,s∈ks)→bZ sh xs=some ps→ae (num ns) G xs vs→fl G'.K ps vs
 | [],ps,vs,_,h,hr=>by simp [bZ] at h;subst h;simp only [ae] at hr;exact hr
 | c::cs,ps,vs,ha,h,hr=>by
   simp only [bZ] at h
   split at h
   · rename_i p ps' h1 h2
     simp at h;subst h
     simp only [ae] at hr
     obtain ⟨v,r,rfl,e1,e2⟩:=hr
     simp only [List.flatMap_cons,List.mem_append] at ha
     exact ⟨v,r,rfl,lB hle hf hl (fun s hs=>ha s (.inl hs)) h1 e1,kg hle hf hl (fun s hs=>ha s (.inr hs)) h2 e2⟩
   · simp at h
theorem Inv.lC {mem:List (Nat×List AV)} {sh:Sh} {aa:al} (hi:Inv (num ns) G w mem sh aa):∀(s:Nat) (cells:List AV),sh[s]?=some (some cells)→cells.all aA=true:=by
 intro s cells hs
 obtain ⟨b,_,_,e3,_⟩:=hi.bD s cells hs
 exact dB e3
end
end Go.Ab
