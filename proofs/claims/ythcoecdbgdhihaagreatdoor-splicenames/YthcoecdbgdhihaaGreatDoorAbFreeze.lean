import Derived.Test.YthcoecdbgdhihaaGreatDoorAbCalls
/-
  Shared arrays that are frozen: from then on they are known for QD.
-/
set_option linter.unusedVariables false
set_option linter.unusedSimpArgs false
set_option linter.unnecessarySimpa false
set_option maxRecDepth 100000
set_option maxHeartbeats 8000000
namespace Go.Ab
section
variable {P:Program} {ns:Names} {G:Gh} {w:World}
def Gh.freeze (G:Gh) (b:Nat) (c:Array Value):Gh:=
 { G with K:=fun k o=>if k=b then c[o]? else G.K k o,role:=fun k=>if k=b then .eE else G.role k }
theorem Inv.freeze {mem:List (Nat×List AV)} {sh:Sh} {ah:aN} (hi:Inv (num ns) G w mem sh ah) {s b:Nat} {cells:List AV} {c:Array Value} {t:TypeId}
   (hr:G.role b=.shr s) (hh:w.heap[b]?=some (.cells c t (0,0))) :
   Inv (num ns) (G.freeze b c) w mem (sh.set s none) ah∧G.le (G.freeze b c)∧cq G w (G.freeze b c) w:=by
 have hK:G.K.le (G.freeze b c).K:=fun k o v hk=>by
   simp only [Gh.freeze];rw [if_neg]
   · exact hk
   · rintro rfl
     rcases hi.bz _ _ _ hk with h | ⟨τ,h⟩<;>rw [hr] at h<;>simp at h
 have hle:G.le (G.freeze b c):=⟨hK,fun _ _ h=>h,fun _ _ h=>h,fun _ t h=>⟨t,h,⟨Nat.le_refl _,t.gM⟩,fun _=>rfl⟩⟩;have hrole:∀k r,G.role k=r→r≠.shr s→(G.freeze b c).role k=r:=by
   intro k r hk hn;simp only [Gh.freeze];rw [if_neg]
   · exact hk
   · rintro rfl;exact hn (hk.symm.trans hr)
 have hevo:cq G w (G.freeze b c) w:={
           size:=Nat.le_refl _,os:=rfl,tape:=rfl,output:=rfl,K:=hK,sm:=fun _ _ h=>h,
           eE:=fun k _ hk=>⟨hrole k _ hk (by simp),rfl⟩
           iG:=fun k τ _ hk=>.inr ⟨τ,hrole k _ hk (by simp)⟩
           gO:=fun k o v _ hk hkk=>by
             simp only [Gh.freeze] at hkk
             rwa [if_neg (by rintro rfl;rw [hr] at hk;simp at hk)] at hkk }
 refine ⟨⟨?_,?_,?_,?_,hi.gN,?_,?_,?_,hi.fc,hi.h_ hevo⟩,hle,hevo⟩
 · intro k o v hk;simp only [Gh.freeze] at hk;split at hk
   · rename_i e;subst e;simp [World.cell?,hh,hk]
   · exact hi.known k o v hk
 · intro k o v hk;simp only [Gh.freeze] at hk;split at hk
   · rename_i e;subst e;left;simp [Gh.freeze]
   · rename_i e;simp only [Gh.freeze,if_neg e];exact hi.bz k o v hk
 · intro k hk;simp only [Gh.freeze];split
   · rfl
   · exact hi.fresh k hk
 · intro d cs hd;obtain ⟨b',e1,e2,e3⟩:=hi.dq d cs hd;exact ⟨b',e1,e2.mono hle ((hrole b' _ e2.role (by simp)).trans e2.role.symm) rfl,e3⟩
 · intro s' cs hs';rw [List.getElem?_set] at hs';split at hs'
   · split at hs'<;>simp at hs'
   · rename_i hne;obtain ⟨b',e1,e2,e3⟩:=hi.dP s' cs hs';exact ⟨b',e1,e2.mono hle ((hrole b'.1 _ e2.role (by simp;exact fun h=>hne h.symm)).trans e2.role.symm) rfl,e3⟩
 · intro s' b' h;simpa using hi.eJ s' b' h
 · intro τ n hn;obtain ⟨tk,e1,e2,e3⟩:=hi.dI τ n hn;refine ⟨tk,e1,e2,e3.cap,e3.zero,fun hlt=>?_⟩;obtain ⟨b',o,cc,ty,f1,f2,f3,f4,f5⟩:=e3.spare hlt;refine ⟨b',o,cc,ty,f1,hrole b' _ f2 (by simp),f3,f4,fun j v hk=>f5 j v ?_⟩;simp only [Gh.freeze] at hk
   rwa [if_neg (by rintro rfl;rw [hr] at f2;simp at f2)] at hk
def jE (ns:Names) (G G':Gh) (sh:Sh) (ks:List Nat):Prop:=
 ∀s∈ks,∀cells,sh[s]?=some (some cells)→dr cells=false→∃b vs,G.sm s=some b∧At G'.K b.1 0 vs∧aB (num ns) G' cells vs
theorem xq {sh:Sh} {s:Nat} (h:∀cells,sh[s]?≠some (some cells)):sh.set s none=sh:=by
 apply List.ext_getElem?
 intro j;rw [List.getElem?_set];split
 · rename_i e;subst e;split
   · rename_i hlt;cases hh:sh[s] with
     | none=>rw [List.getElem?_eq_getElem hlt,hh]
     | some cells=>exact absurd (by rw [List.getElem?_eq_getElem hlt,hh]) (h cells)
   · rename_i hge;rw [List.getElem?_eq_none (by omega)]
 · rfl
theorem Inv.drop {mem:List (Nat×List AV)} {sh:Sh} {ah:aN} {G:Gh} (hi:Inv (num ns) G w mem sh ah) (s:Nat):Inv (num ns) G w mem (sh.set s none) ah:=
 { hi with
   dP:=fun s' cells hs=>by
     rw [List.getElem?_set] at hs;split at hs
     · split at hs<;>simp at hs
     · exact hi.dP s' cells hs
   eJ:=fun s' b h=>by simpa using hi.eJ s' b h }
theorem Inv.kill {mem:List (Nat×List AV)} {ah:aN}:∀(ks:List Nat) {sh:Sh} {G:Gh},Inv (num ns) G w mem sh ah →
   ∃G',Inv (num ns) G' w mem (kill sh ks) ah∧G.le G'∧cq G w G' w∧jE ns G G' sh ks∧G'.sm=G.sm
 | [],sh,G,hi=>⟨G,hi,G.le_refl,cq.refl G w,fun s h=>by simp at h,rfl⟩
 | s::ks,sh,G,hi=>by
   have hk:Go.Ab.kill sh (s::ks)=Go.Ab.kill (sh.set s none) ks:=rfl;by_cases hs:∃cells,sh[s]?=some (some cells)
   · obtain ⟨cells,hs⟩:=hs;obtain ⟨b,e1,e2,_⟩:=hi.dP s cells hs;cases hmb:dr cells with
     | true=>
       obtain ⟨G',h1,h2,h3,h4,h5⟩:=Inv.kill ks (hi.drop s);refine ⟨G',by rw [hk];exact h1,h2,h3,?_,h5⟩;intro s' hs' cells' hc' hm';by_cases he:s'=s
       · subst he;rw [hs] at hc';cases hc';rw [hmb] at hm';cases hm'
       · simp only [List.mem_cons] at hs';exact h4 s' (hs'.resolve_left he) cells' (by rw [List.getElem?_set,if_neg (fun e=>he e.symm)];exact hc') hm'
     | false=>
     obtain ⟨hr,c,t,vs,suf,hh,_,hsp,hrel⟩:=e2.cells hmb;obtain ⟨g1,g2,g3⟩:=hi.freeze (cells:=cells) hr hh;obtain ⟨G',h1,h2,h3,h4,h5⟩:=Inv.kill ks g1;refine ⟨G',by rw [hk];exact h1,Gh.le_trans g2 h2,g3.trans h3,?_,h5⟩;intro s' hs' cells' hc' hm';by_cases he:s'=s
     · subst he;rw [hs] at hc';cases hc';refine ⟨b,vs,e1,?_,aB.mono (Gh.le_trans g2 h2) hrel⟩;intro j v hj;apply h2.K;simp only [Gh.freeze,if_true,Nat.zero_add];have:c.toList[j]?=some v:=by rw [hsp,List.getElem?_append_left (List.getElem?_eq_some_iff.1 hj).1];exact hj
       simpa using this
     · simp only [List.mem_cons] at hs';have:=h4 s' (hs'.resolve_left he) cells' (by rw [List.getElem?_set,if_neg (fun e=>he e.symm)];exact hc') hm';exact this
   · have hset:=xq (sh:=sh) (s:=s) (fun cells h=>hs ⟨cells,h⟩);obtain ⟨G',h1,h2,h3,h4,h5⟩:=Inv.kill ks hi;refine ⟨G',by rw [hk,hset];exact h1,h2,h3,?_,h5⟩;intro s' hs' cells' hc' hm';simp only [List.mem_cons] at hs';rcases hs' with rfl | hs'
     · exact absurd ⟨cells',hc'⟩ hs
     · exact h4 s' hs' cells' hc' hm'
theorem DH {cs:List AV} {ps:List PV} (h:ff cs=some ps):dr cs=false:=by
 cases cs with
 | nil=>rfl
 | cons c cs=>cases c<;>first | rfl | simp [ff,kS] at h
theorem xt:∀{cs:List AV} {ps:List PV} {vs:List Value},ff cs=some ps→cs.all bp=true→aB (num ns) G cs vs→dV G.K ps vs
 | [],ps,vs,h,_,hr=>by simp [ff] at h;subst h;simp only [aB] at hr;simp [dV,hr]
 | c::cs,ps,vs,h,hl,hr=>by
   simp only [ff] at h;simp only [List.all_cons,Bool.and_eq_true] at hl;split at h
   · rename_i p ps' h1 h2;simp at h;subst h;simp only [aB] at hr;obtain ⟨v,r,rfl,e1,e2⟩:=hr;simp only [dV];exact ⟨v,r,rfl,(nu h1 e1).GA (oE h1 hl.1),xt h2 hl.2 e2⟩
   · simp at h
theorem tY {K:bJ} {b sz:Nat}:∀(n:Nat) {ps:List PV} {vs:List Value} {o:Nat},dV K ps vs→ps.length=n*sz→At K b o vs→Row K b o sz ((chunk sz n ps).map .agg)
 | 0,_,_,_,_,_,_=>by simp only [chunk,List.map_nil,Row]
 | n+1,ps,vs,o,hr,hl,ha=>by
   have hlv:=hr.length;rw [Nat.add_mul] at hl;simp only [chunk,List.map_cons,Row];refine ⟨⟨vs.take sz,by simp;omega,?_,?_⟩,tY n (dV.drop sz hr) (by simp;omega) ?_⟩
   · intro j v hj;rw [List.getElem?_take] at hj;split at hj
     · exact ha j v hj
     · simp at hj
   · simp only [R];exact ⟨trivial,dV.take sz hr⟩
   · intro j v hj;rw [List.getElem?_drop] at hj;have:=ha _ v hj
     rwa [←Nat.add_assoc] at this
theorem nD {sz:Nat}:∀(n:Nat) (ps:List PV),(chunk sz n ps).length=n
 | 0,_=>rfl
 | n+1,ps=>by simp [chunk,nD n]
theorem rf {K:bJ} {b:Nat}:∀{ps:List PV} {vs:List Value} {o:Nat},dV K ps vs→At K b o vs→Row K b o 1 ps
 | [],_,_,_,_=>by simp only [Row]
 | p::ps,vs,o,hr,ha=>by
   simp only [dV] at hr;obtain ⟨v,r,rfl,e1,e2⟩:=hr;simp only [Row];refine ⟨⟨[v],rfl,?_,R.top e1⟩,rf e2 ?_⟩
   · intro j u hj;cases j with
     | zero=>simp at hj;subst hj;exact ha 0 v rfl
     | succ j=>simp at hj
   · intro j u hj;have:=ha (j+1) u (by simpa using hj)
     rwa [show o+(j+1)=o+1+j from by omega] at this
theorem GH {l:List AV} (n:Nat) (h:l.all bp=true):(l.take n).all bp=true:=by
 rw [List.all_eq_true] at h ⊢;exact fun x hx=>h x (List.mem_of_mem_take hx)
theorem nE {G':Gh} {sh:Sh} {ks:List Nat} {x:AV} {p:PV} {v:Value} (hle:G.le G') (hf:jE ns G G' sh ks) (hl:∀(s:Nat) (cells:List AV),sh[s]?=some (some cells)→cells.all bp=true)
   (ha:∀s∈fm x,s∈ks) (hx:∀cs,x≠.agg cs) (h:ee sh x=some p) (hr:aC (num ns) G x v):Rel G'.K p v:=by
 cases x with
 | bE s sz n ag=>
   simp only [ee] at h;split at h
   · rename_i cells hc;have key:∀ps els,ff (cells.take (n*sz))=some ps→dr cells=false→n*sz≤cells.length→fh sz ag n ps=some els→Rel G'.K (.aI els) v:=by
       intro ps els h1 hmb hlen h2;obtain ⟨b,vs,e1,e2,e3⟩:=hf s (ha s (by simp [fm])) cells hc hmb;simp only [aC] at hr;obtain ⟨b',cap,hb,rfl,_⟩:=hr;rw [e1] at hb;cases hb;have e3':aB (num ns) G' (cells.take (n*sz)) (vs.take (n*sz)):=e3.take _;have e2':At G'.K b.1 0 (vs.take (n*sz)):=by
         intro j u hj;rw [List.getElem?_take] at hj;split at hj
         · exact e2 j u hj
         · simp at hj
       have hps:=xt h1 (GH _ (hl s cells hc)) e3';have hpl:ps.length=n*sz:=(by rw [←hps.length,e3'.length,List.length_take];omega);unfold fh at h2;split at h2
       · simp at h2;subst h2;refine cK.2 ⟨_,_,_,rfl,by omega,by simp [nD],.inr ⟨b.1,0,sz,rfl,tY n hps hpl e2'⟩⟩
       · simp only [Option.ite_none_right_eq_some,Option.some.injEq] at h2;obtain ⟨rfl,rfl⟩:=h2;exact cK.2 ⟨_,_,_,rfl,by omega,by omega,.inr ⟨b.1,0,1,rfl,rf hps e2'⟩⟩
     split at h
     · rename_i hlen;simp only [Option.map_eq_some_iff,Option.bind_eq_some_iff] at h;obtain ⟨els,⟨ps,h1,h2⟩,rfl⟩:=h;exact key ps els (by rw [List.take_of_length_le (by omega)];exact h1) (DH h1) (by omega) h2
     · simp only [Option.ite_none_right_eq_some,Option.map_eq_some_iff,Option.bind_eq_some_iff] at h;obtain ⟨⟨hmb,hlen⟩,els,⟨ps,h1,h2⟩,rfl⟩:=h;exact key ps els h1 hmb hlen h2
   · simp at h
 | agg cs=>exact absurd rfl (hx cs)
 | _=>simp only [ee] at h;exact (nu h hr).mono hle.K
theorem tt {sh:Sh} {x:AV} {p:PV} (h:ee sh x=some p) (hl:bp x=true):eI p=true:=by
 cases x with
 | bE s sz n ag=>
   simp only [ee] at h;split at h
   · split at h
     · simp only [Option.map_eq_some_iff] at h;obtain ⟨els,_,rfl⟩:=h;rfl
     · simp only [Option.ite_none_right_eq_some,Option.map_eq_some_iff] at h;obtain ⟨_,els,_,rfl⟩:=h;rfl
   · simp at h
 | _=>simp only [ee] at h;exact oE h hl
theorem vm {x:AV} (h:bp x=true):∀cs,x≠.agg cs:=by
 rintro cs rfl;simp [bp] at h
theorem km {G':Gh} {sh:Sh} {ks:List Nat} (hle:G.le G') (hf:jE ns G G' sh ks) (hl:∀(s:Nat) (cells:List AV),sh[s]?=some (some cells)→cells.all bp=true) :
   ∀{cs:List AV} {ps:List PV} {vs:List Value},(∀s∈fm (.agg cs),s∈ks)→dT sh cs=some ps→aB (num ns) G cs vs→dV G'.K ps vs
 | [],ps,vs,_,h,hr=>by simp [dT] at h;subst h;simp only [aB] at hr;simp [dV,hr]
 | c::cs,ps,vs,ha,h,hr=>by
   simp only [dT,Option.ite_none_right_eq_some] at h;obtain ⟨hlf,h⟩:=h;split at h
   · rename_i p ps' h1 h2;simp at h;subst h;simp only [aB] at hr;obtain ⟨v,r,rfl,e1,e2⟩:=hr;simp only [dV];refine ⟨v,r,rfl,(nE hle hf hl ?_ (vm hlf) h1 e1).GA (tt h1 hlf),km hle hf hl ?_ h2 e2⟩
     · intro s hs;refine ha s ?_;simp only [fm,List.flatMap_cons,List.mem_append];left;cases c<;>simp_all [fm,bp]
     · intro s hs;refine ha s ?_;simp only [fm,List.flatMap_cons,List.mem_append] at hs ⊢;exact .inr hs
   · simp at h
theorem rh {G':Gh} {sh:Sh} {ks:List Nat} (hle:G.le G') (hf:jE ns G G' sh ks) (hl:∀(s:Nat) (cells:List AV),sh[s]?=some (some cells)→cells.all bp=true)
   {x:AV} {p:PV} {v:Value} (ha:∀s∈fm x,s∈ks) (h:dR sh x=some p) (hr:aC (num ns) G x v):Rel G'.K p v:=by
 by_cases hx:∃cs,x=.agg cs
 · obtain ⟨cs,rfl⟩:=hx;simp only [dR,Option.map_eq_some_iff] at h;obtain ⟨ps,h1,rfl⟩:=h;simp only [aC] at hr;obtain ⟨vs,rfl,hr⟩:=hr;simp only [Rel];exact ⟨vs,rfl,km hle hf hl ha h1 hr⟩
 · have hx':∀cs,x≠.agg cs:=fun cs e=>hx ⟨cs,e⟩
   have:dR sh x=ee sh x:=by cases x<;>first | rfl | exact absurd rfl (hx' _)
   rw [this] at h;exact nE hle hf hl ha hx' h hr
theorem pJ {G':Gh} {sh:Sh} {ks:List Nat} (hle:G.le G') (hf:jE ns G G' sh ks) (hl:∀(s:Nat) (cells:List AV),sh[s]?=some (some cells)→cells.all bp=true) :
   ∀{xs:List AV} {ps:List PV} {vs:List Value},(∀s∈xs.flatMap fm,s∈ks)→dF sh xs=some ps→aB (num ns) G xs vs→iZ G'.K ps vs
 | [],ps,vs,_,h,hr=>by simp [dF] at h;subst h;simp only [aB] at hr;exact hr
 | c::cs,ps,vs,ha,h,hr=>by
   simp only [dF] at h;split at h
   · rename_i p ps' h1 h2;simp at h;subst h;simp only [aB] at hr;obtain ⟨v,r,rfl,e1,e2⟩:=hr;simp only [List.flatMap_cons,List.mem_append] at ha;exact ⟨v,r,rfl,rh hle hf hl (fun s hs=>ha s (.inl hs)) h1 e1,pJ hle hf hl (fun s hs=>ha s (.inr hs)) h2 e2⟩
   · simp at h
theorem Inv.ri {mem:List (Nat×List AV)} {sh:Sh} {ah:aN} (hi:Inv (num ns) G w mem sh ah):∀(s:Nat) (cells:List AV),sh[s]?=some (some cells)→cells.all bp=true:=by
 intro s cells hs;obtain ⟨b,_,_,e3,_⟩:=hi.dP s cells hs;exact iP e3
end
end Go.Ab
