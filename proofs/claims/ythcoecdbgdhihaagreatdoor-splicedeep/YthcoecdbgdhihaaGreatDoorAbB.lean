import Derived.Test.YthcoecdbgdhihaaGreatDoorAbA
import Derived.Orders
import Derived.Tactics
import Derived.OrdersIn
import Derived.TacticsIn
import Derived.LoopNIn
import Derived.RangeFuncCalls
import Derived.RangeFuncIn
import Derived.RangeFuncRecord
import Derived.RangeFuncSeq
/-
  Shared arrays that are frozen: from then on they are known for good.
  Forgetting what is no longer wanted; tokens named anew at the head of a loop.
  Tokens named anew.
  Handing over to a callee and taking back.
  One operation of a region: what the evaluator gives is what the model does.
  A region: in the order of the text, and in whatever order the tape picks.
  A region that draws its order: whatever order is picked, the end is that of the text's order.
  Two operations that have nothing to do with one another may change places; so the order of the text serves every order.
  Operations and regions inside the fence that asks nothing, in a round of a range over a function or not.
  Without fuel: the limit of the evaluator.
  Rules for running slim code by the simplifier: each is an equation on constructors.
  Ranges over a slice backward: the iterator's contract.
  slices.Clone: its argument appended to an empty slice.
  Code and functions: what the evaluator gives is what the model does.
-/
set_option linter.unusedVariables false
set_option linter.unusedSimpArgs false
set_option linter.unnecessarySimpa false
set_option maxRecDepth 100000
set_option maxHeartbeats 8000000
namespace Go.Ab
section
variable {P:Program} {ns:Names} {G:Gh} {w:World}
def Gh.freeze(G:Gh)(b:Nat)(c:Array Value):Gh:=
 { G with K:=fun k o=>if k=b then c[o]? else G.K k o,role:=fun k=>if k=b then .dQ else G.role k }
theorem Inv.freeze{mem:List (Nat×List AV)}{sh:Sh}{aa:aD}(hi:Inv (num ns) G w mem sh aa){s b:Nat}{cells:List AV}{c:Array Value}{t:TypeId}
   (hr:G.role b=.shr s) (hh:w.heap[b]?=some (.cells c t (0,0))) :
   Inv (num ns) (G.freeze b c) w mem (sh.set s none) aa∧G.le (G.freeze b c)∧bw G w (G.freeze b c) w:=by
 have hK:G.K.le (G.freeze b c).K:=fun k o v hk=>by
   simp only[Gh.freeze];rw[if_neg]
   ·exact hk
   · rintro rfl
     rcases hi.aT _ _ _ hk with h|⟨τ,h⟩<;>rw[hr]at h<;>simp at h
 have hle:G.le (G.freeze b c):=⟨hK,fun _ _ h=>h,fun _ _ h=>h,fun _ t h=>⟨t,h,⟨Nat.le_refl _,t.e6⟩,fun _=>rfl⟩⟩
 have hrole:∀k r,G.role k=r→r≠.shr s→(G.freeze b c).role k=r:=by
   intro k r hk hn;simp only[Gh.freeze];rw[if_neg]
   ·exact hk
   ·rintro rfl;exact hn (hk.symm.trans hr)
 have hevo:bw G w (G.freeze b c) w:={
           size:=Nat.le_refl _,os:=rfl,tape:=rfl,output:=rfl,K:=hK,sm:=fun _ _ h=>h,
           dQ:=fun k _ hk=>⟨hrole k _ hk (by simp),rfl⟩
           gp:=fun k τ _ hk=>.inr ⟨τ,hrole k _ hk (by simp)⟩
           e8:=fun k o v _ hk hkk=>by
             simp only[Gh.freeze]at hkk
             rwa [if_neg (by rintro rfl;rw[hr]at hk;simp at hk)]at hkk }
 refine⟨⟨?_,?_,?_,?_,hi.e7,?_,?_,?_,hi.ed,hi.fu hevo⟩,hle,hevo⟩
 · intro k o v hk;simp only[Gh.freeze]at hk;split at hk
   ·rename_i e;subst e;simp[World.cell?,hh,hk]
   ·exact hi.known k o v hk
 · intro k o v hk;simp only[Gh.freeze]at hk;split at hk
   ·rename_i e;subst e;left;simp[Gh.freeze]
   ·rename_i e;simp only[Gh.freeze,if_neg e];exact hi.aT k o v hk
 · intro k hk;simp only[Gh.freeze];split
   ·rfl
   ·exact hi.fresh k hk
 ·intro d cs hd;obtain⟨b',e1,e2,e3⟩:=hi.cD d cs hd;exact⟨b',e1,e2.mono hle ((hrole b' _ e2.role (by simp)).trans e2.role.symm) rfl,e3⟩
 · intro s' cs hs';rw[List.getElem?_set]at hs';split at hs'
   ·split at hs'<;>simp at hs'
   ·rename_i hne;obtain⟨b',e1,e2,e3⟩:=hi.cX s' cs hs';exact⟨b',e1,e2.mono hle ((hrole b'.1 _ e2.role (by simp;exact fun h=>hne h.symm)).trans e2.role.symm) rfl,e3⟩
 ·intro s' b' h;simpa using hi.dT s' b' h
 · intro τ n hn;obtain⟨tk,e1,e2,e3⟩:=hi.cQ τ n hn;refine⟨tk,e1,e2,e3.cap,e3.zero,fun hlt=>?_⟩;obtain⟨b',o,cc,ty,f1,f2,f3,f4,f5⟩:=e3.spare hlt;refine⟨b',o,cc,ty,f1,hrole b' _ f2 (by simp),f3,f4,fun j v hk=>f5 j v ?_⟩;simp only[Gh.freeze]at hk
   rwa [if_neg (by rintro rfl;rw[hr]at f2;simp at f2)]at hk
def iu(ns:Names)(G G':Gh)(sh:Sh)(ks:List Nat):Prop:=
 ∀s∈ks,∀cells,sh[s]?=some (some cells)→bU cells=false→∃b vs,G.sm s=some b∧At G'.K b.1 0 vs∧aq (num ns) G' cells vs
theorem uy{sh:Sh}{s:Nat}(h:∀cells,sh[s]?≠some (some cells)):sh.set s none=sh:=by
 apply List.ext_getElem?
 intro j;rw[List.getElem?_set];split
 · rename_i e;subst e;split
   · rename_i hlt;cases hh:sh[s] with
     |none=>rw[List.getElem?_eq_getElem hlt,hh]
     |some cells=>exact absurd (by rw[List.getElem?_eq_getElem hlt,hh]) (h cells)
   ·rename_i hge;rw[List.getElem?_eq_none (by omega)]
 ·rfl
theorem Inv.drop{mem:List (Nat×List AV)}{sh:Sh}{aa:aD}{G:Gh}(hi:Inv (num ns) G w mem sh aa)(s:Nat):Inv (num ns) G w mem (sh.set s none) aa:=
 { hi with
   cX:=fun s' cells hs=>by
     rw[List.getElem?_set]at hs;split at hs
     ·split at hs<;>simp at hs
     ·exact hi.cX s' cells hs
   dT:=fun s' b h=>by simpa using hi.dT s' b h }
theorem Inv.kill{mem:List (Nat×List AV)}{aa:aD}:∀(ks:List Nat) {sh:Sh} {G:Gh},Inv (num ns) G w mem sh aa →
   ∃G',Inv (num ns) G' w mem (kill sh ks) aa∧G.le G'∧bw G w G' w∧iu ns G G' sh ks∧G'.sm=G.sm
 |[],sh,G,hi=>⟨G,hi,G.le_refl,bw.refl G w,fun s h=>by simp at h,rfl⟩
 |s::ks,sh,G,hi=>by
   have hk:Go.Ab.kill sh (s::ks)=Go.Ab.kill (sh.set s none) ks:=rfl;by_cases hs:∃cells,sh[s]?=some (some cells)
   · obtain⟨cells,hs⟩:=hs;obtain⟨b,e1,e2,_⟩:=hi.cX s cells hs;cases hmb:bU cells with
     |true=>
       obtain⟨G',h1,h2,h3,h4,h5⟩:=Inv.kill ks (hi.drop s);refine⟨G',by rw[hk];exact h1,h2,h3,?_,h5⟩;intro s' hs' cells' hc' hm';by_cases he:s'=s
       ·subst he;rw[hs]at hc';cases hc';rw[hmb]at hm';cases hm'
       ·simp only[List.mem_cons]at hs';exact h4 s' (hs'.resolve_left he) cells' (by rw[List.getElem?_set,if_neg (fun e=>he e.symm)];exact hc') hm'
     |false=>
     obtain⟨hr,c,t,vs,suf,hh,_,hsp,hrel⟩:=e2.cells hmb;obtain⟨g1,g2,g3⟩:=hi.freeze (cells:=cells) hr hh;obtain⟨G',h1,h2,h3,h4,h5⟩:=Inv.kill ks g1;refine⟨G',by rw[hk];exact h1,Gh.le_trans g2 h2,g3.trans h3,?_,h5⟩;intro s' hs' cells' hc' hm';by_cases he:s'=s
     · subst he;rw[hs]at hc';cases hc';refine⟨b,vs,e1,?_,aq.mono (Gh.le_trans g2 h2) hrel⟩;intro j v hj;apply h2.K;simp only[Gh.freeze,if_true,Nat.zero_add];have:c.toList[j]?=some v:=by rw[hsp,List.getElem?_append_left (List.getElem?_eq_some_iff.1 hj).1];exact hj
       simpa using this
     ·simp only[List.mem_cons]at hs';have:=h4 s' (hs'.resolve_left he) cells' (by rw[List.getElem?_set,if_neg (fun e=>he e.symm)];exact hc') hm';exact this
   · have hset:=uy (sh:=sh) (s:=s) (fun cells h=>hs ⟨cells,h⟩);obtain⟨G',h1,h2,h3,h4,h5⟩:=Inv.kill ks hi;refine⟨G',by rw[hk,hset];exact h1,h2,h3,?_,h5⟩;intro s' hs' cells' hc' hm';simp only[List.mem_cons]at hs';rcases hs' with rfl|hs'
     ·exact absurd ⟨cells',hc'⟩ hs
     ·exact h4 s' hs' cells' hc' hm'
theorem A8{cs:List AV}{ps:List PV}(h:eV cs=some ps):bU cs=false:=by
 cases cs with
 |nil=>rfl
 |cons c cs=>cases c<;>first|rfl|simp[eV,jC]at h
theorem uz:∀{cs:List AV} {ps:List PV} {vs:List Value},eV cs=some ps→cs.all aP=true→aq (num ns) G cs vs→dk G.K ps vs
 |[],ps,vs,h,_,hr=>by simp[eV]at h;subst h;simp only[aq]at hr;simp[dk,hr]
 |c::cs,ps,vs,h,hl,hr=>by
   simp only[eV]at h;simp only[List.all_cons,Bool.and_eq_true]at hl;split at h
   ·rename_i p ps' h1 h2;simp at h;subst h;simp only[aq]at hr;obtain⟨v,r,rfl,e1,e2⟩:=hr;simp only[dk];exact⟨v,r,rfl,(lC h1 e1).D1 (mA h1 hl.1),uz h2 hl.2 e2⟩
   ·simp at h
theorem qN{K:aY}{b sz:Nat}:∀(n:Nat) {ps:List PV} {vs:List Value} {o:Nat},dk K ps vs→ps.length=n*sz→At K b o vs→Row K b o sz ((chunk sz n ps).map .agg)
 |0,_,_,_,_,_,_=>by simp only[chunk,List.map_nil,Row]
 |n+1,ps,vs,o,hr,hl,ha=>by
   have hlv:=hr.length;rw[Nat.add_mul]at hl;simp only[chunk,List.map_cons,Row];refine⟨⟨vs.take sz,by simp;omega,?_,?_⟩,qN n (dk.drop sz hr) (by simp;omega) ?_⟩
   · intro j v hj;rw[List.getElem?_take]at hj;split at hj
     ·exact ha j v hj
     ·simp at hj
   ·simp only[R];exact⟨trivial,dk.take sz hr⟩
   · intro j v hj;rw[List.getElem?_drop]at hj;have:=ha _ v hj
     rwa [←Nat.add_assoc]at this
theorem lG{sz:Nat}:∀(n:Nat) (ps:List PV),(chunk sz n ps).length=n
 |0,_=>rfl
 |n+1,ps=>by simp[chunk,lG n]
theorem o5{K:aY}{b:Nat}:∀{ps:List PV} {vs:List Value} {o:Nat},dk K ps vs→At K b o vs→Row K b o 1 ps
 |[],_,_,_,_=>by simp only[Row]
 |p::ps,vs,o,hr,ha=>by
   simp only[dk]at hr;obtain⟨v,r,rfl,e1,e2⟩:=hr;simp only[Row];refine⟨⟨[v],rfl,?_,R.top e1⟩,o5 e2 ?_⟩
   · intro j u hj;cases j with
     |zero=>simp at hj;subst hj;exact ha 0 v rfl
     |succ j=>simp at hj
   · intro j u hj;have:=ha (j+1) u (by simpa using hj)
     rwa [show o+(j+1)=o+1+j from by omega]at this
theorem D6{l:List AV}(n:Nat)(h:l.all aP=true):(l.take n).all aP=true:=by
 rw[List.all_eq_true]at h⊢;exact fun x hx=>h x (List.mem_of_mem_take hx)
theorem lH{G':Gh}{sh:Sh}{ks:List Nat}{x:AV}{p:PV}{v:Value}(hle:G.le G')(hf:iu ns G G' sh ks)(hl:∀(s:Nat) (cells:List AV),sh[s]?=some (some cells)→cells.all aP=true)
   (ha:∀s∈dJ x,s∈ks) (hx:∀cs,x≠.agg cs) (h:dj sh x=some p) (hr:au (num ns) G x v):Rel G'.K p v:=by
 cases x with
 |aM s sz n ag=>
   simp only[dj]at h;split at h
   · rename_i cells hc
     have key:∀ps els,eV (cells.take (n*sz))=some ps→bU cells=false→n*sz≤cells.length→dy sz ag n ps=some els→Rel G'.K (.az els) v:=by
       intro ps els h1 hmb hlen h2;obtain⟨b,vs,e1,e2,e3⟩:=hf s (ha s (by simp[dJ])) cells hc hmb;simp only[au]at hr;obtain⟨b',cap,hb,rfl,_⟩:=hr;rw[e1]at hb;cases hb;have e3':aq (num ns) G' (cells.take (n*sz)) (vs.take (n*sz)):=e3.take _
       have e2':At G'.K b.1 0 (vs.take (n*sz)):=by
         intro j u hj;rw[List.getElem?_take]at hj;split at hj
         ·exact e2 j u hj
         ·simp at hj
       have hps:=uz h1 (D6 _ (hl s cells hc)) e3';have hpl:ps.length=n*sz:=(by rw[←hps.length,e3'.length,List.length_take];omega);unfold dy at h2;split at h2
       ·simp at h2;subst h2;refine bO.2 ⟨_,_,_,rfl,by omega,by simp[lG],.inr ⟨b.1,0,sz,rfl,qN n hps hpl e2'⟩⟩
       ·simp only[Option.ite_none_right_eq_some,Option.some.injEq]at h2;obtain⟨rfl,rfl⟩:=h2;exact bO.2 ⟨_,_,_,rfl,by omega,by omega,.inr ⟨b.1,0,1,rfl,o5 hps e2'⟩⟩
     split at h
     ·rename_i hlen;simp only[Option.map_eq_some_iff,Option.bind_eq_some_iff]at h;obtain⟨els,⟨ps,h1,h2⟩,rfl⟩:=h;exact key ps els (by rw[List.take_of_length_le (by omega)];exact h1) (A8 h1) (by omega) h2
     ·simp only[Option.ite_none_right_eq_some,Option.map_eq_some_iff,Option.bind_eq_some_iff]at h;obtain⟨⟨hmb,hlen⟩,els,⟨ps,h1,h2⟩,rfl⟩:=h;exact key ps els h1 hmb hlen h2
   ·simp at h
 |agg cs=>exact absurd rfl (hx cs)
 |_=>simp only[dj]at h;exact (lC h hr).mono hle.K
theorem qv{sh:Sh}{x:AV}{p:PV}(h:dj sh x=some p)(hl:aP x=true):da p=true:=by
 cases x with
 |aM s sz n ag=>
   simp only[dj]at h;split at h
   · split at h
     ·simp only[Option.map_eq_some_iff]at h;obtain⟨els,_,rfl⟩:=h;rfl
     ·simp only[Option.ite_none_right_eq_some,Option.map_eq_some_iff]at h;obtain⟨_,els,_,rfl⟩:=h;rfl
   ·simp at h
 |_=>simp only[dj]at h;exact mA h hl
theorem sn{x:AV}(h:aP x=true):∀cs,x≠.agg cs:=by
 rintro cs rfl;simp[aP]at h
theorem iZ{G':Gh}{sh:Sh}{ks:List Nat}(hle:G.le G')(hf:iu ns G G' sh ks)(hl:∀(s:Nat) (cells:List AV),sh[s]?=some (some cells)→cells.all aP=true) :
   ∀{cs:List AV} {ps:List PV} {vs:List Value},(∀s∈dJ (.agg cs),s∈ks)→bJ sh cs=some ps→aq (num ns) G cs vs→dk G'.K ps vs
 |[],ps,vs,_,h,hr=>by simp[bJ]at h;subst h;simp only[aq]at hr;simp[dk,hr]
 |c::cs,ps,vs,ha,h,hr=>by
   simp only[bJ,Option.ite_none_right_eq_some]at h;obtain⟨hlf,h⟩:=h;split at h
   · rename_i p ps' h1 h2;simp at h;subst h;simp only[aq]at hr;obtain⟨v,r,rfl,e1,e2⟩:=hr;simp only[dk];refine⟨v,r,rfl,(lH hle hf hl ?_ (sn hlf) h1 e1).D1 (qv h1 hlf),iZ hle hf hl ?_ h2 e2⟩
     ·intro s hs;refine ha s ?_;simp only[dJ,List.flatMap_cons,List.mem_append];left;cases c<;>simp_all[dJ,aP]
     ·intro s hs;refine ha s ?_;simp only[dJ,List.flatMap_cons,List.mem_append]at hs⊢;exact .inr hs
   ·simp at h
theorem o7{G':Gh}{sh:Sh}{ks:List Nat}(hle:G.le G')(hf:iu ns G G' sh ks)(hl:∀(s:Nat) (cells:List AV),sh[s]?=some (some cells)→cells.all aP=true)
   {x:AV} {p:PV} {v:Value} (ha:∀s∈dJ x,s∈ks) (h:iC sh x=some p) (hr:au (num ns) G x v):Rel G'.K p v:=by
 by_cases hx:∃cs,x=.agg cs
 ·obtain⟨cs,rfl⟩:=hx;simp only[iC,Option.map_eq_some_iff]at h;obtain⟨ps,h1,rfl⟩:=h;simp only[au]at hr;obtain⟨vs,rfl,hr⟩:=hr;simp only[Rel];exact⟨vs,rfl,iZ hle hf hl ha h1 hr⟩
 · have hx':∀cs,x≠.agg cs:=fun cs e=>hx ⟨cs,e⟩;have:iC sh x=dj sh x:=by cases x<;>first|rfl|exact absurd rfl (hx' _)
   rw[this]at h;exact lH hle hf hl ha hx' h hr
theorem nv{G':Gh}{sh:Sh}{ks:List Nat}(hle:G.le G')(hf:iu ns G G' sh ks)(hl:∀(s:Nat) (cells:List AV),sh[s]?=some (some cells)→cells.all aP=true) :
   ∀{xs:List AV} {ps:List PV} {vs:List Value},(∀s∈xs.flatMap dJ,s∈ks)→cL sh xs=some ps→aq (num ns) G xs vs→gI G'.K ps vs
 |[],ps,vs,_,h,hr=>by simp[cL]at h;subst h;simp only[aq]at hr;exact hr
 |c::cs,ps,vs,ha,h,hr=>by
   simp only[cL]at h;split at h
   ·rename_i p ps' h1 h2;simp at h;subst h;simp only[aq]at hr;obtain⟨v,r,rfl,e1,e2⟩:=hr;simp only[List.flatMap_cons,List.mem_append]at ha;exact⟨v,r,rfl,o7 hle hf hl (fun s hs=>ha s (.inl hs)) h1 e1,nv hle hf hl (fun s hs=>ha s (.inr hs)) h2 e2⟩
   ·simp at h
theorem Inv.o_{mem:List (Nat×List AV)}{sh:Sh}{aa:aD}(hi:Inv (num ns) G w mem sh aa):∀(s:Nat) (cells:List AV),sh[s]?=some (some cells)→cells.all aP=true:=by
 intro s cells hs;obtain⟨b,_,_,e3,_⟩:=hi.cX s cells hs;exact gz e3
end
end Go.Ab
namespace Go.Ab
section
variable {ns:Names} {G:Gh} {w:World}
mutual
theorem gF{ρ:bC}{G':Gh}(hK:G.K.le G'.K)(hs:∀s b,G.sm s=some b→G'.sm s=some b):∀{x:AV} {v:Value},bm x=true→au ρ G x v→au ρ G' x v
 | .pv p,_,_,h=>by simp only[au]at h⊢;exact h.mono hK
 | .un,_,_,h=>by simpa only[au] using h
 | .di _,_,_,h=>by simp only[au]at h⊢;obtain⟨b,l,e,r⟩:=h;exact⟨b,l,e,r.mono hK⟩
 | .a_ s o,_,_,h=>by simp only[au]at h⊢;obtain⟨b,e,r⟩:=h;exact⟨b,hs _ _ e,r⟩
 | .aM s _ n _,_,_,h=>by simp only[au]at h⊢;obtain⟨b,c,e,r⟩:=h;exact⟨b,c,hs _ _ e,r⟩
 | .eD _,_,_,h=>by simp only[au]at h⊢;obtain⟨b,o,vs,e,f,r⟩:=h;exact⟨b,o,vs,e,f.mono hK,dk.mono hK _ _ r⟩
 | .iz,_,_,h=>by simpa only[au] using h
 | .iA s,_,_,h=>by simp only[au]at h⊢;obtain⟨b,e,r⟩:=h;exact⟨b,hs _ _ e,r⟩
 | .mo s _ _,_,_,h=>by simp only[au]at h⊢;obtain⟨b,x,c,e,r⟩:=h;exact⟨b,x,c,hs _ _ e,r⟩
 | .eE _,_,_,h=>by simp only[au]at h
 | .fn g cap,_,hp,h=>by
   simp only[bm]at hp;simp only[au]at h⊢;obtain⟨f,vs,e1,e2,r⟩:=h;exact⟨f,vs,e1,e2,j8 hK hs hp r⟩
 | .agg cs,_,hp,h=>by
   simp only[bm]at hp;simp only[au]at h⊢;obtain⟨vs,e,r⟩:=h;exact⟨vs,e,j8 hK hs hp r⟩
 | .m8 cs,_,hp,h=>by
   simp only[bm]at hp;simp only[au]at h⊢;obtain⟨vs,e,r⟩:=h;exact⟨vs,e,j8 hK hs hp r⟩
 | .own _ _,_,hp,_=>by simp[bm]at hp
 | .aK _ _,_,hp,_=>by simp[bm]at hp
 | .g_ _ _,_,hp,_=>by simp[bm]at hp
theorem j8{ρ:bC}{G':Gh}(hK:G.K.le G'.K)(hs:∀s b,G.sm s=some b→G'.sm s=some b):∀{xs:List AV} {vs:List Value},bm.dI xs=true→aq ρ G xs vs→aq ρ G' xs vs
 |[],_,_,h=>by simpa only[aq] using h
 |x::xs,_,hp,h=>by
   simp only[bm.dI,Bool.and_eq_true]at hp;simp only[aq]at h⊢;obtain⟨v,r,e,e1,e2⟩:=h;exact⟨v,r,e,gF hK hs hp.1 e1,j8 hK hs hp.2 e2⟩
end
mutual
theorem i_:∀{x:AV},bA x=true→bm x=true
 | .pv _,_=>rfl
 | .a_ ..,_=>rfl
 | .aM ..,_=>rfl
 | .iz,_=>rfl
 | .iA _,_=>rfl
 | .eE _,_=>rfl
 | .mo ..,h=>by simp[bA]at h
 | .fn _ cap,h=>by simp only[bA]at h;simp only[bm];exact kP h
 | .un,h=>by simp[bA]at h
 | .di _,h=>by simp[bm]
 | .own _ _,h=>by simp[bA]at h
 | .agg _,h=>by simp only[bA]at h;simp only[bm];exact kP h
 | .m8 _,h=>by simp[bA]at h
 | .aK _ _,h=>by simp[bA]at h
 | .g_ _ _,h=>by simp[bA]at h
 | .eD _,h=>by simp[bA]at h
theorem kP:∀{xs:List AV},bA.gr xs=true→bm.dI xs=true
 |[],_=>rfl
 |x::xs,h=>by
   simp only[bA.gr,Bool.and_eq_true]at h;simp only[bm.dI,Bool.and_eq_true];exact⟨i_ h.1,kP h.2⟩
end
theorem qO{ρ:bC}{G':Gh}(hK:G.K.le G'.K)(hs:∀s b,G.sm s=some b→G'.sm s=some b)(ht:∀τ t,G.tk τ=some t→G'.tk τ=some t){x:AV}{v:Value}(hf:h_ x=true)(h:au ρ G x v):au ρ G' x v:=by
 cases x with
 |own l τ=>
   simp only[au]at h⊢;obtain⟨t,e1,e2,e3,e4⟩:=h;exact⟨t,ht _ _ e1,e2,e3.mono hK,fun hl=>⟨(e4 hl).1,Hm (e4 hl).2 fun⟨b,o,e,r⟩=>⟨b,o,e,Row.mono hK _ _ _ _ r⟩⟩⟩
 |_=>exact gF hK hs (by simpa[h_] using hf) h
theorem gQ{ρ:bC}{G':Gh}(hK:G.K.le G'.K)(hs:∀s b,G.sm s=some b→G'.sm s=some b)(ht:∀τ t,G.tk τ=some t→G'.tk τ=some t):∀{xs:List AV} {vs:List Value},ew xs=true→aq ρ G xs vs→aq ρ G' xs vs
 |[],_,_,h=>by simpa only[aq] using h
 |x::xs,_,hp,h=>by
   simp only[ew,Bool.and_eq_true]at hp;simp only[aq]at h⊢;obtain⟨v,r,e,e1,e2⟩:=h;exact⟨v,r,e,qO hK hs ht hp.1 e1,gQ hK hs ht hp.2 e2⟩
theorem kQ{x:AV}(h:aP x=true):bm x=true∨∃l τ,x=.own l τ:=by
 cases x with
 |own l τ=>exact .inr ⟨l,τ,rfl⟩
 |fn g cap=>exact .inl (i_ (by simpa[aP] using h))
 |pv p=>exact .inl rfl
 |di _=>exact .inl rfl
 |a_ _ _=>exact .inl rfl
 |aM _ _ _ _=>exact .inl rfl
 |iz=>exact .inl rfl
 |iA _=>exact .inl rfl
 |eE _=>exact .inl rfl
 |_=>simp[aP]at h
theorem dc{live:List Nat}{env:List (Nat×AV)}:∀{l:List Nat} {t:Nat} {v:AV},look (bn live env l) t=some v→look env t=some v∧dC live v=true∧t∈l
 |[],t,v,h=>by simp[bn,look]at h
 |s::l,t,v,h=>by
   simp only[bn]at h;split at h
   · rename_i u hu;split at h
     · rename_i hk;simp only[look]at h;split at h
       ·rename_i e;subst e;cases h;exact⟨hu,hk,by simp⟩
       ·obtain⟨h1,h2,h3⟩:=dc h;exact⟨h1,h2,by simp[h3]⟩
     ·obtain⟨h1,h2,h3⟩:=dc h;exact⟨h1,h2,by simp[h3]⟩
   ·obtain⟨h1,h2,h3⟩:=dc h;exact⟨h1,h2,by simp[h3]⟩
theorem dd{mem:List (Nat×List AV)}:∀{l:List Nat} {t:Nat},look (bq mem l) t=if t∈l then look mem t else none
 |[],t=>by simp[bq,look]
 |s::l,t=>by
   simp only[bq];by_cases ot:s=t
   · subst ot;cases hm:look mem s with
     |none=>simp only[hm];rw[dd,hm];simp
     |some v=>simp[look]
   · have hts:t≠s:=fun e=>ot e.symm;cases hm:look mem s with
     |none=>simp only[hm];rw[dd];simp[hts]
     |some v=>simp only[look,ot,if_false];rw[dd];simp[hts]
def Gh.aR(G:Gh)(live:List Nat):Gh:={ G with pm:=fun d=>if d∈live then G.pm d else none }
theorem uA{ρ:bC}{live:List Nat}{x:AV}{v:Value}(hk:dC live x=true)(h:au ρ G x v):au ρ (G.aR live) x v:=by
 have flat:bm x=true→au ρ (G.aR live) x v:=fun hf=>gF (G:=G) (G':=G.aR live) (aY.le_refl G.K) (fun _ _ h=>h) hf h;cases x with
 |aK d o=>
   simp only[au]at h⊢;obtain⟨b,e,r⟩:=h;simp[dC]at hk;exact⟨b,by simp[Gh.aR,hk,e],r⟩
 |g_ d o=>
   simp only[au]at h⊢;obtain⟨b,e,r⟩:=h;simp[dC]at hk;exact⟨b,by simp[Gh.aR,hk,e],r⟩
 |own l τ=>
   simp only[au]at h⊢;exact h
 |agg cs=>
   simp only[au]at h⊢;obtain⟨vs,e,r⟩:=h;exact⟨vs,e,gQ (G:=G) (G':=G.aR live) (aY.le_refl G.K) (fun _ _ h=>h) (fun _ _ h=>h) (by simpa[dC] using hk) r⟩
 |_=>exact flat (by simpa[dC] using hk)
theorem A9{ρ:bC}{live:List Nat}{x:AV}{v:Value}(hl:aP x=true)(h:au ρ G x v):au ρ (G.aR live) x v:=by
 rcases kQ hl with hf|⟨l,τ,rfl⟩
 ·exact gF (G:=G) (G':=G.aR live) (aY.le_refl G.K) (fun _ _ h=>h) hf h
 ·simp only[au]at h⊢;exact h
theorem jK{ρ:bC}{live:List Nat}:∀{xs:List AV} {vs:List Value},xs.all aP=true→aq ρ G xs vs→aq ρ (G.aR live) xs vs
 |[],_,_,h=>by simpa only[aq] using h
 |x::xs,_,hl,h=>by
   simp only[List.all_cons,Bool.and_eq_true]at hl;simp only[aq]at h⊢;obtain⟨v,r,e,e1,e2⟩:=h;exact⟨v,r,e,A9 hl.1 e1,jK hl.2 e2⟩
theorem Inv.aR{mem:List (Nat×List AV)}{sh:Sh}{aa:aD}(hi:Inv (num ns) G w mem sh aa)(live:List Nat):Inv (num ns) (G.aR live) w (bq mem live) sh aa where
 known:=hi.known
 aT:=hi.aT
 fresh:=hi.fresh
 cD:=fun d cells hd=>by
   rw[dd]at hd;split at hd
   ·rename_i hl;obtain⟨b,e1,e2,e3⟩:=hi.cD d cells hd;obtain⟨hr,c,t,hh,hrel⟩:=e2;exact⟨b,by simp[Gh.aR,hl,e1],⟨hr,c,t,hh,jK e3 hrel⟩,e3⟩
   ·simp at hd
 e7:=fun d b hd=>by
   simp only[Gh.aR]at hd;split at hd
   ·rename_i hl;rw[dd,if_pos hl];exact hi.e7 d b hd
   ·simp at hd
 cX:=fun s cells hs=>by
   obtain⟨b,e1,e2,e3,e4⟩:=hi.cX s cells hs;obtain⟨hr,o,hh,hrel⟩:=e2;exact⟨b,e1,⟨hr,o,hh,hrel.to (fun _ _ _ h=>h) (fun _ e=>e) (fun _ r=>jK (gz e3) r)⟩,e3,e4⟩
 dT:=hi.dT
 cQ:=fun τ n hn=>by
   obtain⟨t,e1,e2,e3⟩:=hi.cQ τ n hn;exact⟨t,e1,e2,e3.cap,e3.zero,e3.spare⟩
 ed:=hi.ed
 iF:=hi.iF
theorem bw.aR(live:List Nat):bw G w (G.aR live) w:=
 { size:=Nat.le_refl _,os:=rfl,tape:=rfl,output:=rfl,K:=aY.le_refl G.K,sm:=fun _ _ h=>h,dQ:=fun _ _ h=>⟨h,rfl⟩,gp:=fun _ τ _ h=>.inr ⟨τ,h⟩,e8:=fun _ _ _ _ _ h=>h }
theorem fl.restrict{n0 N:Nat}{st:St}{a:Act}(h:fl (num ns) n0 N G st a w)(live:List Nat):fl (num ns) n0 N (G.aR live) (restrict live st) a w:=
 ⟨⟨h.env.size,fun t x hx=>by
   obtain⟨h1,h2,_⟩:=dc hx;obtain⟨v,h3,h4⟩:=h.env.env t x h1;exact⟨v,h3,uA h2 h4⟩⟩,h.inv.aR live,h.marks.na (bw.aR live) rfl⟩
end
end Go.Ab
namespace Go.Ab
section
variable {ns:Names} {G:Gh} {w:World}
structure NS(G:Gh)(aF ts:aD)(m:Nat→Option Nat)(tks:List Tk):Prop where
 ts:ts=tks.map (·.len)
 map:∀τ k,m τ=some k→∃t,G.tk τ=some t∧tks[k]?=some t
 inj:∀τ σ k,m τ=some k→m σ=some k→τ=σ
 free:∀τ t,G.tk τ=some t→m τ=none→aF[τ]?=some t.len
 used:∀τ t k,G.tk τ=some t→m τ=some k→aF[τ]?=some (t.len+1)
 cap:∀k t,tks[k]?=some t→(∃τ,m τ=some k)∨(t.cap=t.len∧t.own=false)
def Gh.jz(G:Gh)(m:Nat→Option Nat)(tks:List Tk):Gh:=
 { G with tk:=fun k=>tks[k]?,role:=fun b=>match G.role b with| .tok τ=>(match m τ with|some k=>.tok k|none=>.dQ)|r=>r }
theorem JJ{m m':Nat→Option Nat}{tks ext:List Tk}:(G.jz m tks).le (G.jz m' (tks++ext)) where
 K:=aY.le_refl G.K
 pm:=fun _ _ h=>h
 sm:=fun _ _ h=>h
 tk:=fun k t h=>⟨t,by
   simp only[Gh.jz]at h⊢;rw[List.getElem?_append_left (List.getElem?_eq_some_iff.1 h).1];exact h,⟨Nat.le_refl _,Tk.e6 _⟩,fun _=>rfl⟩
theorem uB{ρ:bC}{m:Nat→Option Nat}{tks:List Tk}{x:AV}{v:Value}(hf:bm x=true)(h:au ρ G x v):au ρ (G.jz m tks) x v:=
 gF (G:=G) (G':=G.jz m tks) (aY.le_refl G.K) (fun _ _ h=>h) hf h
theorem ja{m:Nat→Option Nat}{tks:List Tk}{b τ:Nat}(h:G.role b=.tok τ):(G.jz m tks).role b=match m τ with|some k=>.tok k|none=>.dQ:=by
 show (match G.role b with| .tok τ=>(match m τ with|some k=>jG.tok k|none=>.dQ)|r=>r)=_;rw[h]
def jr:AV→Bool
 | .aK ..| .g_ ..| .own ..=>true
 | .agg cs=>ew cs
 |v=>bm v
structure A_(ns:Names)(G:Gh)(m:Nat→Option Nat)(tks:List Tk)(old' ts':aD)(m':Nat→Option Nat)(tks':List Tk):Prop where
 uC:NS G old' ts' m' tks'
 ext:∃ext,tks'=tks++ext
theorem A_.le{m m':Nat→Option Nat}{tks tks':List Tk}{old' ts':aD}(h:A_ ns G m tks old' ts' m' tks'):(G.jz m tks).le (G.jz m' tks'):=by
 obtain⟨ext,e⟩:=h.ext;subst e;exact JJ
theorem ny{aF ts:aD}{m:Nat→Option Nat}{tks:List Tk}(hN:NS G aF ts m tks){x:AV}{v:Value}(hx:h_ x=true)(h:au (num ns) G x v) :
   ∃m' tks',A_ ns G m tks (dK aF ts x).2.1 (dK aF ts x).2.2 m' tks'∧au (num ns) (G.jz m' tks') (dK aF ts x).1 v:=by
 have flat:bm x=true→dK aF ts x=(x,aF,ts)→∃m' tks',A_ ns G m tks (dK aF ts x).2.1 (dK aF ts x).2.2 m' tks'∧au (num ns) (G.jz m' tks') (dK aF ts x).1 v:=by
   intro hf e;rw[e];exact⟨m,tks,⟨hN,[],by simp⟩,uB hf h⟩
 cases x with
 |own l τ=>
   simp only[au]at h;obtain⟨t,e1,e2,e3,e4⟩:=h;simp only[dK];split
   · rename_i ho
     have hm:m τ=none:=by
       cases hm:m τ with
       |none=>rfl
       |some k=>
         have:=hN.used τ t k e1 hm;rw[ho]at this;simp at this;omega
     have hlen:l.length=t.len:=by
       have:=hN.free τ t e1 hm;rw[ho]at this;simpa using this
     have hk:ts.length=tks.length:=(by rw[hN.ts];simp);refine⟨fun σ=>if σ=τ then some tks.length else m σ,tks++[t],⟨⟨?_,?_,?_,?_,?_,?_⟩,[t],rfl⟩,?_⟩
     ·rw[hN.ts,hlen];simp
     · intro σ k hk';split at hk'
       ·rename_i e;subst e;simp at hk';subst hk';exact⟨t,e1,by simp⟩
       ·obtain⟨t',g1,g2⟩:=hN.map σ k hk';exact⟨t',g1,by rw[List.getElem?_append_left (List.getElem?_eq_some_iff.1 g2).1];exact g2⟩
     · intro σ σ' k h1 h2;split at h1
       · rename_i e;subst e;split at h2
         ·rename_i e';exact e'.symm
         ·simp at h1;subst h1;obtain⟨t',_,g2⟩:=hN.map σ' _ h2;have:=(List.getElem?_eq_some_iff.1 g2).1;omega
       · split at h2
         ·rename_i e';subst e';simp at h2;subst h2;obtain⟨t',_,g2⟩:=hN.map σ _ h1;have:=(List.getElem?_eq_some_iff.1 g2).1;omega
         ·exact hN.inj σ σ' k h1 h2
     · intro σ t' h1 h2;split at h2
       ·simp at h2
       ·rename_i e;rw[List.getElem?_set,if_neg (fun e'=>e e'.symm)];exact hN.free σ t' h1 h2
     · intro σ t' k h1 h2;split at h2
       ·rename_i e;subst e;rw[e1]at h1;cases h1;rw[List.getElem?_set,if_pos rfl,if_pos (List.getElem?_eq_some_iff.1 ho).1,hlen]
       ·rename_i e;rw[List.getElem?_set,if_neg (fun e'=>e e'.symm)];exact hN.used σ t' k h1 h2
     · intro k t' hk';rw[List.getElem?_append]at hk';split at hk'
       · rcases hN.cap k t' hk' with⟨σ,hσ⟩|hc
         · left;refine⟨σ,?_⟩;rw[if_neg]
           ·exact hσ
           ·rintro rfl;rw[hm]at hσ;simp at hσ
         ·exact .inr hc
       · rename_i hge;left;refine⟨τ,?_⟩
         have:k=tks.length:=by
           have:=(List.getElem?_eq_some_iff.1 hk').1;simp at this;omega
         simp[this]
     ·simp only[au];refine⟨t,by simp[Gh.jz,hk],⟨by omega,e2.2⟩,e3,fun _=>e4 hlen⟩
   ·exact⟨m,tks,⟨hN,[],by simp⟩,by simp only[au];exact e3⟩
 |_=>exact flat (by simpa[h_] using hx) rfl
theorem lI:∀{xs:List AV} {vs:List Value} {aF ts:aD} {m:Nat→Option Nat} {tks:List Tk},NS G aF ts m tks→ew xs=true→aq (num ns) G xs vs →
   ∃m' tks',A_ ns G m tks (cg aF ts xs).2.1 (cg aF ts xs).2.2 m' tks'∧aq (num ns) (G.jz m' tks') (cg aF ts xs).1 vs
 |[],vs,aF,ts,m,tks,hN,_,h=>⟨m,tks,⟨hN,[],by simp⟩,by simpa only[cg,aq] using h⟩
 |x::xs,vs,aF,ts,m,tks,hN,hl,h=>by
   simp only[ew,Bool.and_eq_true]at hl;simp only[aq]at h;obtain⟨v,r,e,e1,e2⟩:=h;subst e;obtain⟨m1,t1,g1,g2⟩:=ny hN hl.1 e1;obtain⟨m2,t2,k1,k2⟩:=lI g1.uC hl.2 e2;refine⟨m2,t2,⟨k1.uC,?_⟩,?_⟩
   ·obtain⟨a,ha⟩:=g1.ext;obtain⟨b,hb⟩:=k1.ext;exact⟨a++b,by rw[hb,ha,List.append_assoc]⟩
   ·simp only[cg,aq];exact⟨v,r,rfl,g2.mono k1.le,k2⟩
theorem jL{aF ts:aD}{m:Nat→Option Nat}{tks:List Tk}(hN:NS G aF ts m tks){x:AV}{v:Value}(hx:jr x=true)(h:au (num ns) G x v) :
   ∃m' tks',A_ ns G m tks (bp aF ts x).2.1 (bp aF ts x).2.2 m' tks'∧au (num ns) (G.jz m' tks') (bp aF ts x).1 v:=by
 have flat:bm x=true→bp aF ts x=(x,aF,ts)→∃m' tks',A_ ns G m tks (bp aF ts x).2.1 (bp aF ts x).2.2 m' tks'∧au (num ns) (G.jz m' tks') (bp aF ts x).1 v:=by
   intro hf e;rw[e];exact⟨m,tks,⟨hN,[],by simp⟩,uB hf h⟩
 cases x with
 |own l τ=>exact ny (x:=.own l τ) hN rfl h
 |di l=>
   simp only[au]at h;obtain⟨base,len,rfl,hsl⟩:=h;have hk:ts.length=tks.length:=by rw[hN.ts];simp
   have hlen:=hsl.1
   obtain⟨sz,hrow⟩:∃sz,l=[]∨∃b o,base=some ⟨b,o,none⟩∧Row G.K b o sz l:=by
     rcases hsl.2 with h1|⟨b,o,sz,e,hr⟩
     ·exact⟨0,.inl h1⟩
     ·exact⟨sz,.inr ⟨b,o,e,hr⟩⟩
   let t:Tk:=⟨base,len,len,sz,false⟩
   refine⟨m,tks++[t],⟨⟨?_,?_,hN.inj,hN.free,hN.used,?_⟩,[t],rfl⟩,?_⟩
   ·simp only[bp];rw[hN.ts];simp[t,hlen]
   ·intro σ k hk';obtain⟨t',g1,g2⟩:=hN.map σ k hk';exact⟨t',g1,by rw[List.getElem?_append_left (List.getElem?_eq_some_iff.1 g2).1];exact g2⟩
   · intro k t' hk';rw[List.getElem?_append]at hk';split at hk'
     ·exact hN.cap k t' hk'
     · right
       have:t'=t:=by
         have h1:=List.mem_of_getElem? hk';simpa using h1
       rw[this];exact⟨rfl,rfl⟩
   ·simp only[bp,au];refine⟨t,by simp[Gh.jz,hk],⟨by simp[t,hlen],t.oo⟩,bO.2 ⟨_,_,_,rfl,Nat.le_refl _,hsl⟩,fun _=>⟨rfl,hrow⟩⟩
 |aK d o=>
   simp only[bp];exact⟨m,tks,⟨hN,[],by simp⟩,by simp only[au]at h⊢;exact h⟩
 |g_ d o=>
   simp only[bp];exact⟨m,tks,⟨hN,[],by simp⟩,by simp only[au]at h⊢;exact h⟩
 |pv p=>exact flat rfl rfl
 |un=>exact flat rfl rfl
 |a_ _ _=>exact flat rfl rfl
 |aM _ _ _ _=>exact flat rfl rfl
 |eD _=>exact flat rfl rfl
 |iz=>exact flat rfl rfl
 |fn _ _=>exact flat (by simpa[jr] using hx) rfl
 |agg cs=>
   by_cases hf:bm.dI cs=true
   ·exact flat (by simpa[bm] using hf) (by simp only[bp];rw[if_pos hf])
   · simp only[au]at h;obtain⟨vs,rfl,r⟩:=h;obtain⟨m',tks',g1,g2⟩:=lI hN (by simpa[jr] using hx) r;have e:bp aF ts (.agg cs)=(.agg (cg aF ts cs).1,(cg aF ts cs).2.1,(cg aF ts cs).2.2):=by simp only[bp];rw[if_neg hf]
     rw[e];exact⟨m',tks',g1,by simp only[au];exact⟨vs,rfl,g2⟩⟩
 |m8 _=>exact flat (by simpa[jr] using hx) rfl
 |iA _=>exact flat rfl rfl
 |mo _ _ _=>exact flat rfl rfl
 |eE _=>simp only[au]at h
theorem xg{x:AV}(h:aP x=true):jr x=true:=by
 rcases kQ h with hf|⟨l,τ,rfl⟩
 ·cases x<;>simp_all[jr,bm,aP]
 ·rfl
theorem xh{aF ts:aD}{x:AV}(h:aP x=true):aP (bp aF ts x).1=true:=by
 cases x with
 |own l τ=>simp only[bp];split<;>rfl
 |di l=>rfl
 |agg _=>simp[aP]at h
 |_=>exact h
theorem jM:∀{xs:List AV} {vs:List Value} {aF ts:aD} {m:Nat→Option Nat} {tks:List Tk},NS G aF ts m tks→xs.all aP=true→aq (num ns) G xs vs →
   ∃m' tks',A_ ns G m tks (aZ aF ts xs).2.1 (aZ aF ts xs).2.2 m' tks'∧aq (num ns) (G.jz m' tks') (aZ aF ts xs).1 vs∧(aZ aF ts xs).1.all aP=true
 |[],vs,aF,ts,m,tks,hN,_,h=>⟨m,tks,⟨hN,[],by simp⟩,by simpa only[aZ,aq] using h,rfl⟩
 |x::xs,vs,aF,ts,m,tks,hN,hl,h=>by
   simp only[List.all_cons,Bool.and_eq_true]at hl;simp only[aq]at h;obtain⟨v,r,e,e1,e2⟩:=h;subst e;obtain⟨m1,t1,g1,g2⟩:=jL hN (xg hl.1) e1;obtain⟨m2,t2,k1,k2,k3⟩:=jM g1.uC hl.2 e2;refine⟨m2,t2,⟨k1.uC,?_⟩,?_,?_⟩
   ·obtain⟨a,ha⟩:=g1.ext;obtain⟨b,hb⟩:=k1.ext;exact⟨a++b,by rw[hb,ha,List.append_assoc]⟩
   ·simp only[aZ,aq];exact⟨v,r,rfl,g2.mono k1.le,k2⟩
   ·simp only[aZ,List.all_cons,k3,Bool.and_true];exact xh hl.1
theorem nz{a:Act}:∀{env:List (Nat×AV)} {aF ts:aD} {m:Nat→Option Nat} {tks:List Tk},NS G aF ts m tks →
   (∀p∈env,jr p.2=true∧∃v,a.tmps[p.1]?=some v∧au (num ns) G p.2 v) →
   ∃m' tks',A_ ns G m tks (cP aF ts env).2.1 (cP aF ts env).2.2 m' tks'∧∀p∈(cP aF ts env).1,∃v,a.tmps[p.1]?=some v∧au (num ns) (G.jz m' tks') p.2 v
 |[],aF,ts,m,tks,hN,_=>⟨m,tks,⟨hN,[],by simp⟩,by simp[cP]⟩
 |(t,x)::env,aF,ts,m,tks,hN,h=>by
   obtain⟨hx,v,hv,hr⟩:=h (t,x) (by simp);obtain⟨m1,t1,g1,g2⟩:=jL hN hx hr;obtain⟨m2,t2,k1,k2⟩:=nz (env:=env) (a:=a) g1.uC (fun p hp=>h p (by simp[hp]));refine⟨m2,t2,⟨k1.uC,?_⟩,?_⟩
   ·obtain⟨a,ha⟩:=g1.ext;obtain⟨b,hb⟩:=k1.ext;exact⟨a++b,by rw[hb,ha,List.append_assoc]⟩
   · intro p hp;simp only[cP,List.mem_cons]at hp;rcases hp with rfl|hp
     ·exact⟨v,hv,g2.mono k1.le⟩
     ·exact k2 p hp
def JK(ns:Names)(G:Gh)(w:World)(d:Nat)(cells:List AV)(G':Gh):Prop:=
 ∃b c t,G.pm d=some b∧G.role b=.jw d∧w.heap[b]?=some (.cells c t (0,0))∧aq (num ns) G' cells c.toList∧cells.all aP=true
theorem nA:∀{mem:List (Nat×List AV)} {aF ts:aD} {m:Nat→Option Nat} {tks:List Tk},NS G aF ts m tks →
   (∀p∈mem,JK ns G w p.1 p.2 G) →
   ∃m' tks',A_ ns G m tks (ef aF ts mem).2.1 (ef aF ts mem).2.2 m' tks'∧∀p∈(ef aF ts mem).1,JK ns G w p.1 p.2 (G.jz m' tks')
 |[],aF,ts,m,tks,hN,_=>⟨m,tks,⟨hN,[],by simp⟩,by simp[ef]⟩
 |(d,cells)::mem,aF,ts,m,tks,hN,h=>by
   obtain⟨b,c,t,h1,h2,h3,h4,h5⟩:=h (d,cells) (by simp);obtain⟨m1,t1,g1,g2,g3⟩:=jM hN h5 h4;obtain⟨m2,t2,k1,k2⟩:=nA (mem:=mem) g1.uC (fun p hp=>h p (by simp[hp]));refine⟨m2,t2,⟨k1.uC,?_⟩,?_⟩
   ·obtain⟨a,ha⟩:=g1.ext;obtain⟨b,hb⟩:=k1.ext;exact⟨a++b,by rw[hb,ha,List.append_assoc]⟩
   · intro p hp;simp only[ef,List.mem_cons]at hp;rcases hp with rfl|hp
     ·exact⟨b,c,t,h1,h2,h3,aq.mono k1.le g2,g3⟩
     ·exact k2 p hp
theorem xi{aF ts:aD}{n:Nat}{x:AV}(h:aG n x=true):aG n (dK aF ts x).1=true:=by
 unfold dK;split
 ·split<;>simp[aG]
 ·exact h
theorem nB{n:Nat}:∀{xs:List AV} {aF ts:aD},aG.cf n xs=true→aG.cf n (cg aF ts xs).1=true
 |[],_,_,_=>rfl
 |x::xs,aF,ts,h=>by
   simp only[aG.cf,Bool.and_eq_true]at h;simp only[cg,aG.cf,xi h.1,Bool.true_and];exact nB h.2
theorem xj{aF ts:aD}{n:Nat}{x:AV}(h:aG n x=true):aG n (bp aF ts x).1=true:=by
 unfold bp;split
 ·split<;>simp[aG]
 ·simp[aG]
 · split
   ·exact h
   ·simp only[aG]at h⊢;exact nB h
 ·exact h
theorem pa{n:Nat}:∀{xs:List AV} {aF ts:aD},xs.all (aG n)=true→(aZ aF ts xs).1.all (aG n)=true
 |[],_,_,_=>rfl
 |x::xs,aF,ts,h=>by
   simp only[List.all_cons,Bool.and_eq_true]at h;simp only[aZ,List.all_cons,xj h.1,Bool.true_and];exact pa h.2
theorem ik:∀{sh:Sh} {aF ts:aD} {m:Nat→Option Nat} {tks:List Tk} (R:Nat→Option (Obj×Nat)),NS G aF ts m tks →
   (∀s cells,sh[s]?=some (some cells)→cells.all aP=true∧∃o,R s=some o∧Holds (num ns) G o.1 o.2 cells) →
   ∃m' tks',A_ ns G m tks (aW aF ts sh).2.1 (aW aF ts sh).2.2 m' tks'∧(aW aF ts sh).1.length=sh.length ∧
     ∀s cells',(aW aF ts sh).1[s]?=some (some cells')→∃cells,sh[s]?=some (some cells)∧(∃o,R s=some o∧Holds (num ns) (G.jz m' tks') o.1 o.2 cells')∧cells'.all aP=true∧∀n,cells.all (aG n)=true→cells'.all (aG n)=true
 |[],aF,ts,m,tks,R,hN,_=>⟨m,tks,⟨hN,[],by simp⟩,rfl,fun s cells' h=>by simp[aW]at h⟩
 |none::sh,aF,ts,m,tks,R,hN,h=>by
   obtain⟨m1,t1,g1,g2,g3⟩:=ik (sh:=sh) (fun s=>R (s+1)) hN (fun s cells hs=>h (s+1) cells (by simpa using hs));refine⟨m1,t1,g1,by simp[aW,g2],fun s cells' hs=>?_⟩;cases s with
   |zero=>simp[aW]at hs
   |succ s=>
     obtain⟨cells,k1,k2⟩:=g3 s cells' (by simpa[aW] using hs);exact⟨cells,by simpa using k1,k2⟩
 |some cs::sh,aF,ts,m,tks,R,hN,h=>by
   obtain⟨hl,o,hR,hr⟩:=h 0 cs rfl
   obtain⟨m1,t1,g1,g2,g3⟩:∃m' tks',A_ ns G m tks (aZ aF ts cs).2.1 (aZ aF ts cs).2.2 m' tks'∧Holds (num ns) (G.jz m' tks') o.1 o.2 (aZ aF ts cs).1∧(aZ aF ts cs).1.all aP=true:=by
     rcases hr with⟨c,t,vs,suf,ho,e3,e4,hr⟩|⟨es,clock,kvs,ho,rfl,hm⟩
     ·obtain⟨m1,t1,g1,g2,g3⟩:=jM hN hl hr;exact⟨m1,t1,g1,.inl ⟨c,t,vs,suf,ho,e3,e4,g2⟩,g3⟩
     ·exact⟨m,tks,⟨hN,[],by simp⟩,.inr ⟨es,clock,kvs,ho,rfl,hm⟩,rfl⟩
   obtain⟨m2,t2,k1,k2,k3⟩:=ik (sh:=sh) (fun s=>R (s+1)) g1.uC (fun s cells hs=>h (s+1) cells (by simpa using hs));refine⟨m2,t2,⟨k1.uC,?_⟩,by simp[aW,k2],fun s cells' hs=>?_⟩
   ·obtain⟨a,ha⟩:=g1.ext;obtain⟨b,hb⟩:=k1.ext;exact⟨a++b,by rw[hb,ha,List.append_assoc]⟩
   · cases s with
     |zero=>
       simp only[aW,List.getElem?_cons_zero,Option.some.injEq]at hs;subst hs;exact⟨cs,rfl,⟨o,hR,g2.mono k1.le⟩,g3,fun n hn=>pa hn⟩
     |succ s=>
       obtain⟨cells,q1,q2⟩:=k3 s cells' (by simpa[aW] using hs);exact⟨cells,by simpa using q1,q2⟩
def jb(G:Gh)(w:World)(s:Nat):Option (Obj×Nat):=(G.sm s).bind fun b=>(w.heap[b.1]?).map fun o=>(o,b.2)
theorem Inv.jb{mem:List (Nat×List AV)}{sh:Sh}{aa:aD}(hi:Inv (num ns) G w mem sh aa):∀s cells,sh[s]?=some (some cells)→cells.all aP=true∧∃o,Go.Ab.jb G w s=some o∧Holds (num ns) G o.1 o.2 cells:=by
 intro s cells hs;obtain⟨b,e1,e2,e3,e4⟩:=hi.cX s cells hs;obtain⟨hr,o,hh,hrel⟩:=e2;exact⟨e3,(o,b.2),by simp[Go.Ab.jb,e1,hh],hrel⟩
theorem Inv.I2{mem:List (Nat×List AV)}{sh:Sh}{aa:aD}(hi:Inv (num ns) G w mem sh aa){sh':Sh}{G':Gh}(hsm:∀s,G'.sm s=G.sm s)(hrole:∀b s,G.role b=.shr s→G'.role b=.shr s)
   (h:∀s cells',sh'[s]?=some (some cells')→∃cells,sh[s]?=some (some cells)∧(∃o,Go.Ab.jb G w s=some o∧Holds (num ns) G' o.1 o.2 cells')∧cells'.all aP=true∧∀n,cells.all (aG n)=true→cells'.all (aG n)=true) :
   ∀s cells,sh'[s]?=some (some cells)→∃b,G'.sm s=some b∧rU (num ns) G' w b (.shr s) cells∧cells.all cx=true∧cells.all (aG (s+1))=true:=by
 intro s cells' hs;obtain⟨cells,h1,⟨o,h2,h2'⟩,h3,h4⟩:=h s cells' hs;obtain⟨b,e1,e2,e3,e4⟩:=hi.cX s cells h1;simp only[Go.Ab.jb,e1,Option.bind_some,Option.map_eq_some_iff]at h2;obtain⟨o',h5,rfl⟩:=h2;exact⟨b,by rw[hsm];exact e1,⟨hrole b.1 s e2.role,o',h5,h2'⟩,h3,h4 _ e4⟩
theorem pb{α:Type}:∀{l:List (Nat×α)} {t:Nat} {x:α},look l t=some x→(t,x)∈l
 |[],_,_,h=>by simp[look]at h
 |(s,y)::l,t,x,h=>by
   simp only[look]at h;split at h
   ·rename_i e;subst e;cases h;simp
   ·exact List.mem_cons_of_mem _ (pb h)
theorem pc:∀{mem:List (Nat×List AV)} {aF ts:aD} {d:Nat},(look mem d).isSome=true→(look (ef aF ts mem).1 d).isSome=true
 |[],_,_,d,h=>by simp[look]at h
 |(s,y)::mem,aF,ts,d,h=>by
   simp only[ef,look]at h⊢;split
   ·rfl
   ·rename_i hne;rw[if_neg hne]at h;exact pc h
theorem NS.start{mem:List (Nat×List AV)}{sh:Sh}{aa:aD}(hi:Inv (num ns) G w mem sh aa):NS G aa [] (fun _=>none) [] where
 ts:=rfl
 map:=by intro τ k h;simp at h
 inj:=by intro τ σ k h;simp at h
 free:=fun τ t h _=>hi.ed τ t h
 used:=by intro τ t k _ h;simp at h
 cap:=by intro k t h;simp at h
theorem eK{live:List Nat}{env:List (Nat×AV)}:∀{l:List Nat} {p:Nat×AV},p∈bn live env l→look env p.1=some p.2∧dC live p.2=true
 |[],p,h=>by simp[bn]at h
 |s::l,p,h=>by
   simp only[bn]at h;split at h
   · rename_i u hu;split at h
     · rename_i hk;simp only[List.mem_cons]at h;rcases h with rfl|h
       ·exact⟨hu,hk⟩
       ·exact eK h
     ·exact eK h
   ·exact eK h
theorem gq{mem:List (Nat×List AV)}:∀{l:List Nat} {p:Nat×List AV},p∈bq mem l→look mem p.1=some p.2∧p.1∈l
 |[],p,h=>by simp[bq]at h
 |s::l,p,h=>by
   simp only[bq]at h;split at h
   · rename_i u hu;simp only[List.mem_cons]at h;rcases h with rfl|h
     ·exact⟨hu,by simp⟩
     ·obtain⟨h1,h2⟩:=gq h;exact⟨h1,by simp[h2]⟩
   ·obtain⟨h1,h2⟩:=gq h;exact⟨h1,by simp[h2]⟩
theorem fl.head{n0 N:Nat}{st:St}{a:Act}(h:fl (num ns) n0 N G st a w)(live:List Nat):∃G',fl (num ns) n0 N G' (norm (Go.Ab.restrict live st)) a w∧bw G w G' w:=by
 have h0:=h.restrict live;have hi:=h0.inv
 have hE:∀p∈(Go.Ab.restrict live st).env,jr p.2=true∧∃v,a.tmps[p.1]?=some v∧au (num ns) (G.aR live) p.2 v:=by
   intro p hp;obtain⟨h1,h2⟩:=eK hp;obtain⟨v,h3,h4⟩:=h.env.env p.1 p.2 h1;refine⟨?_,v,h3,uA h2 h4⟩;cases hpx:p.2<;>rw[hpx]at h2<;>simp_all[jr,dC,bm]
 have hM:∀p∈(Go.Ab.restrict live st).mem,JK ns (G.aR live) w p.1 p.2 (G.aR live):=by
   intro p hp;obtain⟨h1,h2⟩:=gq hp
   have h3:look (Go.Ab.restrict live st).mem p.1=some p.2:=by
     show look (bq st.mem live) p.1=some p.2;rw[dd,if_pos h2,h1]
   obtain⟨b,e1,e2,e3⟩:=hi.cD p.1 p.2 h3;obtain⟨hr,c,t,hh,hrel⟩:=e2;exact⟨b,c,t,e1,hr,hh,hrel,e3⟩
 obtain⟨m1,t1,g1,g2⟩:=nz (NS.start hi) hE;obtain⟨m3,t3,k1,k2⟩:=nA (w:=w) g1.uC hM;obtain⟨m2,t2,q1,q2,q3⟩:=ik (jb (G.aR live) w) k1.uC hi.jb;have hN:=q1.uC;have hle3:=q1.le;have hle:=Gh.le_trans k1.le q1.le
 have hrole:∀b r,(G.aR live).role b=r→(∀τ,r≠.tok τ)→((G.aR live).jz m2 t2).role b=r:=by
   intro b r hr hn;show (match (G.aR live).role b with| .tok τ=>(match m2 τ with|some k=>jG.tok k|none=>.dQ)|r=>r)=r;rw[hr];cases r with
   |tok τ=>exact absurd rfl (hn τ)
   |_=>rfl
 have hevo:bw G w ((G.aR live).jz m2 t2) w:={
   size:=Nat.le_refl _,os:=rfl,tape:=rfl,output:=rfl,K:=aY.le_refl G.K,sm:=fun _ _ h=>h,
   dQ:=fun b _ hr=>⟨hrole b _ hr (by simp),rfl⟩
   gp:=fun b τ _ hr=>by
     have hr':(G.aR live).role b=.tok τ:=hr;rw[ja hr'];cases m2 τ with
     |none=>exact .inl rfl
     |some k=>exact .inr ⟨k,rfl⟩
   e8:=fun _ _ _ _ _ h=>h }
 refine⟨(G.aR live).jz m2 t2,⟨⟨h.env.size,fun t x hx=>?_⟩,?_,h.marks.na hevo rfl⟩,hevo⟩
 ·obtain⟨v,h1,h2⟩:=g2 (t,x) (pb hx);exact⟨v,h1,h2.mono hle⟩
 · constructor
   ·exact hi.known
   · intro b o v hk;rcases hi.aT b o v hk with h1|⟨τ,h1⟩
     ·exact .inl (hrole b _ h1 (by simp))
     · rw[ja h1];cases m2 τ with
       |none=>exact .inl rfl
       |some k=>exact .inr ⟨k,rfl⟩
   ·intro b hb;exact hrole b _ (hi.fresh b hb) (by simp)
   ·intro d cells hd;obtain⟨b,c,t,h1,h2,h3,h4,h5⟩:=k2 (d,cells) (pb hd);exact⟨b,h1,⟨hrole b _ h2 (by simp),c,t,h3,aq.mono hle3 h4⟩,h5⟩
   ·intro d b hd;exact pc (hi.e7 d b hd)
   ·exact hi.I2 (G':=(G.aR live).jz m2 t2) (fun _=>rfl) (fun b s hr=>hrole b _ hr (by simp)) q3
   ·intro s b hs;have:=hi.dT s b hs;have e:(norm (Go.Ab.restrict live st)).sh.length=(Go.Ab.restrict live st).sh.length:=q2;omega
   · intro k n hn;have hts:(norm (Go.Ab.restrict live st)).aa=t2.map (·.len):=hN.ts;rw[hts,List.getElem?_map,Option.map_eq_some_iff]at hn;obtain⟨t,ht,rfl⟩:=hn;refine⟨t,ht,rfl,?_⟩;rcases hN.cap k t ht with⟨τ,hτ⟩|hc
     ·obtain⟨t',h1,h2⟩:=hN.map τ k hτ;rw[ht]at h2;cases h2;obtain⟨t'',e1,e2,e3⟩:=hi.cQ τ _ (hi.ed τ t h1);rw[h1]at e1;cases e1;refine⟨e3.cap,e3.zero,fun hlt=>?_⟩;obtain⟨b,o,c,ty,f1,f2,f3,f4,f5⟩:=e3.spare hlt;refine⟨b,o,c,ty,f1,?_,f3,f4,f5⟩;rw[ja f2,hτ]
     ·exact⟨by omega,fun h=>by omega,fun h=>h.elim (fun h=>by omega) (fun h=>by rw[hc.2]at h;cases h)⟩
   ·intro k t ht;have hts:(norm (Go.Ab.restrict live st)).aa=t2.map (·.len):=hN.ts;rw[hts,List.getElem?_map];have ht':t2[k]?=some t:=ht;rw[ht'];rfl
   ·exact fun b c hb=>⟨hrole b _ (hi.iF b c hb).1 (by simp),(hi.iF b c hb).2⟩
end
end Go.Ab
namespace Go.Ab
section
variable {P:Program} {ns:Names} {G:Gh} {w:World}
theorem uD{x:AV}(h:iE x=true):h_ x=true:=by
 cases x with
 |own _ _=>rfl
 |_=>simpa[h_,iE] using i_ (by simpa[iE] using h)
theorem jc:∀{xs:List AV},ee xs=true→ew xs=true
 |[],_=>rfl
 |x::xs,h=>by
   simp only[ee,Bool.and_eq_true]at h;simp only[ew,uD h.1,jc h.2,Bool.and_self]
theorem uE{x:AV}(h:bu x=true):jr x=true:=by
 cases x with
 |own _ _=>rfl
 |aK _ _=>rfl
 |agg cs=>simp only[jr];exact jc (by simpa[bu] using h)
 |_=>simpa[jr,bu] using i_ (by simpa[bu] using h)
theorem uF{aF ts:aD}{x:AV}(h:iE x=true):iE (dK aF ts x).1=true:=by
 unfold dK;split
 ·split<;>rfl
 ·exact h
theorem nC:∀{xs:List AV} {aF ts:aD},ee xs=true→ee (cg aF ts xs).1=true
 |[],_,_,_=>rfl
 |x::xs,aF,ts,h=>by
   simp only[ee,Bool.and_eq_true]at h;simp only[cg,ee,uF h.1,Bool.true_and];exact nC h.2
theorem uG{aF ts:aD}{x:AV}(h:bu x=true):bu (bp aF ts x).1=true:=by
 unfold bp;split
 ·split<;>rfl
 ·rfl
 · split
   ·exact h
   ·simp only[bu]at h⊢;exact nC h
 ·exact h
theorem f_:∀{xs:List AV} {aF ts:aD},xs.all bu=true→(aZ aF ts xs).1.all bu=true
 |[],_,_,_=>rfl
 |x::xs,aF,ts,h=>by
   simp only[List.all_cons,Bool.and_eq_true]at h;simp only[aZ,List.all_cons,uG h.1,Bool.true_and];exact f_ h.2
theorem uH{x:AV}(h:aP x=true):bu x=true:=by
 cases x with
 |own _ _=>rfl
 |fn g cap=>simpa[aP,bu] using h
 |pv _=>rfl
 |di _=>rfl
 |a_ _ _=>rfl
 |aM _ _ _ _=>rfl
 |iz=>rfl
 |iA _=>rfl
 |eE _=>rfl
 |_=>simp[aP]at h
theorem gB{xs:List AV}(h:xs.all aP=true):xs.all bu=true:=by
 rw[List.all_eq_true]at *;exact fun x hx=>uH (h x hx)
theorem lJ:∀{xs:List AV} {vs:List Value} {aF ts:aD} {m:Nat→Option Nat} {tks:List Tk},NS G aF ts m tks→xs.all bu=true→aq (num ns) G xs vs →
   ∃m' tks',A_ ns G m tks (aZ aF ts xs).2.1 (aZ aF ts xs).2.2 m' tks'∧aq (num ns) (G.jz m' tks') (aZ aF ts xs).1 vs
 |[],vs,aF,ts,m,tks,hN,_,h=>⟨m,tks,⟨hN,[],by simp[aZ]⟩,by simpa only[aZ,aq] using h⟩
 |x::xs,vs,aF,ts,m,tks,hN,hp,h=>by
   simp only[List.all_cons,Bool.and_eq_true]at hp;simp only[aq]at h;obtain⟨v,r,e,e1,e2⟩:=h;subst e;obtain⟨m1,t1,g1,g2⟩:=jL hN (uE hp.1) e1;obtain⟨m2,t2,k1,k2⟩:=lJ g1.uC hp.2 e2;refine⟨m2,t2,⟨k1.uC,?_⟩,?_⟩
   ·obtain⟨a,ha⟩:=g1.ext;obtain⟨b,hb⟩:=k1.ext;exact⟨a++b,by rw[hb,ha,List.append_assoc]⟩
   ·simp only[aZ,aq];exact⟨v,r,rfl,g2.mono k1.le,k2⟩
theorem A'{aF ts:aD}{x:AV}:(dK aF ts x).2.1.length=aF.length:=by
 unfold dK;split
 ·split<;>simp
 ·rfl
theorem pd:∀{xs:List AV} {aF ts:aD},(cg aF ts xs).2.1.length=aF.length
 |[],_,_=>rfl
 |x::xs,aF,ts=>by simp only[cg];rw[pd,A']
theorem Ba{aF ts:aD}{x:AV}:(bp aF ts x).2.1.length=aF.length:=by
 unfold bp;split
 ·split<;>simp
 ·rfl
 · split
   ·rfl
   ·exact pd
 ·rfl
theorem mF:∀{xs:List AV} {aF ts:aD},(aZ aF ts xs).2.1.length=aF.length
 |[],_,_=>rfl
 |x::xs,aF,ts=>by simp only[aZ];rw[mF,Ba]
theorem mG:∀{sh:Sh} {aF ts:aD},(aW aF ts sh).2.1.length=aF.length
 |[],_,_=>rfl
 |none::sh,aF,ts=>by simp only[aW];exact mG
 |some cs::sh,aF,ts=>by simp only[aW];rw[mG,mF]
def Gh.to(G:Gh)(m:Nat→Option Nat)(tks:List Tk):Gh:=
 { K:=G.K,role:=fun b=>match G.role b with| .shr s=>.shr s| .tok τ=>(match m τ with|some k=>.tok k|none=>.dQ)|_=>.dQ,pm:=fun _=>none,sm:=G.sm,tk:=fun k=>tks[k]? }
theorem JL{m:Nat→Option Nat}{tks:List Tk}{b s:Nat}(h:G.role b=.shr s):(G.to m tks).role b=.shr s:=by simp[Gh.to,h]
theorem sq{m:Nat→Option Nat}{tks:List Tk}{b τ k:Nat}(h:G.role b=.tok τ)(hm:m τ=some k):(G.to m tks).role b=.tok k:=by simp[Gh.to,h,hm]
theorem lK{m:Nat→Option Nat}{tks:List Tk}{b τ:Nat}(h:G.role b=.tok τ)(hm:m τ=none):(G.to m tks).role b=.dQ:=by simp[Gh.to,h,hm]
theorem jN{m:Nat→Option Nat}{tks:List Tk}{b:Nat}(h:G.role b=.dQ):(G.to m tks).role b=.dQ:=by simp[Gh.to,h]
theorem sr{m:Nat→Option Nat}{tks:List Tk}{b d:Nat}(h:G.role b=.jw d):(G.to m tks).role b=.dQ:=by simp[Gh.to,h]
theorem xk{ρ:bC}{G':Gh}(hK:G.K.le G'.K)(hs:∀s b,G.sm s=some b→G'.sm s=some b)(ht:∀τ t,G.tk τ=some t→G'.tk τ=some t){xs:List AV}{vs:List Value}(hp:ee xs=true)(h:aq ρ G xs vs):aq ρ G' xs vs:=
 gQ hK hs ht (jc hp) h
theorem Bb{ρ:bC}{G':Gh}(hK:G.K.le G'.K)(hs:∀s b,G.sm s=some b→G'.sm s=some b)(ht:∀τ t,G.tk τ=some t→G'.tk τ=some t){x:AV}{v:Value}(hp:bu x=true)(h:au ρ G x v):au ρ G' x v:=by
 cases x with
 |own l τ=>
   simp only[au]at h⊢;obtain⟨t,e1,e2,e3,e4⟩:=h;exact⟨t,ht _ _ e1,e2,e3.mono hK,fun hl=>⟨(e4 hl).1,Hm (e4 hl).2 fun⟨b,o,e,r⟩=>⟨b,o,e,Row.mono hK _ _ _ _ r⟩⟩⟩
 |agg cs=>
   simp only[au]at h⊢;obtain⟨vs,e,r⟩:=h;exact⟨vs,e,xk hK hs ht (by simpa[bu] using hp) r⟩
 |_=>exact j7 hK hs (by simpa[bu] using hp) h
theorem gR{ρ:bC}{G':Gh}(hK:G.K.le G'.K)(hs:∀s b,G.sm s=some b→G'.sm s=some b)(ht:∀τ t,G.tk τ=some t→G'.tk τ=some t):∀{xs:List AV} {vs:List Value},xs.all bu=true→aq ρ G xs vs→aq ρ G' xs vs
 |[],_,_,h=>by simpa only[aq] using h
 |x::xs,_,hp,h=>by
   simp only[List.all_cons,Bool.and_eq_true]at hp;simp only[aq]at h⊢;obtain⟨v,r,e,e1,e2⟩:=h;exact⟨v,r,e,Bb hK hs ht hp.1 e1,gR hK hs ht hp.2 e2⟩
theorem Inv.Hh{mem:List (Nat×List AV)}{sh:Sh}{aa:aD}(hi:Inv (num ns) G w mem sh aa){xs:List AV}{vs:List Value}(hp:xs.all bu=true)(hr:aq (num ns) G xs vs) :
   ∃m tks,NS G (cC aa xs sh).2.2.1 (cC aa xs sh).2.2.2 m tks∧Inv (num ns) (G.to m tks) w [] (cC aa xs sh).2.1 (cC aa xs sh).2.2.2∧aq (num ns) (G.to m tks) (cC aa xs sh).1 vs:=by
 obtain⟨m0,tks0,hR,hrel⟩:=lJ (NS.start hi) hp hr;obtain⟨m,tks,q1,q2,q3⟩:=ik (Go.Ab.jb G w) hR.uC hi.jb;have hN:=q1.uC;refine⟨m,tks,hN,?_,gR (G:=G.jz m tks) (G':=G.to m tks) (aY.le_refl _) (fun _ _ h=>h) (fun _ _ h=>h) (f_ hp) (aq.mono q1.le hrel)⟩;constructor
 ·exact hi.known
 · intro b o v hk;rcases hi.aT b o v hk with h|⟨τ,h⟩
   ·exact .inl (jN h)
   · cases hm:m τ with
     |none=>exact .inl (lK h hm)
     |some k=>exact .inr ⟨k,sq h hm⟩
 ·intro b hb;exact jN (hi.fresh b hb)
 ·intro d cells h;simp[look]at h
 ·intro d b h;simp[Gh.to]at h
 ·refine hi.I2 (G':=G.to m tks) (fun _=>rfl) (fun b s hr=>JL hr) fun s cells' hs=>?_;obtain⟨cells,h1,h2,h3,h4⟩:=q3 s cells' hs;obtain⟨o,h2,h2'⟩:=h2;exact⟨cells,h1,⟨o,h2,h2'.to (fun _ _ _ h=>h) (fun _ e=>e) (fun _ r=>gR (G:=G.jz m tks) (G':=G.to m tks) (aY.le_refl _) (fun _ _ h=>h) (fun _ _ h=>h) (gB h3) r)⟩,h3,h4⟩
 ·intro s b hs;have:=hi.dT s b hs;have e:(cC aa xs sh).2.1.length=sh.length:=q2;omega
 · intro k n hn;have hts:(cC aa xs sh).2.2.2=tks.map (·.len):=hN.ts;rw[hts,List.getElem?_map,Option.map_eq_some_iff]at hn;obtain⟨t,ht,rfl⟩:=hn;refine⟨t,ht,rfl,?_⟩;rcases hN.cap k t ht with⟨τ,hτ⟩|hc
   ·obtain⟨t',h1,h2⟩:=hN.map τ k hτ;rw[ht]at h2;cases h2;obtain⟨t'',e1,e2,e3⟩:=hi.cQ τ _ (hi.ed τ t h1);rw[h1]at e1;cases e1;refine⟨e3.cap,e3.zero,fun hlt=>?_⟩;obtain⟨b,o,c,ty,f1,f2,f3,f4,f5⟩:=e3.spare hlt;exact⟨b,o,c,ty,f1,sq f2 hτ,f3,f4,f5⟩
   ·exact⟨by omega,fun h=>by omega,fun h=>h.elim (fun h=>by omega) (fun h=>by rw[hc.2]at h;cases h)⟩
 ·intro k t ht;have hts:(cC aa xs sh).2.2.2=tks.map (·.len):=hN.ts;rw[hts,List.getElem?_map];have ht':tks[k]?=some t:=ht;rw[ht'];rfl
 ·exact fun b c hb=>⟨jN (hi.iF b c hb).1,(hi.iF b c hb).2⟩
theorem Bc{aa:aD}{xs:List AV}{sh:Sh}:(cC aa xs sh).2.2.1.length=aa.length:=by
 unfold cC;simp only[mG,mF]
theorem bw.to{G1:Gh}{w1:World}(h:bw G w G1 w1)(m:Nat→Option Nat)(tks:List Tk):bw G w (G1.to m tks) w1 where
 size:=h.size
 os:=h.os
 tape:=h.tape
 output:=h.output
 K:=h.K
 sm:=h.sm
 dQ:=fun b hb hr=>⟨jN (h.dQ b hb hr).1,(h.dQ b hb hr).2⟩
 gp:=fun b τ hb hr=>by
   rcases h.gp b τ hb hr with h1|⟨τ',h1⟩
   ·exact .inl (jN h1)
   · cases hm:m τ' with
     |none=>exact .inl (lK h1 hm)
     |some k=>exact .inr ⟨k,sq h1 hm⟩
 e8:=h.e8
def He(N:Nat):jG→jG
 | .tok k=>.tok (k+N)
 | .shr s=>.shr s
 |_=>.dQ
def Gh.back(G:Gh)(m:Nat→Option Nat)(G1:Gh)(n N:Nat):Gh:=
 { K:=G1.K,
   role:=fun b=>if b<n then (match G.role b with| .shr _=>He N (G1.role b)| .tok τ=>(match m τ with|some _=>He N (G1.role b)|none=>.tok τ)|r=>r) else He N (G1.role b),
   pm:=G.pm,sm:=G1.sm,
   tk:=fun τ=>if τ<N then (match G.tk τ with|some t=>(match m τ with|some _=>some { t with base:=none,len:=t.len+1,cap:=t.len+1,own:=false }|none=>some t)|none=>none) else G1.tk (τ-N) }
theorem pe{G1 G':Gh}{N:Nat}(hK:G1.K.le G'.K)(hs:∀s b,G1.sm s=some b→G'.sm s=some b)(ht:∀τ t,G1.tk τ=some t→G'.tk (τ+N)=some t){x:AV}{v:Value}(hp:iE x=true)(h:au (num ns) G1 x v):au (num ns) G' (gl N x) v:=by
 cases x with
 |own l τ=>
   simp only[gl,au]at h⊢;obtain⟨t,e1,e2,e3,e4⟩:=h;exact⟨t,ht _ _ e1,e2,e3.mono hK,fun hl=>⟨(e4 hl).1,Hm (e4 hl).2 fun⟨b,o,e,r⟩=>⟨b,o,e,Row.mono hK _ _ _ _ r⟩⟩⟩
 |_=>
   simp only[gl];exact j7 (G:=G1) (G':=G') hK hs (by simpa[iE] using hp) h
theorem nD{G1 G':Gh}{N:Nat}(hK:G1.K.le G'.K)(hs:∀s b,G1.sm s=some b→G'.sm s=some b)(ht:∀τ t,G1.tk τ=some t→G'.tk (τ+N)=some t):∀{xs:List AV} {vs:List Value},ee xs=true→aq (num ns) G1 xs vs→aq (num ns) G' (xs.map (gl N)) vs
 |[],_,_,h=>by simpa only[List.map_nil,aq] using h
 |x::xs,_,hp,h=>by
   simp only[ee,Bool.and_eq_true]at hp;simp only[List.map_cons,aq]at h⊢;obtain⟨v,r,e,e1,e2⟩:=h;exact⟨v,r,e,pe hK hs ht hp.1 e1,nD hK hs ht hp.2 e2⟩
theorem qP{G1 G':Gh}{N:Nat}(hK:G1.K.le G'.K)(hs:∀s b,G1.sm s=some b→G'.sm s=some b)(ht:∀τ t,G1.tk τ=some t→G'.tk (τ+N)=some t){x:AV}{v:Value}(hp:bu x=true)(h:au (num ns) G1 x v):au (num ns) G' (cM N x) v:=by
 cases x with
 |own l τ=>exact pe (x:=.own l τ) hK hs ht rfl h
 |agg cs=>
   simp only[cM];split
   ·rename_i hf;exact gF (G:=G1) (G':=G') hK hs (by simpa[bm] using hf) h
   ·simp only[au]at h⊢;obtain⟨vs,e,r⟩:=h;exact⟨vs,e,nD hK hs ht (by simpa[bu] using hp) r⟩
 |_=>
   simp only[cM];exact j7 (G:=G1) (G':=G') hK hs (by simpa[bu] using hp) h
theorem kR{G1 G':Gh}{N:Nat}(hK:G1.K.le G'.K)(hs:∀s b,G1.sm s=some b→G'.sm s=some b)(ht:∀τ t,G1.tk τ=some t→G'.tk (τ+N)=some t):∀{xs:List AV} {vs:List Value},xs.all bu=true→aq (num ns) G1 xs vs→aq (num ns) G' (xs.map (cM N)) vs
 |[],_,_,h=>by simpa only[List.map_nil,aq] using h
 |x::xs,_,hp,h=>by
   simp only[List.all_cons,Bool.and_eq_true]at hp;simp only[List.map_cons,aq]at h⊢;obtain⟨v,r,e,e1,e2⟩:=h;exact⟨v,r,e,qP hK hs ht hp.1 e1,kR hK hs ht hp.2 e2⟩
theorem z8{m:Nat→Option Nat}{G1:Gh}{n N:Nat}:∀τ t,G1.tk τ=some t→(G.back m G1 n N).tk (τ+N)=some t:=by
 intro τ t h;simp only[Gh.back];rw[if_neg (by omega),Nat.add_sub_cancel];exact h
theorem Be{m:Nat→Option Nat}{G1:Gh}{n N:Nat}{xs:List AV}{vs:List Value}(hp:xs.all bu=true)(h:aq (num ns) G1 xs vs):aq (num ns) (G.back m G1 n N) (xs.map (cM N)) vs:=
 kR (G1:=G1) (G':=G.back m G1 n N) (N:=N) (aY.le_refl G1.K) (fun _ _ h=>h) z8 hp h
theorem uI{N n:Nat}{x:AV}(h:aG n x=true):aG n (gl N x)=true:=by
 cases x with
 |own _ _=>rfl
 |_=>exact h
theorem lL{N n:Nat}:∀{xs:List AV},aG.cf n xs=true→aG.cf n (xs.map (gl N))=true
 |[],_=>rfl
 |x::xs,h=>by
   simp only[aG.cf,Bool.and_eq_true]at h;simp only[List.map_cons,aG.cf,uI h.1,lL h.2,Bool.and_self]
theorem uJ{N n:Nat}{x:AV}(h:aG n x=true):aG n (cM N x)=true:=by
 cases x with
 |own _ _=>rfl
 |agg cs=>
   simp only[cM];split
   ·exact h
   ·simp only[aG]at h⊢;exact lL h
 |_=>exact h
theorem uK{N:Nat}{x:AV}(h:aP x=true):aP (cM N x)=true:=by
 cases x with
 |own _ _=>rfl
 |agg _=>simp[aP]at h
 |_=>exact h
theorem Inv.back{G1:Gh}{w1:World}{mem:List (Nat×List AV)}{sh sh':Sh}{aa aF ts ts':aD}{m:Nat→Option Nat}{tks:List Tk}(hi:Inv (num ns) G w mem sh aa)(hN:NS G aF ts m tks)(hol:aF.length=aa.length)
   (h1:Inv (num ns) G1 w1 [] sh' ts') (he:bw (G.to m tks) w G1 w1) :
   Inv (num ns) (G.back m G1 w.heap.size aa.length) w1 mem (dS aa.length sh') (aF++ts')∧G.le (G.back m G1 w.heap.size aa.length)∧bw G w (G.back m G1 w.heap.size aa.length) w1:=by
 have htl:∀τ t,G.tk τ=some t→τ<aa.length:=fun τ t h=>(List.getElem?_eq_some_iff.1 (hi.ed τ t h)).1
 have tkNone:∀τ t,G.tk τ=some t→m τ=none→(G.back m G1 w.heap.size aa.length).tk τ=some t:=by
   intro τ t h hm;simp only[Gh.back,if_pos (htl τ t h),h,hm]
 have tkSome:∀τ t k,G.tk τ=some t→m τ=some k→(G.back m G1 w.heap.size aa.length).tk τ=some { t with base:=none,len:=t.len+1,cap:=t.len+1,own:=false }:=by
   intro τ t k h hm;simp only[Gh.back,if_pos (htl τ t h),h,hm]
 have hle:G.le (G.back m G1 w.heap.size aa.length):=⟨he.K,fun _ _ h=>h,he.sm,fun τ t h=>by
   cases hm:m τ with
   |none=>exact⟨t,tkNone τ t h hm,⟨Nat.le_refl _,Tk.e6 _⟩,fun _=>rfl⟩
   |some k=>exact⟨_,tkSome τ t k h hm,⟨by simp,fun _=>⟨rfl,by simp⟩,.inl ⟨rfl,by simp⟩⟩,fun e=>by simp at e⟩⟩
 have rImm:∀b,b<w.heap.size→G.role b=.dQ→(G.back m G1 w.heap.size aa.length).role b=.dQ:=by intro b hb hr;simp only[Gh.back,if_pos hb,hr]
 have rPriv:∀b d,b<w.heap.size→G.role b=.jw d→(G.back m G1 w.heap.size aa.length).role b=.jw d:=by intro b d hb hr;simp only[Gh.back,if_pos hb,hr]
 have rFree:∀b τ,b<w.heap.size→G.role b=.tok τ→m τ=none→(G.back m G1 w.heap.size aa.length).role b=.tok τ:=by intro b τ hb hr hm;simp only[Gh.back,if_pos hb,hr,hm]
 have rTok:∀b τ k,b<w.heap.size→G.role b=.tok τ→m τ=some k→(G.back m G1 w.heap.size aa.length).role b=He aa.length (G1.role b):=by intro b τ k hb hr hm;simp only[Gh.back,if_pos hb,hr,hm]
 have rShr:∀b s,b<w.heap.size→G.role b=.shr s→(G.back m G1 w.heap.size aa.length).role b=He aa.length (G1.role b):=by intro b s hb hr;simp only[Gh.back,if_pos hb,hr]
 have rNew:∀b,¬b<w.heap.size→(G.back m G1 w.heap.size aa.length).role b=He aa.length (G1.role b):=by intro b hb;simp only[Gh.back,if_neg hb]
 have rOut:∀b,G1.role b≠.dQ→(G.back m G1 w.heap.size aa.length).role b=He aa.length (G1.role b):=by
   intro b hn;by_cases hb:b<w.heap.size
   · cases hr:G.role b with
     |shr s=>exact rShr b s hb hr
     |dQ=>exact absurd (he.dQ b hb (jN hr)).1 hn
     |jw d=>exact absurd (he.dQ b hb (sr hr)).1 hn
     |tok τ=>
       cases hm:m τ with
       |none=>exact absurd (he.dQ b hb (lK hr hm)).1 hn
       |some k=>exact rTok b τ k hb hr hm
   ·exact rNew b hb
 have shKnown:∀b o v,G1.K b o=some v→He aa.length (G1.role b)=.dQ∨∃τ,He aa.length (G1.role b)=.tok τ:=by
   intro b o v hk;rcases h1.aT b o v hk with h|⟨τ,h⟩
   ·left;rw[h];rfl
   ·right;exact⟨τ+aa.length,by rw[h];rfl⟩
 have hevo:bw G w (G.back m G1 w.heap.size aa.length) w1:={
           size:=he.size,os:=he.os,tape:=he.tape,output:=he.output,K:=he.K,sm:=he.sm,
           dQ:=fun b hb hr=>⟨rImm b hb hr,(he.dQ b hb (jN hr)).2⟩
           gp:=fun b τ hb hr=>by
             cases hm:m τ with
             |none=>exact .inr ⟨τ,rFree b τ hb hr hm⟩
             |some k=>
               rw[rTok b τ k hb hr hm];rcases he.gp b k hb (sq hr hm) with h|⟨τ',h⟩
               ·left;rw[h];rfl
               ·right;exact⟨τ'+aa.length,by rw[h];rfl⟩
           e8:=fun b o v hb hr hk=>he.e8 b o v hb (jN hr) hk }
 refine⟨⟨h1.known,?_,?_,?_,hi.e7,?_,?_,?_,?_,hi.fu hevo⟩,hle,hevo⟩
 · intro b o v hk;have hk1:G1.K b o=some v:=hk;by_cases hb:b<w.heap.size
   · cases hr:G.role b with
     |shr s=>rw[rShr b s hb hr];exact shKnown b o v hk1
     |dQ=>exact .inl (rImm b hb hr)
     |tok τ=>
       cases hm:m τ with
       |none=>exact .inr ⟨τ,rFree b τ hb hr hm⟩
       |some k=>rw[rTok b τ k hb hr hm];exact shKnown b o v hk1
     |jw d=>
       exfalso;have hk0:G.K b o=some v:=he.e8 b o v hb (sr hr) hk1;rcases hi.aT b o v hk0 with h|⟨τ,h⟩<;>rw[hr]at h<;>simp at h
   ·rw[rNew b hb];exact shKnown b o v hk1
 ·intro b hb;have:=he.size;rw[rNew b (by omega),h1.fresh b hb];rfl
 ·intro d cs hd;obtain⟨b,e1,e2,e3⟩:=hi.cD d cs hd;obtain⟨hr,c,t,hh,hrel⟩:=e2;have hb:=bW hh;exact⟨b,e1,⟨rPriv b d hb hr,c,t,((he.dQ b hb (sr hr)).2).trans hh,aq.mono hle hrel⟩,e3⟩
 · intro s cs0 hs0;simp only[dS,List.getElem?_map,Option.map_eq_some_iff]at hs0;obtain⟨o,hs,ho⟩:=hs0;cases o with
   |none=>simp at ho
   |some cs=>
     simp at ho;subst ho;obtain⟨b,e1,e2,e3,e4⟩:=h1.cX s cs hs;obtain⟨hr,o,hh,hrel⟩:=e2;refine⟨b,e1,⟨?_,o,hh,hrel.to (fun _ _ _ h=>h) (fun kvs e=>by subst e;rfl) (fun _ r=>Be (gB e3) r)⟩,?_,?_⟩
     ·rw[rOut b.1 (by rw[hr];simp),hr];rfl
     ·rw[List.all_eq_true];intro x hx;obtain⟨y,hy,rfl⟩:=List.mem_map.1 hx;exact uK (List.all_eq_true.1 e3 y hy)
     ·rw[List.all_eq_true];intro x hx;obtain⟨y,hy,rfl⟩:=List.mem_map.1 hx;exact uJ (List.all_eq_true.1 e4 y hy)
 ·intro s b h;have:=h1.dT s b h;simp only[dS,List.length_map];exact this
 · intro τ n hn;by_cases hτ:τ<aa.length
   · rw[List.getElem?_append_left (by omega)]at hn;obtain⟨t,e1,e2,e3⟩:=hi.cQ τ _ (List.getElem?_eq_getElem hτ);cases hm:m τ with
     |none=>
       have:=hN.free τ t e1 hm;rw[hn]at this;simp at this;refine⟨t,tkNone τ t e1 hm,this.symm,e3.cap,e3.zero,fun hlt=>?_⟩;obtain⟨b,o,c,ty,f1,f2,f3,f4,f5⟩:=e3.spare hlt;have hb:=bW f3;exact⟨b,o,c,ty,f1,rFree b τ hb f2 hm,((he.dQ b hb (lK f2 hm)).2).trans f3,f4,fun j v hk=>f5 j v (he.e8 b j v hb (lK f2 hm) hk)⟩
     |some k=>
       have:=hN.used τ t k e1 hm;rw[hn]at this;simp at this;exact⟨_,tkSome τ t k e1 hm,this.symm,⟨Nat.le_refl _,fun h=>by simp at h,fun h=>by simp at h⟩⟩
   ·rw[List.getElem?_append_right (by omega),hol]at hn;obtain⟨t,e1,e2,e3⟩:=h1.cQ _ n hn;refine⟨t,by simp only[Gh.back,if_neg hτ];exact e1,e2,e3.cap,e3.zero,fun hlt=>?_⟩;obtain⟨b,o,c,ty,f1,f2,f3,f4,f5⟩:=e3.spare hlt;refine⟨b,o,c,ty,f1,?_,f3,f4,f5⟩;rw[rOut b (by rw[f2];simp),f2];simp only[He];rw[Nat.sub_add_cancel (by omega)]
 · intro τ t ht;simp only[Gh.back]at ht;split at ht
   · rename_i hτ;rw[List.getElem?_append_left (by omega)];split at ht
     · rename_i t0 h0;split at ht
       ·rename_i k hm;simp at ht;subst ht;exact hN.used τ t0 k h0 hm
       ·rename_i hm;simp at ht;subst ht;exact hN.free τ t0 h0 hm
     ·simp at ht
   ·rename_i hτ;rw[List.getElem?_append_right (by omega),hol];exact h1.ed _ t ht
theorem lM{G1 G':Gh}{N:Nat}(hK:G1.K.le G'.K)(hs:∀s b,G1.sm s=some b→G'.sm s=some b)(ht:∀τ t,G1.tk τ=some t→G'.tk (τ+N)=some t){rs:List AV}{v:Value}(hp:rs.all bu=true)(h:cG (num ns) G1 rs v):cG (num ns) G' (rs.map (cM N)) v:=by
 unfold cG at h;split at h
 ·rename_i r;simp only[List.all_cons,List.all_nil,Bool.and_true]at hp;simp only[List.map_cons,List.map_nil,cG];exact qP hK hs ht hp h
 · rename_i hn;obtain⟨vs,e,h⟩:=h;unfold cG;split
   · rename_i r he;cases rs with
     |nil=>simp at he
     |cons a rs=>
       cases rs with
       |nil=>exact absurd rfl (hn a)
       |cons _ _=>simp at he
   ·exact⟨vs,e,kR hK hs ht hp h⟩
theorem uL{m:Nat→Option Nat}{G1:Gh}{n N:Nat}{rs:List AV}{v:Value}(hp:rs.all bu=true)(h:cG (num ns) G1 rs v):cG (num ns) (G.back m G1 n N) (rs.map (cM N)) v:=
 lM (G1:=G1) (G':=G.back m G1 n N) (N:=N) (aY.le_refl G1.K) (fun _ _ h=>h) z8 hp h
def Nq(N:Nat):jG→jG
 | .tok k=>.tok (k+N)
 |_=>.dQ
def Gh.Bf(G:Gh):Gh:={ K:=G.K,role:=fun _=>.dQ,pm:=fun _=>none,sm:=fun _=>none,tk:=fun _=>none }
theorem Inv.Bf{mem:List (Nat×List AV)}{sh:Sh}{aa:aD}(hi:Inv (num ns) G w mem sh aa):Inv (num ns) G.Bf w [] [] [] where
 known:=hi.known
 aT:=fun _ _ _ _=>.inl rfl
 fresh:=fun _ _=>rfl
 cD:=fun d c h=>by simp[look]at h
 e7:=fun d b h=>by simp[Gh.Bf]at h
 cX:=fun s c h=>by simp at h
 dT:=fun s b h=>by simp[Gh.Bf]at h
 cQ:=fun τ n h=>by simp at h
 ed:=fun τ t h=>by simp[Gh.Bf]at h
 iF:=fun b c hb=>⟨rfl,(hi.iF b c hb).2⟩
def Gh.fp(G:Gh)(G1:Gh)(n N:Nat):Gh:=
 { K:=G1.K,role:=fun b=>if b<n then G.role b else Nq N (G1.role b),pm:=G.pm,sm:=G.sm,tk:=fun τ=>if τ<N then G.tk τ else G1.tk (τ-N) }
theorem Inv.fp{G1:Gh}{w1:World}{mem:List (Nat×List AV)}{sh:Sh}{aa ts':aD}(hi:Inv (num ns) G w mem sh aa)
   (h1:Inv (num ns) G1 w1 [] [] ts') (he:bw G.Bf w G1 w1) :
   Inv (num ns) (G.fp G1 w.heap.size aa.length) w1 mem sh (aa++ts')∧G.le (G.fp G1 w.heap.size aa.length)∧bw G w (G.fp G1 w.heap.size aa.length) w1:=by
 have htl:∀τ t,G.tk τ=some t→τ<aa.length:=fun τ t h=>(List.getElem?_eq_some_iff.1 (hi.ed τ t h)).1;have hK:G.K.le G1.K:=he.K
 have rOld:∀b,b<w.heap.size→(G.fp G1 w.heap.size aa.length).role b=G.role b:=fun b hb=>by simp only[Gh.fp,if_pos hb]
 have rNew:∀b,¬b<w.heap.size→(G.fp G1 w.heap.size aa.length).role b=Nq aa.length (G1.role b):=fun b hb=>by simp only[Gh.fp,if_neg hb]
 have same:∀b,b<w.heap.size→w1.heap[b]?=w.heap[b]?:=fun b hb=>(he.dQ b hb rfl).2;have Kold:∀b o v,b<w.heap.size→G1.K b o=some v→G.K b o=some v:=fun b o v hb hk=>he.e8 b o v hb rfl hk
 have hle:G.le (G.fp G1 w.heap.size aa.length):=⟨hK,fun _ _ h=>h,fun _ _ h=>h,fun τ t h=>⟨t,by simp only[Gh.fp,if_pos (htl τ t h)];exact h,⟨Nat.le_refl _,Tk.e6 _⟩,fun _=>rfl⟩⟩
 have hevo:bw G w (G.fp G1 w.heap.size aa.length) w1:={
           size:=he.size,os:=he.os,tape:=he.tape,output:=he.output,K:=hK,sm:=fun _ _ h=>h,
           dQ:=fun b hb hr=>⟨(rOld b hb).trans hr,same b hb⟩
           gp:=fun b τ hb hr=>.inr ⟨τ,(rOld b hb).trans hr⟩
           e8:=fun b o v hb _ hk=>Kold b o v hb hk }
 refine⟨⟨h1.known,?_,?_,?_,hi.e7,?_,hi.dT,?_,?_,hi.fu hevo⟩,hle,hevo⟩
 · intro b o v hk;by_cases hb:b<w.heap.size
   ·rw[rOld b hb];exact hi.aT b o v (Kold b o v hb hk)
   · rw[rNew b hb];rcases h1.aT b o v hk with h|⟨τ,h⟩
     ·left;rw[h];rfl
     ·right;exact⟨τ+aa.length,by rw[h];rfl⟩
 ·intro b hb;have:=he.size;rw[rNew b (by omega),h1.fresh b hb];rfl
 · intro d cs hd;obtain⟨b,e1,e2,e3⟩:=hi.cD d cs hd;have hlt:b<w.heap.size:=by obtain⟨_,_,_,hh,_⟩:=e2;exact bW hh
   exact⟨b,e1,e2.mono hle (rOld b hlt) (same b hlt),e3⟩
 ·intro s cs hs;obtain⟨b,e1,e2,e3⟩:=hi.cX s cs hs;have hlt:b.1<w.heap.size:=e2.lt;exact⟨b,e1,e2.mono hle (rOld b.1 hlt) (same b.1 hlt),e3⟩
 · intro τ n hn;by_cases hτ:τ<aa.length
   ·rw[List.getElem?_append_left hτ]at hn;obtain⟨t,e1,e2,e3⟩:=hi.cQ τ n hn;refine⟨t,by simp only[Gh.fp,if_pos hτ];exact e1,e2,e3.cap,e3.zero,fun hlt=>?_⟩;obtain⟨b,o,c,ty,f1,f2,f3,f4,f5⟩:=e3.spare hlt;have hlt':=bW f3;exact⟨b,o,c,ty,f1,(rOld b hlt').trans f2,(same b hlt').trans f3,f4,fun j v hkk=>f5 j v (Kold b j v hlt' hkk)⟩
   · rw[List.getElem?_append_right (by omega)]at hn;obtain⟨t,e1,e2,e3⟩:=h1.cQ _ n hn;refine⟨t,by simp only[Gh.fp,if_neg hτ];exact e1,e2,e3.cap,e3.zero,fun hlt=>?_⟩;obtain⟨b,o,c,ty,f1,f2,f3,f4,f5⟩:=e3.spare hlt
     have hb:¬b<w.heap.size:=fun hb=>by
       have:=(he.dQ b hb rfl).1;rw[f2]at this;cases this
     refine⟨b,o,c,ty,f1,?_,f3,f4,f5⟩;rw[rNew b hb,f2];simp only[Nq];rw[Nat.sub_add_cancel (by omega)]
 · intro τ t ht;simp only[Gh.fp]at ht;split at ht
   ·rename_i hτ;rw[List.getElem?_append_left hτ];exact hi.ed τ t ht
   ·rename_i hτ;rw[List.getElem?_append_right (by omega)];exact h1.ed _ t ht
theorem Bg{G1:Gh}{w1:World}{ts':aD}{n N:Nat}(h1:Inv (num ns) G1 w1 [] [] ts'){rs:List AV}{v:Value}(hp:rs.all bu=true)(h:cG (num ns) G1 rs v):cG (num ns) (G.fp G1 n N) (rs.map (cM N)) v:=
 lM (G1:=G1) (G':=G.fp G1 n N) (N:=N) (aY.le_refl G1.K) (fun s b h=>by have:=h1.dT s b h;simp at this) (fun τ t h=>by simp only[Gh.fp];rw[if_neg (by omega),Nat.add_sub_cancel];exact h) hp h
end
end Go.Ab
namespace Go.Ab
section
variable {P:Program} {ns:Names} {G:Gh} {w:World}
theorem qQ{rs:List PV}{v:Value}(h:fD G.K rs v):au (num ns) G (oM rs) v:=by
 match rs,h with
 |[r],h=>simp only[fD]at h;simp only[oM,au];exact h
 |[],h=>simp only[fD]at h;simp only[oM,au];obtain⟨vs,e,h⟩:=h;exact⟨vs,e,eI h⟩
 |_::_::_,h=>simp only[fD]at h;simp only[oM,au];obtain⟨vs,e,h⟩:=h;exact⟨vs,e,eI h⟩
theorem qR{rs:List AV}{v:Value}(h:cG (num ns) G rs v):au (num ns) G (oN rs) v:=by
 match rs,h with
 |[r],h=>simp only[cG]at h;simp only[oN];exact h
 |[],h=>simp only[cG]at h;simp only[oN,au];exact h
 |_::_::_,h=>simp only[cG]at h;simp only[oN,au];exact h
theorem Bh{v:AV}{rv:Value}(h:au (num ns) G v rv):au (num ns) G (jo v) rv:=by
 unfold jo;split
 ·rename_i p hp;simp only[au];exact rX hp h
 ·exact h
theorem pg{own:List Nat}:∀{i:Nat} {xs:List AV} {vs:List Value},aq (num ns) G xs vs→aq (num ns) G (dz own i xs) vs
 |_,[],_,h=>by simpa[dz,aq] using h
 |i,x::xs,_,h=>by
   simp only[aq]at h;obtain⟨v,r,rfl,e1,e2⟩:=h;simp only[dz,aq];refine⟨v,r,rfl,?_,pg e2⟩;split
   ·exact e1
   ·exact Bh e1
theorem D7{A:iy}{dst:Option Nat}{c:Call}{k:AK}{args:List Operand}(h:br P ns A dst (.call c)=some (k,args))(hk:k.calls=true) :
   (∃f g,c.callee=.value (.func f)∧ns.of f=some g∧args=c.args.toList∧(k=.aL g∨k=.d3 g∨(∃own,k=.bG g own)∨(∃sz by_,(k=.clone sz by_∨∃ag,k=.eY sz by_ ag)∧look ns.cl g=some (sz,by_))∨k=.jB g)) ∨
   (∃t,c.callee=.value (.tmp t)∧args=.tmp t::c.args.toList∧(k=.et∨k=.d4)):=by
 obtain⟨callee,cargs,ctypes⟩:=c;simp only[br]at h;split at h
 ·split at h<;>simp at h<;>(obtain⟨rfl,_⟩:=h;simp[AK.calls]at hk)
 ·split at h<;>simp at h;obtain⟨rfl,_⟩:=h;simp[AK.calls]at hk
 ·split at h<;>simp at h;obtain⟨rfl,_⟩:=h;simp[AK.calls]at hk
 · split at h
   · split at h
     · rw[Option.ite_none_right_eq_some]at h;obtain⟨_,h⟩:=h;split at h
       ·simp only[Option.map_eq_some_iff,Prod.mk.injEq]at h;obtain⟨_,_,rfl,_⟩:=h;simp[AK.calls]at hk
       ·split at h<;>(simp at h;obtain⟨rfl,_⟩:=h;simp[AK.calls]at hk)
     ·simp at h
   ·simp at h
 · split at h
   · split at h
     · split at h<;>simp at h
       obtain⟨rfl,_⟩:=h;simp[AK.calls]at hk
     ·simp at h
   ·simp at h
 · split at h
   · split at h<;>simp at h
     obtain⟨rfl,_⟩:=h;simp[AK.calls]at hk
   ·simp at h
 · rename_i f;left;split at h
   · rename_i g hg;split at h
     · rename_i sz by_ hcl;rw[Option.ite_none_right_eq_some]at h;obtain⟨_,h⟩:=h;split at h
       · split at h
         ·simp only[Option.map_eq_some_iff,Prod.mk.injEq]at h;obtain⟨ag,_,h1,h2⟩:=h;exact⟨f,g,rfl,hg,h2.symm,.inr (.inr (.inr (.inl ⟨sz,by_,.inr ⟨ag,h1.symm⟩,hcl⟩)))⟩
         ·simp at h
       ·simp only[Option.some.injEq,Prod.mk.injEq]at h;exact⟨f,g,rfl,hg,h.2.symm,.inr (.inr (.inr (.inl ⟨sz,by_,.inl h.1.symm,hcl⟩)))⟩
     · split at h
       ·simp at h;exact⟨f,g,rfl,hg,h.2.symm,.inr (.inr (.inr (.inr h.1.symm)))⟩
       · split at h
         ·simp at h;exact⟨f,g,rfl,hg,h.2.symm,.inr (.inr (.inl ⟨_,h.1.symm⟩))⟩
         · split at h
           ·simp at h;exact⟨f,g,rfl,hg,h.2.symm,.inr (.inl h.1.symm)⟩
           ·simp at h;exact⟨f,g,rfl,hg,h.2.symm,.inl h.1.symm⟩
   ·simp at h
 · rename_i t;right;split at h
   ·simp at h;exact⟨t,rfl,h.2.symm,.inr h.1.symm⟩
   ·simp at h;exact⟨t,rfl,h.2.symm,.inl h.1.symm⟩
 ·simp at h
mutual
theorem z9:∀{a b:PV},kr a b=true→a=b
 | .bool a,b,h=>by cases b<;>simp[kr]at h;rw[h]
 | .int k n,b,h=>by cases b<;>simp[kr]at h;rw[h.1,h.2]
 | .str s,b,h=>by cases b<;>simp[kr]at h;rw[h]
 | .agg l,b,h=>by
   cases b with
   |agg q=>simp only[kr]at h;rw[ph h]
   |_=>simp[kr]at h
 | .az l,b,h=>by
   cases b with
   |az q=>simp only[kr]at h;rw[ph h]
   |_=>simp[kr]at h
theorem ph:∀{a b:List PV},lz a b=true→a=b
 |[],b,h=>by cases b with|nil=>rfl|cons _ _=>simp[lz]at h
 |x::r,b,h=>by
   cases b with
   |nil=>simp[lz]at h
   |cons y q=>
     simp only[lz,Bool.and_eq_true]at h;rw[z9 h.1,ph h.2]
end
theorem z_:∀{a b:List AV},qp a b=true→a=b
 |[],b,h=>by cases b with|nil=>rfl|cons _ _=>simp[qp]at h
 |x::r,b,h=>by
   cases b with
   |nil=>simp[qp]at h
   |cons y q=>
     simp only[qp,Bool.and_eq_true]at h;rw[z_ h.2];have h1:=h.1;cases x with
     |pv p=>cases y with
       |pv p'=>simp only[K5]at h1;rw[z9 h1]
       |_=>simp[K5]at h1
     |_=>simp[K5]at h1
theorem ss:∀{a b:Sh},kt a b=true→a=b
 |[],b,h=>by cases b with|nil=>rfl|cons _ _=>simp[kt]at h
 |none::r,b,h=>by
   cases b with
   |nil=>simp[kt]at h
   |cons y q=>cases y with
     |none=>simp only[kt]at h;rw[ss h]
     |some _=>simp[kt]at h
 |some x::r,b,h=>by
   cases b with
   |nil=>simp[kt]at h
   |cons y q=>cases y with
     |none=>simp[kt]at h
     |some y=>
       simp only[kt,Bool.and_eq_true]at h;rw[z_ h.1,ss h.2]
theorem qw{orc:dD}{vals:List AV}{cells:Option (List AV)}{sh:Sh}{aa:aD}{out:Out}(h:exec orc .d4 vals cells sh aa=some out):exec orc .et vals cells sh aa=some out:=by
 cases vals with
 |nil=>simp[exec]at h
 |cons f vals=>
   cases f with
   |fn g cap=>
     simp only[exec,Option.bind_eq_some_iff]at h;obtain⟨⟨v,sh',ts⟩,h1,h2⟩:=h;simp only[Nk,Option.ite_none_right_eq_some,Option.some.injEq]at h2;obtain⟨h3,rfl⟩:=h2;have:=ss h3;subst this;simp[exec,h1]
   |_=>simp[exec]at h
theorem jO{orc:dD}(horc:eQ P ns orc){f g:Nat}{own:List Nat}(hg:ns.of f=some g){vals:List AV}{vs:List Value}{x:AV}{mem:List (Nat×List AV)}{sh sh':Sh}{aa toks':aD}
   (hr:aq (num ns) G vals vs) (hi:Inv (num ns) G w mem sh aa) (h:dt orc g own vals sh aa=some (x,sh',toks')) :
   Calls P f vs.toArray w fun e w'=>∃v G',e=.returned v∧au (num ns) G' x v∧Inv (num ns) G' w' mem sh' toks'∧G.le G'∧bw G w G' w':=by
 unfold dt at h;simp only[Option.ite_none_right_eq_some,Option.map_eq_some_iff]at h;obtain⟨hp,⟨rs,sh1,ts1⟩,h1,h2⟩:=h;simp only[Prod.mk.injEq]at h2;obtain⟨rfl,rfl,rfl⟩:=h2;obtain⟨hC,hpr⟩:=horc.i g f _ _ rs _ sh1 ts1 hg (f_ hp) h1;obtain⟨m,tks,hN,hto,hargs⟩:=hi.Hh hp (pg (own:=own) (i:=0) hr);refine (hC (G.to m tks) w vs hto hargs).mono ?_
 rintro e w' ⟨v,G1,rfl,fx,hi1,hevo⟩
 obtain⟨g1,g2,g3⟩:=hi.back hN Bc hi1 hevo;exact⟨v,_,rfl,qR (uL hpr fx),g1,g2,g3⟩
theorem uM{orc:dD}(horc:eQ P ns orc){f g:Nat}(hg:ns.of f=some g){cI:List PV}{vs:List Value}{rs:List AV}{ts1:aD}{mem:List (Nat×List AV)}{sh:Sh}{aa:aD}
   (hr:gI G.K cI vs) (hi:Inv (num ns) G w mem sh aa) (h:orc.i g (cI.map .pv) [] []=some (rs,[],ts1)) :
   Calls P f vs.toArray w fun e w'=>∃v G',e=.returned v∧au (num ns) G' (oN (rs.map (cM aa.length))) v∧Inv (num ns) G' w' mem sh (aa++ts1)∧G.le G'∧bw G w G' w':=by
 have hpass:(cI.map AV.pv).all bu=true:=by
   rw[List.all_eq_true];intro x hx;obtain⟨p,_,rfl⟩:=List.mem_map.1 hx;rfl
 obtain⟨hC,hpr⟩:=horc.i g f _ _ rs _ _ ts1 hg hpass h;refine (hC G.Bf w vs hi.Bf (eI (ρ:=num ns) (G:=G.Bf) hr)).mono ?_
 rintro e w' ⟨v,G1,rfl,fx,hi1,hevo⟩
 obtain⟨g1,g2,g3⟩:=hi.fp hi1 hevo;exact⟨v,_,rfl,qR (Bg hi1 hpr fx),g1,g2,g3⟩
theorem Ht(hB:d5 P ns){orc:dD}(horc:eQ P ns orc){A:iy}{o:Oper}{k:AK}{args:List Operand}(hc:br P ns A o.dst o.op=some (k,args)){a:Act}{vals:List AV}{out:Out}
   {mem:List (Nat×List AV)} {sh:Sh} {aa:aD} (hr:aq (num ns) G vals (args.map a.eval)) (hi:Inv (num ns) G w mem sh aa)
   (h:exec orc k vals (k.key.bind (look mem)) sh aa=some out) {next:Act→World→Prop} {Q:Exit→Act→World→Prop}
   (hn:∀v w' G',au (num ns) G' out.val v→Inv (num ns) G' w' (eb mem k.key out.cells) out.sh out.aa→G.le G'→bw G w G' w'→next (a.put o.dst v) w'):o.wp P a w next Q:=by
 cases hk:k.calls with
 |false=>
   obtain⟨n,v,w',G',g1,g2,g3,g4,g5,g6⟩:=nu hc hk hr hi h;unfold Oper.wp;rw[g1];rcases g2 with rfl|⟨rfl,rfl⟩
   ·exact hn v w' G' g3 g4 g5 g6
   ·exact hn undef w' G' g3 g4 g5 g6
 |true=>
   obtain⟨dst,op,type,pos,after,guard⟩:=o;have hcall:∃c,op=.call c:=xf (k:=k) (by cases k<;>simp_all[AK.calls]) hc;obtain⟨c,rfl⟩:=hcall;rcases D7 hc hk with⟨f,g,hcal,hg,rfl,hk'⟩|⟨t,hcal,rfl,hkv⟩
   · have hrun:(execOp a.eval ⟨dst,.call c,type,pos,after,guard⟩).run P w=.ok (.enter f ((c.args.toList.map a.eval).toArray)) w:=by
       obtain⟨callee,cargs,ctypes⟩:=c;simp only at hcal;subst hcal;simp only[execOp,resolve,Sem.run_bind,Act.eval,Deferred.ofValue,Sem.run_pure,Result.andThen_ok,invoke];rw[lF hB hg];congr 2;apply Array.ext';simp
     rcases hk' with rfl|rfl|⟨own,rfl⟩|⟨sz,by_,hkc,hcl⟩|rfl
     · -- for pure data
       simp only[exec]at h;split at h
       · rename_i cI hp;simp only[Option.map_eq_some_iff]at h;obtain⟨rs,h1,rfl⟩:=h;have hC:=horc.p g f cI rs hg h1 G.K w _ (fun b c hb=>(hi.iF b c hb).2) hi.known (iP hp hr);unfold Oper.wp;rw[hrun];refine hC.mono ?_
         rintro e w' ⟨v,K',rfl,fx,hK,hold,hkk,hb⟩
         obtain⟨g1,g2,g3⟩:=hi.pure hK hold hkk hb;exact hn v w' _ (qQ fx) (by simpa[AK.key,eb] using g1) g2 g3
       ·simp at h
     · -- for pure data,arrays frozen
       simp only[exec]at h;split at h
       · rename_i cI hp;simp only[Option.map_eq_some_iff]at h;obtain⟨rs,h1,rfl⟩:=h;obtain⟨G1,k1,k2,k3,k4,k5⟩:=Inv.kill (vals.flatMap dJ) hi;have hC:=horc.p g f cI rs hg h1 G1.K w _ (fun b c hb=>(k1.iF b c hb).2) k1.known (nv k2 k4 hi.o_ (fun s hs=>hs) hp hr);unfold Oper.wp;rw[hrun];refine hC.mono ?_
         rintro e w' ⟨v,K',rfl,fx,hK,hold,hkk,hb⟩
         obtain⟨g1,g2,g3⟩:=k1.pure hK hold hkk hb;exact hn v w' _ (qQ fx) (by simpa[AK.key,eb,cd] using g1) (Gh.le_trans k2 g2) (k3.trans g3)
       ·simp at h
     · -- with the shared memory
       simp only[exec,Option.map_eq_some_iff]at h;obtain⟨⟨x,sh',ts'⟩,h1,rfl⟩:=h;have hC:=jO horc hg hr hi h1;unfold Oper.wp;rw[hrun];refine hC.mono ?_
       rintro e w' ⟨v,G',rfl,g1,g2,g3,g4⟩
       exact hn v w' G' g1 (by simpa[AK.key,eb] using g2) g3 g4
     · -- slices.Clone
       have hkey:k.key=none:=by rcases hkc with rfl|⟨ag,rfl⟩<;>rfl
       rw[hkey]at hn;rcases vals with _|⟨x,_|⟨_,_⟩⟩
       ·rcases hkc with rfl|⟨ag,rfl⟩<;>simp[exec]at h
       · obtain⟨oc,y,sh',ts',h1,rfl⟩:∃oc y sh' ts',ez oc sz by_ x sh aa=some (y,sh',ts')∧out=⟨y,none,sh',ts'⟩:=by
           rcases hkc with rfl|⟨ag,rfl⟩
           ·simp only[exec,Option.map_eq_some_iff]at h;obtain⟨⟨y,ts'⟩,h1,rfl⟩:=h;exact⟨none,y,sh,ts',by simp[ez,h1],rfl⟩
           ·simp only[exec,Option.map_eq_some_iff]at h;obtain⟨⟨y,sh',ts'⟩,h1,rfl⟩:=h;exact⟨some ag,y,sh',ts',h1,rfl⟩
         have hl:=hr.length;obtain⟨v,hv⟩:∃v,c.args.toList.map a.eval=[v]:=List.length_eq_one_iff.1 (by simpa using hl);rw[hv]at hr;simp only[aq]at hr;obtain⟨v',r,e,hx,rfl⟩:=hr;cases e;have hC:=horc.c g sz by_ f hcl hg oc G w mem sh sh' aa ts' x y v hi hx h1;unfold Oper.wp;rw[hrun,hv];refine hC.mono ?_
         rintro e w' ⟨u,G',rfl,g1,g2,g3,g4⟩
         exact hn u w' G' g1 (by simpa[eb] using g2) g3 g4
       ·rcases hkc with rfl|⟨ag,rfl⟩<;>simp[exec]at h
     · -- without the shared memory
       simp only[exec]at h;split at h
       · rename_i cI hp;split at h
         · rename_i rs ts1 h1;cases h;have hC:=uM horc hg (iP hp hr) hi h1;unfold Oper.wp;rw[hrun];refine hC.mono ?_
           rintro e w' ⟨v,G',rfl,g1,g2,g3,g4⟩
           exact hn v w' G' g1 (by simpa[AK.key,eb] using g2) g3 g4
         ·simp at h
       ·simp at h
   · -- a function value
     have hkey:k.key=none:=by rcases hkv with rfl|rfl<;>rfl
     replace h:exec orc .et vals none sh aa=some out:=by
       rcases hkv with rfl|rfl
       ·exact h
       ·exact qw h
     rw[hkey]at hn;cases vals with
     |nil=>simp[aq]at hr
     |cons x0 vals=>
       simp only[List.map_cons,aq]at hr;obtain⟨fv,r,e,hf,hr⟩:=hr;simp only[List.cons.injEq]at e;obtain⟨rfl,rfl⟩:=e;cases x0 with
       |fn g cap=>
         simp only[exec,Option.map_eq_some_iff]at h;obtain⟨⟨x,sh',ts'⟩,h1,rfl⟩:=h;simp only[au]at hf;obtain⟨f,vs,hg,hv,hcap⟩:=hf
         have hrun:(execOp a.eval ⟨dst,.call c,type,pos,after,guard⟩).run P w=.ok (.enter f ((c.args.toList.map a.eval++vs).toArray)) w:=by
           obtain⟨callee,cargs,ctypes⟩:=c;simp only at hcal;subst hcal;simp only[execOp,resolve,Sem.run_bind];rw[hv];simp only[Deferred.ofValue,Sem.run_pure,Result.andThen_ok,invoke];rw[lF hB hg];congr 2;apply Array.ext';simp
         have hC:=jO horc hg (aq.append hr hcap) hi h1;unfold Oper.wp;rw[hrun];refine hC.mono ?_
         rintro e w' ⟨v,G',rfl,g1,g2,g3,g4⟩
         exact hn v w' G' g1 (by simpa[AK.key,eb] using g2) g3 g4
       |_=>simp[exec]at h
end
end Go.Ab
namespace Go.Ab
section
variable {n0:Nat} {P:Program} {ns:Names} {G:Gh} {w:World}
theorem jH.mono{G':Gh}{N:Nat}{env:List (Nat×AV)}{a:Act}(h:jH (num ns) G N env a)(hle:G.le G'):jH (num ns) G' N env a:=
 ⟨h.size,fun t x hx=>let ⟨v,h1,h2⟩:=h.env t x hx;⟨v,h1,h2.mono hle⟩⟩
theorem jH.put{N:Nat}{env:List (Nat×AV)}{a:Act}(h:jH (num ns) G N env a){dst:Option Nat}(hd:(dst.map (fun d=>decide (d<N))).getD true=true){x:AV}{v:Value}(hx:au (num ns) G x v) :
   jH (num ns) G N (eA env dst x) (a.put dst v):=by
 cases dst with
 |none=>exact h
 |some d=>
   simp at hd;refine⟨by simp[Act.put,h.size],fun t y hy=>?_⟩;simp only[eA]at hy;by_cases ht:d=t
   ·subst ht;rw[bh]at hy;cases hy;exact⟨v,by simp[Act.put,h.size,hd],hx⟩
   ·rw[bz _ _ _ _ ht]at hy;obtain⟨u,h1,h2⟩:=h.env t y hy;exact⟨u,by simp only[Act.put];rw[Array.getElem?_setIfInBounds_ne ht];exact h1,h2⟩
theorem put_defers(a:Act)(dst:Option Nat)(v:Value):(a.put dst v).defers=a.defers:=by cases dst<;>rfl
theorem jd{A:iy}{N:Nat}{ops:Array Oper}{o:Oper}{ao:dr}(h:ct P ns A N ops o=some ao) :
   ∃args,br P ns A o.dst o.op=some (ao.op,args)∧bP (gu ns) args=some ao.args∧ao.dst=o.dst∧(o.dst.map (fun d=>decide (d<N))).getD true=true ∧
     ((o.guard=none∧ao.guard=none)∨∃j b t,o.guard=some (j,b)∧(ops[j]?).bind (·.dst)=some t∧ao.guard=some (t,b)):=by
 unfold ct at h;split at h
 · rename_i k args hk;split at h
   · rename_i as ha;simp only[Option.ite_none_right_eq_some]at h;obtain⟨hd,h⟩:=h;split at h
     ·rename_i hg;simp at h;subst h;exact⟨args,hk,ha,rfl,hd,.inl ⟨hg,rfl⟩⟩
     · rename_i j b hg;split at h
       ·rename_i t ht;simp at h;subst h;exact⟨args,hk,ha,rfl,hd,.inr ⟨j,b,t,hg,ht,rfl⟩⟩
       ·simp at h
   ·simp at h
 ·simp at h
theorem lN{A:iy}{N:Nat}{ops:Array Oper}{o:Oper}{ao:dr}{env:List (Nat×AV)}{a:Act}(h:ct P ns A N ops o=some ao)(he:jH (num ns) G N env a){r:Bool}
   (hw:ek env ao.guard=some r):Region.wanted o (yielded ops a.tmps)=r:=by
 obtain⟨_,_,_,_,_,hg⟩:=jd h;rcases hg with⟨h1,h2⟩|⟨j,b,t,h1,h2,h3⟩
 ·rw[h2]at hw;simp[ek]at hw;simp[Region.wanted,h1,hw]
 · rw[h3]at hw;simp only[ek]at hw;split at hw
   ·rename_i c hc;obtain⟨v,e1,e2⟩:=he.env t _ hc;simp only[au,gJ]at e2;simp at hw;simp[Region.wanted,h1,yielded,h2,e1,e2,hw]
   ·rename_i hc;obtain⟨v,e1,e2⟩:=he.env t _ hc;simp only[au]at e2;simp at hw;simp[Region.wanted,h1,yielded,h2,e1,e2,undef,←hw]
   ·simp at hw
theorem xl(hB:d5 P ns){orc:dD}(horc:eQ P ns orc){A:iy}{N:Nat}{ops:Array Oper}{o:Oper}{ao:dr}(hc:ct P ns A N ops o=some ao)
   {st st':St} {a:Act} (hs:fl (num ns) n0 N G st a w) (hev:dv orc ao st=some st') {next:Act→World→Prop} {Q:Exit→Act→World→Prop}
   (hn:∀G' v w',fl (num ns) n0 N G' st' (a.put o.dst v) w'→bw G w G' w'→next (a.put o.dst v) w') :
   (Region.wanted o (yielded ops a.tmps)=true∧o.wp P a w next Q)∨(Region.wanted o (yielded ops a.tmps)=false∧next (a.put o.dst undef) w):=by
 obtain⟨args,h1,h2,h3,h4,_⟩:=jd hc;unfold dv at hev;split at hev
 ·simp at hev
 ·rename_i hw;right;refine⟨lN hc hs.env hw,?_⟩;simp at hev;subst hev;refine hn G _ w ⟨?_,hs.inv,hs.marks.na (bw.refl G w) (put_defers _ _ _)⟩ (bw.refl G w);simp only[h3];exact hs.env.put h4 (by simp[au])
 · rename_i hw;left;refine⟨lN hc hs.env hw,?_⟩;split at hev
   ·simp at hev
   · rename_i vals hv;split at hev
     ·simp at hev
     ·rename_i out ho;simp at hev;subst hev;have hr:=t5 hs.env h2 hv;refine Ht hB horc h1 hr hs.inv ho ?_;intro v w' G' g1 g2 g3 g4;refine hn G' _ w' ⟨?_,g2,hs.marks.na g4 (put_defers _ _ _)⟩ g4;simp only[h3];exact (hs.env.mono g3).put h4 g1
end
end Go.Ab
namespace Go.Ab
section
variable {orc:dD}
def D8(E:Nat→Option AV):d_→Option AV
 | .t n=>E n
 | .c v=>some v
def iI(E:Nat→Option AV):List d_→Option (List AV)
 |[]=>some []
 |x::r=>match D8 E x,iI E r with
   |some v,some vs=>some (v::vs)
   |_,_=>none
def j9(E:Nat→Option AV):Option (Nat×Bool)→Option Bool
 |none=>some true
 |some (t,b)=>match E t with
   |some (.pv (.bool c))=>some (c == b)
   |some .un=>some false
   |_=>none
def cB(orc:dD)(o:dr)(E:Nat→Option AV)(M:Nat→Option (List AV))(sh:Sh)(aa:aD):Option Out:=
 match j9 E o.guard with
 |none=>none
 |some false=>some ⟨.un,none,sh,aa⟩
 |some true=>match iI E o.args with
   |none=>none
   |some vals=>exec orc o.op vals (o.op.key.bind M) sh aa
theorem pj(env:List (Nat×AV)):∀l,dB env l=iI (look env) l
 |[]=>rfl
 |x::l=>by
   have:fm env x=D8 (look env) x:=by cases x<;>rfl
   simp only[dB,iI,this,pj env l];rfl
theorem dO(o:dr)(st:St):dv orc o st=(cB orc o (look st.env) (look st.mem) st.sh st.aa).map
   fun r=>{ env:=eA st.env o.dst r.val,mem:=eb st.mem o.op.key r.cells,sh:=r.sh,aa:=r.aa }:=by
 unfold dv cB
 have hw:ek st.env o.guard=j9 (look st.env) o.guard:=by
   cases o.guard with
   |none=>rfl
   |some g=>rfl
 rw[hw];cases j9 (look st.env) o.guard with
 |none=>rfl
 |some b=>cases b with
   |false=>simp[eo]
   |true=>
     simp only[pj];cases iI (look st.env) o.args with
     |none=>rfl
     |some vals=>
       simp only;cases exec orc o.op vals (o.op.key.bind (look st.mem)) st.sh st.aa<;>rfl
theorem jP{E E':Nat→Option AV}:∀{l:List d_},(∀t∈l.filterMap (fun| .t n=>some n|_=>none),E t=E' t)→iI E l=iI E' l
 |[],_=>rfl
 | .c v::l,h=>by
   simp only[iI,D8];rw[jP (l:=l) (fun t ht=>h t (by simpa using ht))]
 | .t n::l,h=>by
   simp only[iI,D8];rw[jP (l:=l) (fun t ht=>h t (by simp only[List.filterMap_cons,List.mem_cons];exact .inr ht)),h n (by simp)]
theorem e9{o:dr}{E E':Nat→Option AV}{M M':Nat→Option (List AV)}{sh:Sh}{aa:aD}(hE:∀t∈o.looks,E t=E' t)(hM:∀k,o.op.key=some k→M k=M' k) :
   cB orc o E M sh aa=cB orc o E' M' sh aa:=by
 have h1:j9 E o.guard=j9 E' o.guard:=by
   cases hg:o.guard with
   |none=>rfl
   |some g=>
     obtain⟨t,b⟩:=g;simp only[j9];rw[hE t (by simp[dr.looks,hg])]
 have h2:iI E o.args=iI E' o.args:=jP fun t ht=>hE t (by simp only[dr.looks,List.mem_append];exact .inl ht)
 have h3:o.op.key.bind M=o.op.key.bind M':=by
   cases hk:o.op.key with
   |none=>rfl
   |some k=>exact hM k hk
 unfold cB;rw[h1,h2,h3]
theorem JM{op:AK}{vals:List AV}{cells:Option (List AV)}{sh:Sh}{aa:aD}{r:Out}(ht:op.gn=false)(h:exec orc op vals cells sh aa=some r) :
   r.sh=sh∧∀sh',exec orc op vals cells sh' aa=some { r with sh:=sh' }:=by
 cases op with
 |v vo=>
   simp only[exec,Option.map_eq_some_iff]at h⊢;obtain⟨x,h1,rfl⟩:=h;exact⟨rfl,fun sh'=>⟨x,h1,rfl⟩⟩
 |b_ k o s ag=>
   obtain⟨cs,x,rfl,rfl,hx,rfl⟩:=fC h;exact⟨rfl,fun sh'=>by simp[exec,hx]⟩
 |bB k o s=>
   obtain⟨cs,v,rfl,rfl,h1,h2,h3,rfl⟩:=fY h;exact⟨rfl,fun sh'=>by simp[exec,h1,h2,h3]⟩
 |alloc k z=>
   obtain⟨rfl,rfl,rfl⟩:=gO h;exact⟨rfl,fun sh'=>by simp[exec]⟩
 |box k s=>
   obtain⟨v,rfl,rfl,h1,h2,rfl⟩:=jJ h;exact⟨rfl,fun sh'=>by simp only[exec];rw[if_pos ⟨h1,h2⟩]⟩
 |fR d s b z=>
   obtain⟨k,k',n,rfl,h1,h2,h3,h4,rfl,rfl⟩:=gP h;exact⟨rfl,fun sh'=>by simp[exec,h1,h2,h3,h4]⟩
 |append s b=>
   obtain⟨s,x,y,ts,rfl,h1,rfl⟩:=ij h;exact⟨rfl,fun sh'=>by simp[exec,h1]⟩
 |cW s b ag=>simp[AK.gn]at ht
 |lx s b=>first|(simp[exec]at h;done)|(simp[exec]at e;done)|(simp[exec];done)
 |eZ s z=>simp[AK.gn]at ht
 |hZ s=>simp[AK.gn]at ht
 |clone s b=>
   obtain⟨x,y,ts,rfl,h1,rfl⟩:=kN h;exact⟨rfl,fun sh'=>by simp[exec,h1]⟩
 |aL g=>
   simp only[exec]at h⊢;split at h
   ·rename_i cI hp;simp only[Option.map_eq_some_iff]at h;obtain⟨rs,h1,rfl⟩:=h;exact⟨rfl,fun sh'=>by simp[h1]⟩
   ·simp at h
 |jB g=>
   simp only[exec]at h⊢;split at h
   · rename_i cI hp;split at h
     ·rename_i rs ts1 h1;cases h;exact⟨rfl,fun sh'=>by simp[h1]⟩
     ·simp at h
   ·simp at h
 |_=>simp[AK.gn]at ht
theorem JN{op:AK}{vals:List AV}{cells:Option (List AV)}{sh:Sh}{aa:aD}{r:Out}(ht:op.eN=false)(h:exec orc op vals cells sh aa=some r) :
   r.aa=aa∧∀ts,exec orc op vals cells sh ts=some { r with aa:=ts }:=by
 cases op with
 |v vo=>
   simp only[exec,Option.map_eq_some_iff]at h⊢;obtain⟨x,h1,rfl⟩:=h;exact⟨rfl,fun ts=>⟨x,h1,rfl⟩⟩
 |b_ k o s ag=>
   obtain⟨cs,x,rfl,rfl,hx,rfl⟩:=fC h;exact⟨rfl,fun ts=>by simp[exec,hx]⟩
 |bB k o s=>
   obtain⟨cs,v,rfl,rfl,h1,h2,h3,rfl⟩:=fY h;exact⟨rfl,fun ts=>by simp[exec,h1,h2,h3]⟩
 |alloc k z=>
   obtain⟨rfl,rfl,rfl⟩:=gO h;exact⟨rfl,fun ts=>by simp[exec]⟩
 |box k s=>
   obtain⟨v,rfl,rfl,h1,h2,rfl⟩:=jJ h;exact⟨rfl,fun ts=>by simp only[exec];rw[if_pos ⟨h1,h2⟩]⟩
 |fR d s b z=>
   obtain⟨k,k',n,rfl,h1,h2,h3,h4,rfl,rfl⟩:=gP h;exact⟨rfl,fun ts=>by simp[exec,h1,h2,h3,h4]⟩
 |append s b=>simp[AK.eN]at ht
 |cW s b ag=>simp[AK.eN]at ht
 |lx s b=>first|(simp[exec]at h;done)|(simp[exec]at e;done)|(simp[exec];done)
 |clone s b=>simp[AK.eN]at ht
 |eY s b ag=>
   rcases vals with _|⟨x,_|⟨_,_⟩⟩
   ·simp[exec]at h
   · simp only[exec,ez]at h⊢;split at h
     · rename_i xs hx;split at h
       ·rename_i hh;simp only[Option.map_map,Option.map_eq_some_iff]at h;obtain⟨⟨y,sh'⟩,h1,rfl⟩:=h;refine⟨rfl,fun ts=>?_⟩;simp[hx,hh,h1]
       ·simp at h
     ·simp at h
   ·simp[exec]at h
 |eZ s z=>
   obtain⟨x,sh',rfl,h1,rfl⟩:=nq h;exact⟨rfl,fun ts=>by simp[exec,h1]⟩
 |hZ s=>
   obtain⟨x,y,xs,k,sh',rfl,h0,h1,rfl⟩:=iX h;exact⟨rfl,fun ts=>by simp[exec,h0,h1]⟩
 |zZ=>first|(simp[exec]at h;done)|(simp[exec]at e;done)|(simp[exec];done)
 |oK c ok z=>first|(simp[exec]at h;done)|(simp[exec]at e;done)|(simp[exec];done)
 |Hk c=>first|(simp[exec]at h;done)|(simp[exec]at e;done)|(simp[exec];done)
 |aL g=>
   simp only[exec]at h⊢;split at h
   ·rename_i cI hp;simp only[Option.map_eq_some_iff]at h;obtain⟨rs,h1,rfl⟩:=h;exact⟨rfl,fun ts=>by simp[h1]⟩
   ·simp at h
 |d3 g=>
   simp only[exec]at h⊢;split at h
   ·rename_i cI hp;simp only[Option.map_eq_some_iff]at h;obtain⟨rs,h1,rfl⟩:=h;exact⟨rfl,fun ts=>by simp[h1]⟩
   ·simp at h
 |bG g own=>simp[AK.eN]at ht
 |jB g=>simp[AK.eN]at ht
 |et=>simp[AK.eN]at ht
 |d4=>simp[AK.eN]at ht
 |dH s ag=>
   obtain⟨p,x,rfl,rfl,hor⟩:=iV h;refine⟨rfl,fun ts=>?_⟩;rcases hor with⟨cs,rfl,hx⟩|⟨b,off,cs,rfl,hcs,hm,hx⟩
   ·simp[exec,hx]
   ·simp[exec,hcs,hm,hx]
 |eX s=>
   obtain⟨b,off,v,cs,rfl,hcs,h0,h1,h2,h3,h4,rfl⟩:=fZ h;refine⟨rfl,fun ts=>?_⟩;simp only[exec,hcs];rw[if_pos ⟨h0,h1,h2,h3,h4⟩]
 |rQ s=>first|(simp[exec]at h;done)|(simp[exec]at e;done)|(simp[exec];done)
 |mr s=>
   obtain⟨v,rfl,h1,h2,h3,rfl⟩:=j6 h;refine⟨rfl,fun ts=>?_⟩;simp only[exec];rw[if_pos ⟨h1,h2,h3⟩]
 |Hj s=>first|(simp[exec]at h;done)|(simp[exec]at e;done)|(simp[exec];done)
 |gG z=>
   obtain⟨rfl,rfl⟩:=ig h;exact⟨rfl,fun ts=>by simp[exec]⟩
 |iB s b ag z=>
   obtain⟨k,k',n,rfl,h1,h2,h3,h4,rfl⟩:=iW h;exact⟨rfl,fun ts=>by simp[exec,h1,h2,h3,h4]⟩
theorem JO{op:AK}{vals:List AV}{cells:Option (List AV)}{sh:Sh}{aa:aD}{r:Out}(ht:op.fK=false)(hk:op.key≠none)(h:exec orc op vals cells sh aa=some r):r.cells=none:=by
 cases op with
 |b_ k o s ag=>
   obtain⟨cs,x,rfl,rfl,hx,rfl⟩:=fC h;rfl
 |bB k o s=>simp[AK.fK]at ht
 |alloc k z=>simp[AK.fK]at ht
 |box k s=>simp[AK.fK]at ht
 |fR d s b z=>simp[AK.fK]at ht
 |_=>simp[AK.key]at hk
theorem qx{sz:Nat}{ag:Bool}{vals:List AV}{cells:Option (List AV)}{sh:Sh}{aa:aD}{r:Out}(h:exec orc (.dH sz ag) vals cells sh aa=some r):r.sh=sh:=by
 obtain⟨p,x,rfl,rfl,_⟩:=iV h;rfl
theorem qy{c:CK}{ok:Bool}{z:PV}{vals:List AV}{cells:Option (List AV)}{sh:Sh}{aa:aD}{r:Out}(h:exec orc (.oK c ok z) vals cells sh aa=some r):r.sh=sh:=by simp[exec]at h
theorem pk{vals:List AV}{cells:Option (List AV)}{sh:Sh}{aa:aD}{r:Out}(h:exec orc .d4 vals cells sh aa=some r):r.sh=sh:=by
 cases vals with
 |nil=>simp[exec]at h
 |cons f vals=>
   cases f with
   |fn g cap=>
     simp only[exec,Option.bind_eq_some_iff]at h;obtain⟨⟨v,sh',ts⟩,_,h2⟩:=h;simp only[Nk,Option.ite_none_right_eq_some,Option.some.injEq]at h2;rw[←h2.2]
   |_=>simp[exec]at h
theorem pn{o:dr}{E:Nat→Option AV}{M:Nat→Option (List AV)}{sh:Sh}{aa:aD}{r:Out}(ht:o.op.gn=false)(h:cB orc o E M sh aa=some r) :
   r.sh=sh∧∀sh',cB orc o E M sh' aa=some { r with sh:=sh' }:=by
 unfold cB at *;split at h
 ·simp at h
 ·simp at h;subst h;exact⟨rfl,fun _=>rfl⟩
 · split at h
   ·simp at h
   ·exact JM ht h
theorem uN{o:dr}{E:Nat→Option AV}{M:Nat→Option (List AV)}{sh:Sh}{aa:aD}{r:Out}(ht:o.op.qI=true)(h:cB orc o E M sh aa=some r):r.sh=sh:=by
 unfold cB at *;split at h
 ·simp at h
 ·simp at h;subst h;rfl
 · split at h
   ·simp at h
   · rename_i vals _;cases ho:o.op with
     |dH sz ag=>
       rw[ho]at h;have hl:=qx h;exact hl
     |oK c ok z=>
       rw[ho]at h;exact qy h
     |d4=>
       rw[ho]at h;exact pk h
     |_=>rw[ho]at ht;simp[AK.qI]at ht
theorem lO{o:dr}{E:Nat→Option AV}{M:Nat→Option (List AV)}{sh:Sh}{aa:aD}{r:Out}(ht:o.op.eN=false)(h:cB orc o E M sh aa=some r) :
   r.aa=aa∧∀ts,cB orc o E M sh ts=some { r with aa:=ts }:=by
 unfold cB at *;split at h
 ·simp at h
 ·simp at h;subst h;exact⟨rfl,fun _=>rfl⟩
 · split at h
   ·simp at h
   ·exact JN ht h
theorem lP{o:dr}{E:Nat→Option AV}{M:Nat→Option (List AV)}{sh:Sh}{aa:aD}{r:Out}(ht:o.op.fK=false)(hk:o.op.key≠none)(h:cB orc o E M sh aa=some r):r.cells=none:=by
 unfold cB at h;split at h
 ·simp at h
 ·simp at h;subst h;rfl
 · split at h
   ·simp at h
   ·exact JO ht hk h
structure iv(x y:St):Prop where
 env:∀t,look x.env t=look y.env t
 mem:∀t,look x.mem t=look y.mem t
 sh:x.sh=y.sh
 aa:x.aa=y.aa
theorem iv.refl(x:St):iv x x:=⟨fun _=>rfl,fun _=>rfl,rfl,rfl⟩
theorem iv.symm{x y:St}(h:iv x y):iv y x:=⟨fun t=>(h.env t).symm,fun t=>(h.mem t).symm,h.sh.symm,h.aa.symm⟩
theorem iv.trans{x y z:St}(h:iv x y)(k:iv y z):iv x z:=⟨fun t=>(h.env t).trans (k.env t),fun t=>(h.mem t).trans (k.mem t),h.sh.trans k.sh,h.aa.trans k.aa⟩
theorem dY(env:List (Nat×AV))(d:Option Nat)(v:AV)(t:Nat):look (eA env d v) t=if d=some t then some v else look env t:=by
 cases d with
 |none=>simp[eA]
 |some d=>
   simp only[eA,Option.some.injEq];by_cases h:d=t
   ·subst h;rw[if_pos rfl,bh]
   ·rw[if_neg h,bz _ _ _ _ h]
theorem j_(mem:List (Nat×List AV))(k:Option Nat)(c:Option (List AV))(t:Nat):look (eb mem k c) t=if k=some t then (match c with|some cs=>some cs|none=>look mem t) else look mem t:=by
 cases c with
 |none=>rw[eo];split<;>rfl
 |some cs=>
   cases k with
   |none=>simp[eb]
   |some k=>
     simp only[eb,Option.some.injEq];by_cases h:k=t
     ·subst h;rw[if_pos rfl,bh]
     ·rw[if_neg h,bz _ _ _ _ h]
theorem Bi{o:dr}{x y x':St}(h:iv x y)(he:dv orc o x=some x'):∃y',dv orc o y=some y'∧iv x' y':=by
 rw[dO,Option.map_eq_some_iff]at he;obtain⟨r,hr,rfl⟩:=he
 have:cB orc o (look y.env) (look y.mem) y.sh y.aa=some r:=by
   rw[←h.sh,←h.aa,←hr];exact (e9 (fun t _=>h.env t) (fun t _=>h.mem t)).symm
 refine⟨{ env:=eA y.env o.dst r.val,mem:=eb y.mem o.op.key r.cells,sh:=r.sh,aa:=r.aa },by rw[dO,this];rfl,⟨fun t=>?_,fun t=>?_,rfl,rfl⟩⟩
 ·simp only[dY,h.env]
 ·simp only[j_,h.mem]
end
end Go.Ab
namespace Go.Ab
section
variable {orc:dD}
theorem mH{x y:dr}(h:indep x y=true) :
   (∀d,x.dst=some d→d∉y.looks∧y.dst≠some d)∧(∀d,y.dst=some d→d∉x.looks)∧(x.op.gn=false∨y.op.gn=false∨(x.op.qI=true∧y.op.qI=true))∧(x.op.eN=false∨y.op.eN=false) ∧
   (∀k,x.op.key=some k→y.op.key=some k→x.op.fK=false∧y.op.fK=false):=by
 simp only[indep,Bool.and_eq_true,Bool.or_eq_true,Bool.not_eq_true',Bool.and_eq_false_iff]at h;obtain⟨⟨⟨⟨h1,h2⟩,h3⟩,h4⟩,h5⟩:=h;refine⟨fun d hd=>?_,fun d hd=>?_,h3.elim (fun h=>h.elim .inl fun h=>.inr (.inl h)) fun h=>.inr (.inr h),h4,fun k hx hy=>?_⟩
 ·rw[hd]at h1;simp at h1;exact h1
 ·rw[hd]at h2;simpa using h2
 ·rw[hx,hy]at h5;simp at h5;exact h5
theorem Hu{x y:dr}(h:indep x y=true){st st1 st2:St}(h1:dv orc x st=some st1)(h2:dv orc y st1=some st2) :
   ∃st1' st2',dv orc y st=some st1'∧dv orc x st1'=some st2'∧iv st2' st2:=by
 obtain⟨hd1,hd2,hS,hT,hK⟩:=mH h;rw[dO,Option.map_eq_some_iff]at h1 h2;obtain⟨r1,hr1,rfl⟩:=h1;obtain⟨r2,hr2,rfl⟩:=h2;simp only at hr2
 have hr2':cB orc y (look st.env) (look st.mem) r1.sh r1.aa=some r2:=by
   rw[←hr2];refine e9 (fun t ht=>?_) (fun k hk=>?_)
   ·rw[dY,if_neg];intro e;exact (hd1 t e).1 ht
   · rw[j_];split
     ·rename_i e;have:=lP (hK k e hk).1 (by rw[e];simp) hr1;rw[this]
     ·rfl
 obtain⟨sh',ts',hy,hsh,hts⟩:∃sh' ts',cB orc y (look st.env) (look st.mem) st.sh st.aa=some { r2 with sh:=sh',aa:=ts' } ∧
     ((x.op.gn=false∧sh'=r2.sh∧r1.sh=st.sh)∨(sh'=st.sh∧r2.sh=r1.sh)) ∧
     ((x.op.eN=false∧ts'=r2.aa∧r1.aa=st.aa)∨(y.op.eN=false∧ts'=st.aa∧r2.aa=r1.aa)):=by
   have stepS:∃sh',cB orc y (look st.env) (look st.mem) st.sh r1.aa=some { r2 with sh:=sh' }∧((x.op.gn=false∧sh'=r2.sh∧r1.sh=st.sh)∨(sh'=st.sh∧r2.sh=r1.sh)):=by
     rcases hS with hS|hS|⟨hS,hS'⟩
     ·have e:=(pn hS hr1).1;exact⟨r2.sh,by rw[←e];exact hr2',.inl ⟨hS,rfl,e⟩⟩
     ·obtain⟨e,f⟩:=pn hS hr2';exact⟨st.sh,f st.sh,.inr ⟨rfl,e⟩⟩
     ·have e:=uN hS hr1;have e2:=uN hS' hr2';exact⟨r2.sh,by rw[←e];exact hr2',.inr ⟨e2.trans e,e2⟩⟩
   obtain⟨sh',hy1,hsh⟩:=stepS;rcases hT with hT|hT
   ·have e:=(lO hT hr1).1;exact⟨sh',r2.aa,by rw[←e];exact hy1,hsh,.inl ⟨hT,rfl,e⟩⟩
   ·obtain⟨_,f⟩:=lO hT hy1;have e:=(lO hT hr2').1;exact⟨sh',st.aa,f st.aa,hsh,.inr ⟨hT,rfl,e⟩⟩
 refine⟨{ env:=eA st.env y.dst r2.val,mem:=eb st.mem y.op.key r2.cells,sh:=sh',aa:=ts' },?_⟩
 have hx:cB orc x (look (eA st.env y.dst r2.val)) (look (eb st.mem y.op.key r2.cells)) st.sh st.aa=some r1:=by
   rw[←hr1];refine e9 (fun t ht=>?_) (fun k hk=>?_)
   ·rw[dY,if_neg];intro e;exact hd2 t e ht
   · rw[j_];split
     ·rename_i e;have:=lP (hK k hk e).2 (by rw[e];simp) hr2';rw[this]
     ·rfl
 obtain⟨r1',hx',hval,hcells,hsh2,hts2⟩:∃r1',cB orc x (look (eA st.env y.dst r2.val)) (look (eb st.mem y.op.key r2.cells)) sh' ts'=some r1'∧r1'.val=r1.val∧r1'.cells=r1.cells∧r1'.sh=r2.sh∧r1'.aa=r2.aa:=by
   have stepS:∃r1',cB orc x (look (eA st.env y.dst r2.val)) (look (eb st.mem y.op.key r2.cells)) sh' st.aa=some r1'∧r1'.val=r1.val∧r1'.cells=r1.cells∧r1'.sh=r2.sh∧r1'.aa=r1.aa:=by
     rcases hsh with⟨hS,rfl,_⟩|⟨rfl,e⟩
     ·exact⟨_,(pn hS hx).2 r2.sh,rfl,rfl,rfl,rfl⟩
     ·exact⟨r1,hx,rfl,rfl,e.symm,rfl⟩
   obtain⟨ra,ha,a1,a2,a3,a4⟩:=stepS;rcases hts with⟨hT,rfl,_⟩|⟨_,rfl,e⟩
   ·exact⟨_,(lO hT ha).2 r2.aa,a1,a2,a3,rfl⟩
   ·exact⟨ra,ha,a1,a2,a3,a4.trans e.symm⟩
 refine⟨{ env:=eA (eA st.env y.dst r2.val) x.dst r1'.val,mem:=eb (eb st.mem y.op.key r2.cells) x.op.key r1'.cells,sh:=r1'.sh,aa:=r1'.aa },?_,?_,?_⟩
 ·rw[dO,hy];rfl
 ·rw[dO,hx'];rfl
 · refine⟨fun t=>?_,fun t=>?_,hsh2,hts2⟩
   · simp only[dY,hval];by_cases hx:x.dst=some t
     ·rw[if_pos hx,if_neg (hd1 t hx).2,if_pos hx]
     ·rw[if_neg hx,if_neg hx]
   · simp only[j_,hcells];by_cases hx:x.op.key=some t
     · rw[if_pos hx,if_pos hx];by_cases hy:y.op.key=some t
       ·rw[if_pos hy,if_pos hy];have e1:=lP (hK t hx hy).1 (by rw[hx];simp) hr1;have e2:=lP (hK t hx hy).2 (by rw[hy];simp) hr2';rw[e1,e2]
       ·rw[if_neg hy,if_neg hy]
     ·rw[if_neg hx,if_neg hx]
theorem su{o:dr}{a:Nat}(h:o.addr=some a):∃r,o.args=.t a::r∧((∃sz ag,o.op=.dH sz ag)∨∃sz,o.op=.eX sz):=by
 unfold dr.addr at h;split at h
 ·rename_i sz ag a' r h1 h2;cases h;exact⟨r,h2,.inl ⟨sz,ag,h1⟩⟩
 ·rename_i sz a' r h1 h2;cases h;exact⟨r,h2,.inr ⟨sz,h1⟩⟩
 ·cases h
theorem po{o:dr}{a:Nat}(h:o.addr=some a):a∈o.looks:=by
 obtain⟨r,h1,_⟩:=su h;simp[dr.looks,h1]
theorem uO{o:dr}{a:Nat}(h:o.addr=some a):o.op.key=none:=by
 obtain⟨r,_,h|h⟩:=su h
 ·obtain⟨_,_,h⟩:=h;rw[h];rfl
 ·obtain⟨_,h⟩:=h;rw[h];rfl
def Bj(b:Nat)(g:Sh→Sh):Prop:=g=id∨∃x,g=fun s=>s.set b x
theorem Bj.other{b b':Nat}{g:Sh→Sh}(h:Bj b g)(hb:b≠b')(s:Sh):(g s)[b']?=s[b']?:=by
 rcases h with rfl|⟨x,rfl⟩
 ·rfl
 ·exact List.getElem?_set_ne hb
theorem Bj.comm{b b':Nat}{g g':Sh→Sh}(h:Bj b g)(h':Bj b' g')(hb:b≠b')(s:Sh):g (g' s)=g' (g s):=by
 rcases h with rfl|⟨x,rfl⟩
 ·rfl
 · rcases h' with rfl|⟨y,rfl⟩
   ·rfl
   ·exact (List.set_comm _ _ hb.symm)
theorem nE{o:dr}{a:Nat}(h:o.addr=some a){E:Nat→Option AV}{M:Nat→Option (List AV)}{sh:Sh}{aa:aD}{r:Out}{b off:Nat}(hE:E a=some (.a_ b off))
   (hr:cB orc o E M sh aa=some r):r.cells=none∧r.aa=aa∧∃g,Bj b g∧r.sh=g sh∧∀sh',sh'[b]?=sh[b]?→cB orc o E M sh' aa=some { r with sh:=g sh' }:=by
 obtain⟨rest,h1,h2⟩:=su h;unfold cB at hr⊢;split at hr
 ·simp at hr
 ·simp at hr;subst hr;exact⟨rfl,rfl,id,.inl rfl,rfl,fun sh' _=>rfl⟩
 · rw[h1]at hr⊢;simp only[iI,D8,hE]at hr⊢;cases hv:iI E rest with
   |none=>rw[hv]at hr;simp at hr
   |some vs=>
     rw[hv]at hr;simp only at hr⊢;rcases h2 with⟨sz,ag,h2⟩|⟨sz,h2⟩
     · rw[h2]at hr⊢;obtain⟨p,x,hp,rfl,hor⟩:=iV hr;refine⟨rfl,rfl,id,.inl rfl,rfl,fun sh' hs=>?_⟩;cases vs with
       |cons _ _=>simp at hp
       |nil=>
         simp at hp;rcases hor with⟨cs,rfl,hx⟩|⟨b',off',cs,rfl,hcs,hm,hx⟩
         ·simp at hp
         ·simp at hp;obtain⟨rfl,rfl⟩:=hp;simp[exec,hs,hcs,hm,hx]
     ·rw[h2]at hr⊢;obtain⟨b',off',v,cs,hp,hcs,h0,h1',h2',h3,h4,rfl⟩:=fZ hr;simp at hp;obtain⟨⟨rfl,rfl⟩,rfl⟩:=hp;refine⟨rfl,rfl,fun s=>s.set b (some (aQ cs off (bY v))),.inr ⟨_,rfl⟩,rfl,fun sh' hs=>?_⟩;simp only[exec,hs,hcs];rw[if_pos ⟨h0,h1',h2',h3,h4⟩]
def Lt(F:Nat→Option AV)(x y:dr):Prop:=indep x y=true ∨
 ((∀d,x.dst=some d→d∉y.looks∧y.dst≠some d)∧(∀d,y.dst=some d→d∉x.looks)∧∃a b,x.addr=some a∧y.addr=some b∧apart (F a) (F b)=true)
theorem qS{x y:Option AV}(h:apart x y=true):∃b o b' o',x=some (.a_ b o)∧y=some (.a_ b' o')∧b≠b':=by
 unfold apart at h;split at h
 ·rename_i b o b' o';exact⟨b,o,b',o',rfl,rfl,by simpa using h⟩
 ·cases h
theorem D9{F:Nat→Option AV}{x y:dr}(h:Lt F x y){st st1 st2:St}(hx:∀a,x.addr=some a→look st.env a=F a)(hy:∀a,y.addr=some a→look st1.env a=F a)
   (h1:dv orc x st=some st1) (h2:dv orc y st1=some st2) :
   ∃st1' st2',dv orc y st=some st1'∧dv orc x st1'=some st2'∧iv st2' st2∧(∀a,y.addr=some a→look st.env a=F a)∧(∀a,x.addr=some a→look st1'.env a=F a):=by
 have hside:(∀d,x.dst=some d→d∉y.looks∧y.dst≠some d)∧(∀d,y.dst=some d→d∉x.looks):=by
   rcases h with h|h
   ·exact⟨(mH h).1,(mH h).2.1⟩
   ·exact⟨h.1,h.2.1⟩
 have hyst:∀a,y.addr=some a→look st.env a=F a:=by
   intro a ha;have h3:=hy a ha;rw[dO,Option.map_eq_some_iff]at h1;obtain⟨r1,_,rfl⟩:=h1;rw[←h3];simp only[dY];rw[if_neg];intro e;exact (hside.1 a e).1 (po ha)
 have hxst:∀st1',dv orc y st=some st1'→∀a,x.addr=some a→look st1'.env a=F a:=by
   intro st1' h3 a ha;rw[dO,Option.map_eq_some_iff]at h3;obtain⟨r1,_,rfl⟩:=h3;rw[←hx a ha];simp only[dY];rw[if_neg];intro e;exact hside.2 a e (po ha)
 rcases h with h|⟨hd1,hd2,a,b,ha,hb,hap⟩
 ·obtain⟨st1',st2',g1,g2,g3⟩:=Hu h h1 h2;exact⟨st1',st2',g1,g2,g3,hyst,hxst st1' g1⟩
 · obtain⟨ba,oa,bb,ob,fa,fb,hne⟩:=qS hap;have hE1:look st.env a=some (.a_ ba oa):=(hx a ha).trans fa;have hE2:look st.env b=some (.a_ bb ob):=(hyst b hb).trans fb;have h1':=h1;rw[dO,Option.map_eq_some_iff]at h1 h2;obtain⟨r1,hr1,rfl⟩:=h1;obtain⟨r2,hr2,rfl⟩:=h2;obtain⟨c1,t1,gx,tx,s1,k1⟩:=nE ha hE1 hr1;simp only at hr2
   have hr2':cB orc y (look st.env) (look st.mem) (gx st.sh) st.aa=some r2:=by
     rw[←hr2,s1,t1];refine e9 (fun t ht=>?_) (fun k hk=>?_)
     ·rw[dY,if_neg];intro e;exact (hd1 t e).1 ht
     ·rw[uO hb]at hk;cases hk
   obtain⟨c2,t2,gy,ty,s2,k2⟩:=nE hb hE2 hr2';have hy0:=k2 st.sh (tx.other hne st.sh).symm
   have hy1:dv orc y st=some { env:=eA st.env y.dst r2.val,mem:=eb st.mem y.op.key r2.cells,sh:=gy st.sh,aa:=r2.aa }:=by
     rw[dO,hy0];rfl
   have hx0:cB orc x (look (eA st.env y.dst r2.val)) (look (eb st.mem y.op.key r2.cells)) (gy st.sh) r2.aa=some { r1 with sh:=gx (gy st.sh) }:=by
     rw[←k1 (gy st.sh) (ty.other (Ne.symm hne) st.sh),t2];refine e9 (fun t ht=>?_) (fun k hk=>?_)
     ·rw[dY,if_neg];intro e;exact hd2 t e ht
     ·rw[uO ha]at hk;cases hk
   refine⟨_,{ env:=eA (eA st.env y.dst r2.val) x.dst r1.val,mem:=eb (eb st.mem y.op.key r2.cells) x.op.key r1.cells,sh:=gx (gy st.sh),aa:=r1.aa },hy1,?_,?_,hyst,hxst _ hy1⟩
   ·rw[dO,hx0];rfl
   · refine⟨fun t=>?_,fun t=>?_,?_,?_⟩
     · simp only[dY];by_cases hx:x.dst=some t
       ·rw[if_pos hx,if_neg (hd1 t hx).2,if_pos hx]
       ·rw[if_neg hx,if_neg hx]
     ·simp only[c1,c2,eo]
     ·simp only[s2];exact tx.comm ty hne st.sh
     ·simp only[t1,t2]
variable {ops:Array Oper} {as:List dr} {R:St→Prop} {F:Nat→Option AV}
def uP(orc:dD)(ops:Array Oper)(as:List dr)(F:Nat→Option AV)(R:St→Prop):Nat→Array Bool→St→Prop
 |0,listed,st=>Region.ready .any ops listed=[]∧R st
 |fuel+1,listed,st=>(Region.ready .any ops listed=[]→R st) ∧
   ∀i∈Region.ready .any ops listed,∃ao st',as[i]?=some ao∧(∀a,ao.addr=some a→look st.env a=F a)∧dv orc ao st=some st'∧uP orc ops as F R fuel (listed.setIfInBounds i true) st'
theorem qT(hR:∀x y,iv x y→R x→R y):∀{fuel:Nat} {listed:Array Bool} {x y:St},iv x y→uP orc ops as F R fuel listed x→uP orc ops as F R fuel listed y
 |0,_,_,_,hl,h=>⟨h.1,hR _ _ hl h.2⟩
 |fuel+1,_,_,_,hl,h=>⟨fun h0=>hR _ _ hl (h.1 h0),fun i hi=>by
     obtain⟨ao,st',h1,h6,h2,h3⟩:=h.2 i hi;obtain⟨y',h4,h5⟩:=Bi hl h2;exact⟨ao,y',h1,fun a ha=>(hl.env a).symm.trans (h6 a ha),h4,qT hR h5 h3⟩⟩
def Down(ops:Array Oper)(listed:Array Bool):Prop:=∀k o,ops[k]?=some o→listed.getD k false=true→∀e∈o.after,Region.binds .any e=true→listed.getD e.on false=true
theorem Down.step{listed:Array Bool}(h:Down ops listed){i:Nat}(hi:i∈Region.ready .any ops listed):Down ops (listed.setIfInBounds i true):=by
 intro k o ho hk e he hb;by_cases hik:i=k
 ·subst hik;obtain⟨_,o',ho',hall⟩:=mem_ready.1 hi;rw[ho]at ho';cases ho';exact getD_set_true (hall e he hb)
 ·rw[getD_set_ne false hik]at hk;exact getD_set_true (h k o ho hk e he hb)
theorem xm(hR:∀x y,iv x y→R x→R y){i:Nat}{ai:dr}(hai:as[i]?=some ai){waits:Nat→Bool}
   (hwait:∀(listed:Array Bool),Down ops listed→∀j∈Region.ready .any ops listed,waits j=true→listed.getD i false=true) :
   ∀(fuel:Nat) (listed:Array Bool) (st st1:St),Down ops listed →
     (∀j aj,as[j]?=some aj→j≠i→listed.getD j true=false→waits j=false→Lt F ai aj)→(∀a,ai.addr=some a→look st.env a=F a) →
     i∈Region.ready .any ops listed→dv orc ai st=some st1→uP orc ops as F R fuel (listed.setIfInBounds i true) st1→uP orc ops as F R (fuel+1) listed st:=by
 intro fuel;induction fuel with
 |zero=>
   intro listed st st1 hdown hfree haddr hi hev H;refine⟨fun h=>(by rw[h]at hi;cases hi),fun j hj=>?_⟩;by_cases hji:j=i
   ·subst hji;exact⟨ai,st1,hai,haddr,hev,H⟩
   ·have:=ready_mono hj hji;rw[H.1]at this;cases this
 |succ fuel ih=>
   intro listed st st1 hdown hfree haddr hi hev H;refine⟨fun h=>(by rw[h]at hi;cases hi),fun j hj=>?_⟩;by_cases hji:j=i
   ·subst hji;exact⟨ai,st1,hai,haddr,hev,H⟩
   · obtain⟨aj,st2,h1,h6,h2,h3⟩:=H.2 j (ready_mono hj hji);obtain⟨hun,_⟩:=mem_ready.1 hj
     have hw:waits j=false:=by
       cases hw:waits j with
       |false=>rfl
       |true=>
         have h1:=hwait listed hdown j hj hw;have h0:=(mem_ready.1 hi).1;rcases Nat.lt_or_ge i listed.size with h'|h'
         ·simp[h']at h0 h1;rw[h0]at h1;cases h1
         ·simp[Array.getElem?_eq_none h']at h1
     obtain⟨st1',st2',g1,g2,g3,g4,g5⟩:=D9 (hfree j aj h1 hji hun hw) haddr h6 hev h2;refine⟨aj,st1',h1,g4,g1,ih (listed.setIfInBounds j true) st1' st2' (hdown.step hj) ?_ g5 (ready_mono hi (Ne.symm hji)) g2 ?_⟩
     · intro k ak hk hki hun' hwk;refine hfree k ak hk hki ?_ hwk;by_cases hjk:j=k
       ·subst hjk;exact hun
       ·rw[getD_set_ne true hjk]at hun';exact hun'
     ·rw[Array.setIfInBounds_comm _ _ hji];exact qT hR g3.symm h3
theorem lQ(acc:List Nat)(i:Nat):∀(l:List Edge) (s:Nat),
   (l.foldl (fun s e=>if Region.binds .any e then s ||| 2 ^ e.on ||| acc.getD e.on 0 else s) s).testBit i=true →
   s.testBit i=true∨∃e∈l,Region.binds .any e=true∧(e.on=i∨(acc.getD e.on 0).testBit i=true)
 |[],s,h=>.inl h
 |e::l,s,h=>by
   simp only[List.foldl_cons]at h;rcases lQ acc i l _ h with h1|⟨e',h2,h3⟩
   · split at h1
     · rename_i hb;rw[Nat.testBit_or,Nat.testBit_or,Bool.or_eq_true,Bool.or_eq_true]at h1;rcases h1 with (h1|h1)|h1
       ·exact .inl h1
       ·refine .inr ⟨e,by simp,hb,.inl ?_⟩;rw[Nat.testBit_two_pow]at h1;simpa using h1
       ·exact .inr ⟨e,by simp,hb,.inr h1⟩
     ·exact .inl h1
   ·exact .inr ⟨e',by simp[h2],h3⟩
theorem pq:∀(l:List Oper) (acc:List Nat),(jE l acc).length=acc.length+l.length∧(∀j,j<acc.length→(jE l acc).getD j 0=acc.getD j 0) ∧
   ∀k o,l[k]?=some o→∀i,((jE l acc).getD (acc.length+k) 0).testBit i=true→∃e∈o.after.toList,Region.binds .any e=true∧(e.on=i∨((jE l acc).getD e.on 0).testBit i=true)
 |[],acc=>⟨by simp[jE],fun j _=>rfl,fun k o h=>by simp at h⟩
 |o::l,acc=>by
   simp only[jE];obtain⟨h1,h2,h3⟩:=pq l (acc++[o.after.toList.foldl (fun s e=>if Region.binds .any e then s ||| 2 ^ e.on ||| acc.getD e.on 0 else s) 0]);refine⟨by rw[h1];simp;omega,fun j hj=>?_,fun k o' ho i hi=>?_⟩
   ·rw[h2 j (by simp;omega)];simp[List.getD,List.getElem?_append_left hj]
   · cases k with
     |zero=>
       simp at ho;subst ho;rw[Nat.add_zero,h2 acc.length (by simp)]at hi
       have:(acc++[o.after.toList.foldl (fun s e=>if Region.binds .any e then s ||| 2 ^ e.on ||| acc.getD e.on 0 else s) 0]).getD acc.length 0 =
           o.after.toList.foldl (fun s e=>if Region.binds .any e then s ||| 2 ^ e.on ||| acc.getD e.on 0 else s) 0:=by
         simp[List.getD]
       rw[this]at hi;rcases lQ acc i _ _ hi with h|⟨e,h4,h5,h6⟩
       ·simp at h
       · refine⟨e,h4,h5,Hm h6 fun h=>?_⟩
         have hlt:e.on<acc.length:=by
           rcases Nat.lt_or_ge e.on acc.length with h'|h'
           ·exact h'
           ·simp[List.getD,List.getElem?_eq_none h']at h
         rw[h2 e.on (by simp;omega)];simpa[List.getD,List.getElem?_append_left hlt] using h
     |succ k=>
       have:=h3 k o' (by simpa using ho) i (by simpa[Nat.add_assoc,Nat.add_comm 1 k] using hi);exact this
theorem gS:∀(l:List Oper) (i:Nat),ft i l=true→∀k o,l[k]?=some o→∀e∈o.after,Region.binds .any e=true→e.on<i+k
 |[],_,_,k,o,h,_,_,_=>by simp at h
 |o::l,i,hd,k,o',ho,e,he,hb=>by
   simp only[ft,Bool.and_eq_true,List.all_eq_true]at hd;cases k with
   |zero=>
     simp at ho;subst ho;have:=hd.1 e (by simpa using he);simpa[hb] using this
   |succ k=>
     have:=gS l (i+1) hd.2 k o' (by simpa using ho) e he hb;omega
theorem sv{l:List Oper}(hl:ops.toList=l)(hd:ft 0 l=true){listed:Array Bool}(hdown:Down ops listed)(i:Nat):∀(j:Nat) (o:Oper),ops[j]?=some o →
   (∀e∈o.after,Region.binds .any e=true→listed.getD e.on false=true)→((jE l []).getD j 0).testBit i=true→listed.getD i false=true:=by
 intro j;induction j using Nat.strongRecOn with
 |_ j ih=>
   intro o ho hall hbit;have hlo:l[j]?=some o:=by rw[←hl];simpa using ho
   obtain⟨e,h1,h2,h3⟩:=(pq l []).2.2 j o hlo i (by simpa using hbit);have he:e∈o.after:=by simpa using h1
   rcases h3 with h3|h3
   ·rw[←h3];exact hall e he h2
   ·have hlt:=gS l 0 hd j o hlo e he h2;have hlt':e.on<j:=(by omega);have hjs:j<ops.size:=(Array.getElem?_eq_some_iff.1 ho).1;have hoo:ops[e.on]?=some (ops[e.on]'(by omega)):=Array.getElem?_eq_getElem (by omega);exact ih e.on hlt' _ hoo (fun e' he' hb'=>hdown e.on _ hoo (hall e he h2) e' he' hb') h3
theorem lR{ds:List (Nat×Nat)}{ms:List Nat}{i:Nat}{x:dr}:∀(l:List dr) (j:Nat),oj ds ms i x j l=true→∀k y,l[k]?=some y→(ms.getD (j+k) 0).testBit i=true∨(indep x y || t4 ds x y)=true
 |[],_,_,k,y,h=>by simp at h
 |z::l,j,hp,k,y,hy=>by
   simp only[oj,Bool.and_eq_true,Bool.or_eq_true]at hp;cases k with
   |zero=>simp at hy;subst hy;simpa[or_assoc] using hp.1
   |succ k=>
     have:=lR l (j+1) hp.2 k y (by simpa using hy)
     rwa [show j+1+k=j+(k+1) from by omega]at this
theorem kB{ds:List (Nat×Nat)}{ms:List Nat}:∀(l:List dr) (i:Nat),jF ds ms i l=true→∀k m x y,k<m→l[k]?=some x→l[m]?=some y→(ms.getD (i+m) 0).testBit (i+k)=true∨(indep x y || t4 ds x y)=true
 |[],_,_,k,m,x,y,_,h,_=>by simp at h
 |z::l,i,hp,k,m,x,y,hkm,hx,hy=>by
   simp only[jF,Bool.and_eq_true]at hp;cases m with
   |zero=>omega
   |succ m=>
     cases k with
     |zero=>
       simp at hx;subst hx;have:=lR l (i+1) hp.1 m y (by simpa using hy)
       rwa [show i+1+m=i+(m+1) from by omega]at this
     |succ k=>
       have:=kB l (i+1) hp.2 k m x y (by omega) (by simpa using hx) (by simpa using hy)
       rwa [show i+1+m=i+(m+1) from by omega,show i+1+k=i+(k+1) from by omega]at this
theorem nX{n:Nat}(hd:ft 0 ops.toList=true){k:Nat}{o:Oper}{listed:Array Bool}(hs:listed.size=n)(hl:∀j,j<n→listed[j]?=some (decide (j<k)))(hn:ops.size=n)(ho:ops[k]?=some o) :
   k∈Region.ready .any ops listed:=by
 have hk:k<ops.size:=(Array.getElem?_eq_some_iff.1 ho).1;rw[mem_ready];refine⟨by simp[hl k (by omega)],o,ho,fun e he hb=>?_⟩;have:=gS _ 0 hd k o (by simpa using ho) e he hb;simp[hl e.on (by omega)];omega
theorem Bk{ds:List (Nat×Nat)}{x y:dr}(h:t4 ds x y=true) :
   (∀d,x.dst=some d→d∉y.looks∧y.dst≠some d)∧(∀d,y.dst=some d→d∉x.looks)∧∃a b,x.addr=some a∧y.addr=some b∧(a,b)∈ds:=by
 simp only[t4,Bool.and_eq_true]at h;obtain⟨⟨h1,h2⟩,h3⟩:=h;refine⟨fun d hd=>?_,fun d hd=>?_,?_⟩
 ·rw[hd]at h1;simp at h1;exact h1
 ·rw[hd]at h2;simpa using h2
 · split at h3
   ·rename_i a b ha hb;exact⟨a,b,ha,hb,by simpa using h3⟩
   ·cases h3
theorem pw{env:List (Nat×AV)}:∀{ds:List (Nat×Nat)},gm env ds=true→∀a b,(a,b)∈ds→apart (look env a) (look env b)=true
 |[],_,a,b,h=>by simp at h
 |(a',b')::r,h,a,b,hm=>by
   simp only[gm,Bool.and_eq_true]at h;simp only[List.mem_cons,Prod.mk.injEq]at hm;rcases hm with⟨rfl,rfl⟩|hm
   ·exact h.1
   ·exact pw h.2 a b hm
theorem py{t:Nat}:∀{l:List dr} {st st':St},l.all (fun o=>o.dst != some t)=true→a9 orc l st=some st'→look st'.env t=look st.env t
 |[],st,st',_,h=>by simp[a9]at h;subst h;rfl
 |o::l,st,st',hl,h=>by
   simp only[List.all_cons,Bool.and_eq_true,bne_iff_ne,ne_eq]at hl;simp only[a9]at h;split at h
   ·simp at h
   ·rename_i st1 h1;rw[py (by simpa using hl.2) h];rw[dO,Option.map_eq_some_iff]at h1;obtain⟨r1,_,rfl⟩:=h1;simp only[dY];rw[if_neg hl.1]
theorem uQ{ds:List (Nat×Nat)}(hR:∀x y,iv x y→R x→R y)(hd:ft 0 ops.toList=true)(hp:jF ds (jE ops.toList []) 0 as=true)(hlen:as.length=ops.size)
   (hF:∀a b,(a,b)∈ds→apart (F a) (F b)=true) :
   ∀(l:List dr) (k:Nat) (listed:Array Bool) (st st':St),(∀j,l[j]?=as[k+j]?)→l.length+k=ops.size→listed.size=ops.size→(∀j,j<ops.size→listed[j]?=some (decide (j<k)))→Down ops listed →
     rS l=true→(∀a,F a=look st'.env a)→a9 orc l st=some st'→R st'→uP orc ops as F R l.length listed st
 |[],k,listed,st,st',_,hk,hs,hl,_,_,_,hev,hr=>by
   simp[a9]at hev;subst hev;refine⟨?_,hr⟩;rw[List.eq_nil_iff_forall_not_mem];intro i hi;obtain⟨h1,o,ho,_⟩:=mem_ready.1 hi;have hi':i<ops.size:=(Array.getElem?_eq_some_iff.1 ho).1;simp at hk;simp[hl i hi']at h1;omega
 |x::l,k,listed,st,st',hlk,hk,hs,hl,hdown,hlt,hFe,hev,hr=>by
   have hev0:=hev;simp only[rS,Bool.and_eq_true]at hlt;simp only[a9]at hev;split at hev
   ·simp at hev
   · rename_i st1 hst1;simp only[List.length_cons]at hk⊢;have hx:as[k]?=some x:=by simpa using (hlk 0).symm
     have hks:k<ops.size:=(by omega);have ho:ops[k]?=some ops[k]:=Array.getElem?_eq_getElem hks;have hready:=nX hd hs hl rfl ho;refine xm hR hx (waits:=fun j=>((jE ops.toList []).getD j 0).testBit k) ?_ l.length listed st st1 hdown ?_ (fun a ha=>?_) hready hst1 ?_
     ·intro listed' hdown' j hj hw;obtain⟨_,o,hoj,hall⟩:=mem_ready.1 hj;exact sv rfl hd hdown' k j o hoj hall hw
     · intro j aj hj hjk hun hw;have hj':j<ops.size:=by rw[←hlen];exact (List.getElem?_eq_some_iff.1 hj).1
       have hkj:k<j:=by
         simp[hl j hj']at hun;omega
       have:=kB as 0 hp k j x aj hkj hx hj;simp only[Nat.zero_add]at this;rcases this with h|h
       ·rw[h]at hw;simp at hw
       · rcases Bool.or_eq_true _ _ |>.mp h with h|h
         ·exact .inl h
         ·obtain⟨f1,f2,a,b,f3,f4,f5⟩:=Bk h;exact .inr ⟨f1,f2,a,b,f3,f4,hF a b f5⟩
     ·have h1:=hlt.1;rw[ha]at h1;rw[hFe a];exact (py h1 hev0).symm
     · refine uQ hR hd hp hlen hF l (k+1) (listed.setIfInBounds k true) st1 st' (fun j=>?_) (by omega) (by simp[hs]) (fun j hj=>?_) (hdown.step hready) hlt.2 hFe hev hr
       ·have:=hlk (j+1);rw[show k+(j+1)=k+1+j from by omega]at this;simpa using this
       · by_cases hkj:k=j
         ·subst hkj;simp[hs,hks]
         ·rw[Array.getElem?_setIfInBounds_ne hkj,hl j hj];congr 1;simp;omega
end
section
variable {n0:Nat} {P:Program} {ns:Names}
theorem fl.JP{n0 N:Nat}{G:Gh}{x y:St}{a:Act}{w:World}(h:fl (num ns) n0 N G x a w)(hl:iv x y):fl (num ns) n0 N G y a w:=by
 refine⟨⟨h.env.size,fun t v ht=>h.env.env t v (by rw[hl.env];exact ht)⟩,?_,h.marks⟩;have hi:=h.inv;rw[hl.sh,hl.aa]at hi
 exact { hi with
   cD:=fun d cells hd=>hi.cD d cells (by rw[hl.mem];exact hd)
   e7:=fun d b hd=>by rw[←hl.mem];exact hi.e7 d b hd }
theorem fl.drew{n0 N:Nat}{G:Gh}{x:St}{a:Act}{w:World}(h:fl (num ns) n0 N G x a w):fl (num ns) n0 N G x a w.drew:=⟨h.env,h.inv.drew,h.marks.na (bw.drew G w) rfl⟩
end
end Go.Ab
namespace Go.Ab
section
variable {n0:Nat} {P:Program} {ns:Names} {ro:Option Nat} {n:Nat}
def qn(ro:Option Nat):Fence:={ Fence.wide with round:=ro }
theorem Bl{f:FuncId}{args:Array Value}{w:World}{R:Ending→World→Prop}(h:Calls P f args w R):CallsIn (qn ro) n P f args w R:=by
 have h0:=callsIn_wide (n:=n).2 h;cases ro with
 |none=>exact h0
 |some l=>exact h0.inRound l
theorem D'{row:String}{args:Array Value}{w:World}{R:Value→World→Prop}(h:Rows P row args w R):RowsIn (qn ro) n P row args w R:=by
 intro c cs _;obtain⟨v,w',r,s⟩:=h c cs;have h0:=stepsIn_wide.2 s;exact⟨v,w',r,h0⟩
theorem ou{o:Oper}(hd:∀c,o.op≠.defer c){a:Act}{w:World}{next:Act→World→Prop}{Q:Exit→Act→World→Prop}
   (h:o.wp P a w next (fun _ _ _=>False)):o.wpIn (qn ro) n P a w next Q:=by
 refine⟨fun _ _=>trivial,?_⟩;rw[Oper.semAt_eq _ _ _ hd];unfold Oper.wp at h;generalize (execOp a.eval o).run P w=r at h⊢;cases r with
 |ok x w'=>
   cases x<;>simp only[Oper.upon,Oper.uponIn]at h⊢<;>try exact h
   · refine⟨fun e=>by simp[qn,Fence.wide]at e,Bl (h.mono ?_)⟩;intro e w'' he;cases e with
     |returned v=>exact he
     |panicked c=>exact he.elim
     |outgrown=>obtain⟨_,_,hf⟩:=he;exact hf.elim
   ·exact⟨fun e=>by simp[qn,Fence.wide]at e,D' h⟩
 |halt x w'=>cases x<;>simp only[Oper.upon,Oper.uponIn]at h⊢<;>exact h.elim
theorem sw{A:iy}{N:Nat}{ops:Array Oper}{o:Oper}{ao:dr}(hc:ct P ns A N ops o=some ao):∀c,o.op≠.defer c:=by
 intro c e;obtain⟨args,h1,_⟩:=jd hc;rw[e]at h1;simp[br]at h1
theorem sy{G:Gh}{w:World}(hB:d5 P ns){orc:dD}(horc:eQ P ns orc){A:iy}{N:Nat}{ops:Array Oper}{o:Oper}{ao:dr}(hc:ct P ns A N ops o=some ao)
   {st st':St} {a:Act} (hs:fl (num ns) n0 N G st a w) (hev:dv orc ao st=some st') {next:Act→World→Prop} {Q:Exit→Act→World→Prop}
   (hn:∀G' v w',fl (num ns) n0 N G' st' (a.put o.dst v) w'→bw G w G' w'→next (a.put o.dst v) w') :
   if Region.wanted o (yielded ops a.tmps) then o.wpIn (qn ro) n P a w next Q else (∀f,o.about P w a.eval=some f→(qn ro).fn f)∧next (a.put o.dst undef) w:=by
 rcases xl (Q:=fun _ _ _=>False) hB horc hc hs hev hn with⟨h1,h2⟩|⟨h1,h2⟩
 ·rw[if_pos h1];exact ou (sw hc) h2
 ·rw[h1,if_neg (by simp)];exact⟨fun _ _=>trivial,h2⟩
theorem uR(hB:d5 P ns){orc:dD}(horc:eQ P ns orc){A:iy}{N:Nat}{ops:Array Oper}{Q:Exit→Act→World→Prop}:∀{l:List Oper} {as:List dr} {st st':St} {G:Gh} {a:Act} {w:World},
   bP (ct P ns A N ops) l=some as→fl (num ns) n0 N G st a w→a9 orc as st=some st' →
   (∀G' a' w',fl (num ns) n0 N G' st' a' w'→bw G w G' w'→Q .normal a' w')→wpListIn (qn ro) n P ops Q l a w
 |[],as,st,st',G,a,w,hc,hs,hev,hq=>by
   simp[bP]at hc;subst hc;simp[a9]at hev;subst hev;exact hq G a w hs (bw.refl G w)
 |o::l,as,st,st',G,a,w,hc,hs,hev,hq=>by
   simp only[bP]at hc;split at hc
   · rename_i ao aos h1 h2;simp at hc;subst hc;simp only[a9]at hev;split at hev
     ·simp at hev
     ·rename_i st1 hst1;unfold wpListIn;exact sy hB horc h1 hs hst1 (fun G' a' w' hs' he=>uR hB horc h2 hs' hev (fun G'' a'' w'' hs'' he'=>hq G'' a'' w'' hs'' (he.trans he')))
   ·simp at hc
theorem Aa(hB:d5 P ns){orc:dD}(horc:eQ P ns orc){A:iy}{N:Nat}{ops:Array Oper}{as:List dr}(hc:bP (ct P ns A N ops) ops.toList=some as){F:Nat→Option AV}{R:St→Prop}{Q:Exit→Act→World→Prop} :
   ∀{fuel:Nat} {listed:Array Bool} {st:St} {G:Gh} {a:Act} {w:World},fl (num ns) n0 N G st a w→uP orc ops as F R fuel listed st →
     (∀st' G' a' w',R st'→fl (num ns) n0 N G' st' a' w'→bw G w G' w'→Q .normal a' w')→wpAnyIn (qn ro) n P .any ops Q fuel listed a w
 |0,_,st,G,a,w,hs,h,hq=>⟨h.1,hq st G a w h.2 hs (bw.refl G w)⟩
 |fuel+1,listed,st,G,a,w,hs,h,hq=>by
   refine⟨fun h0=>hq st G a w (h.1 h0) hs (bw.refl G w),fun i hi=>?_⟩;obtain⟨ao,st',h1,_,h2,h3⟩:=h.2 i hi;obtain⟨_,o,ho,_⟩:=mem_ready.1 hi
   have hco:ct P ns A N ops o=some ao:=by
     obtain⟨y,g1,g2⟩:=ub hc (i:=i) (x:=o) (by simpa using ho);rw[h1]at g1;cases g1;exact g2
   unfold wpOpIn;simp only[ho];exact sy hB horc hco hs h2 (fun G' a' w' hs' he=>Aa hB horc hc hs' h3 (fun st'' G'' a'' w'' hr hs'' he'=>hq st'' G'' a'' w'' hr hs'' (he.trans he')))
theorem qU(hm:P.follows .mixedOrders=true)(hB:d5 P ns){orc:dD}(horc:eQ P ns orc){A:iy}{N id:Nat}{ops:Array Oper}{draw:Bool}{as:List dr}
   (hc:bP (ct P ns A N ops) ops.toList=some as) {ds:List (Nat×Nat)} (hd:draw=true→rT ds ops.toList as=true) {st st':St} {G:Gh} {a:Act} {w:World} (hs:fl (num ns) n0 N G st a w) (hev:a9 orc as st=some st') (hfar:gm st'.env ds=true)
   {Q:Exit→Act→World→Prop} (hq:∀G' a' w',fl (num ns) n0 N G' st' a' w'→bw G w G' w'→Q .normal a' w'):(Code.region id ops draw).wpIn (qn ro) n P Q a w:=by
 cases draw with
 |false=>exact wpIn_region_list (uR hB horc hc hs hev hq)
 |true=>
   have hd':=hd rfl;simp only[rT,Bool.and_eq_true]at hd';have hlen:as.length=ops.size:=by have:=eO hc;simpa using this
   refine wpIn_region_any hm ?_
   have hany:uP orc ops as (look st'.env) (fun s=>iv s st') ops.size (Array.replicate ops.size false) st:=by
     have:=uQ (orc:=orc) (ops:=ops) (as:=as) (F:=look st'.env) (R:=fun s=>iv s st') (fun x y hl hr=>hl.symm.trans hr) hd'.1 hd'.2.1 hlen (fun a b=>pw hfar a b) as 0 (Array.replicate ops.size false) st st' (fun j=>by simp) (by simp[hlen]) (by simp)
       (fun j hj=>by simp[hj]) (fun k o ho hk=>by
         exfalso;have hk':k<ops.size:=(Array.getElem?_eq_some_iff.1 ho).1;simp[hk']at hk) hd'.2.2 (fun _=>rfl) hev (iv.refl _)
     rwa [hlen]at this
   exact Aa hB horc hc hs.drew hany fun s G' a' w' hl hs' he=>hq G' a' w' (hs'.JP hl) ((bw.drew G w).trans he)
end
end Go.Ab
namespace Go.Ab
def uS{α:Type}(f:Nat→Option α):Prop:=∀k k' r,k≤k'→f k=some r→f k'=some r
open Classical in
noncomputable def DS{α:Type}(f:Nat→Option α):Option α:=if h:∃r k,f k=some r then some h.choose else none
theorem pz{α:Type}{f:Nat→Option α}(hf:uS f){k:Nat}{r:α}(h:f k=some r):DS f=some r:=by
 have hex:∃r k,f k=some r:=⟨r,k,h⟩;unfold DS;rw[dif_pos hex];obtain⟨k',h'⟩:=hex.choose_spec;have h1:=hf _ (max k k') _ (Nat.le_max_right _ _) h';have h2:=hf _ (max k k') _ (Nat.le_max_left _ _) h;rw[h1]at h2;exact h2
theorem e_{α:Type}{f:Nat→Option α}{r:α}(h:DS f=some r):∃k,f k=some r:=by
 unfold DS at h;split at h
 ·rename_i hex;obtain⟨k,hk⟩:=hex.choose_spec;cases h;exact⟨k,hk⟩
 ·simp at h
theorem pA{α:Type}{f:Nat→Option α}(h:∀k,f k=none):DS f=none:=by
 cases hl:DS f with
 |none=>rfl
 |some r=>obtain⟨k,hk⟩:=e_ hl;rw[h k]at hk;simp at hk
theorem ka{α:Type}{f:Nat→Option α}(hf:uS f){o:Option α}(h1:∀k r,f k=some r→o=some r)(h2:∀r,o=some r→∃k,f k=some r):DS f=o:=by
 cases ho:o with
 |none=>exact pA fun k=>by cases hk:f k with|none=>rfl|some r=>rw[h1 k r hk]at ho;simp at ho
 |some r=>obtain⟨k,hk⟩:=h2 r ho;exact pz hf hk
structure dD.le(a b:dD):Prop where
 p:∀g x r,a.p g x=some r→b.p g x=some r
 i:∀g x s t r,a.i g x s t=some r→b.i g x s t=some r
theorem dD.le_refl(a:dD):a.le a:=⟨fun _ _ _ h=>h,fun _ _ _ _ _ h=>h⟩
theorem iw{a b:dD}(h:a.le b){g:Nat}{own:List Nat}{vals:List AV}{sh:Sh}{aa:aD}{r:AV×Sh×aD}(e:dt a g own vals sh aa=some r):dt b g own vals sh aa=some r:=by
 unfold dt at *;split at e
 ·rename_i hp;rw[if_pos hp];simp only[Option.map_eq_some_iff]at e⊢;obtain⟨x,h1,h2⟩:=e;exact⟨x,h.i _ _ _ _ _ h1,h2⟩
 ·simp at e
theorem Bm{a b:dD}(h:a.le b){op:AK}{vals:List AV}{cells:Option (List AV)}{sh:Sh}{aa:aD}{r:Out}(e:exec a op vals cells sh aa=some r):exec b op vals cells sh aa=some r:=by
 cases op with
 |aL g=>
   simp only[exec]at e⊢;split at e
   ·simp only[Option.map_eq_some_iff]at e⊢;obtain⟨x,h1,h2⟩:=e;exact⟨x,h.p _ _ _ h1,h2⟩
   ·simp at e
 |d3 g=>
   simp only[exec]at e⊢;split at e
   ·simp only[Option.map_eq_some_iff]at e⊢;obtain⟨x,h1,h2⟩:=e;exact⟨x,h.p _ _ _ h1,h2⟩
   ·simp at e
 |bG g own=>
   simp only[exec,Option.map_eq_some_iff]at e⊢;obtain⟨x,h1,h2⟩:=e;exact⟨x,iw h h1,h2⟩
 |jB g=>
   simp only[exec]at e⊢;split at e
   · split at e
     ·rename_i rs ts h1;rw[h.i _ _ _ _ _ h1];exact e
     ·simp at e
   ·simp at e
 |d4=>
   cases vals with
   |nil=>simp[exec]at e
   |cons f vals=>
     cases f with
     |fn g cap=>
       simp only[exec,Option.bind_eq_some_iff]at e⊢;obtain⟨x,h1,h2⟩:=e;exact⟨x,iw h h1,h2⟩
     |_=>simp[exec]at e
 |et=>
   cases vals with
   |nil=>simp[exec]at e
   |cons f vals=>
     cases f with
     |fn g cap=>
       simp only[exec,Option.map_eq_some_iff]at e⊢;obtain⟨x,h1,h2⟩:=e;exact⟨x,iw h h1,h2⟩
     |_=>simp[exec]at e
 |_=>rw[←e];unfold exec;split<;>first|rfl|(rename_i heq;cases heq;done)|(simp at *;done)
theorem qV{a b:dD}(h:a.le b){o:dr}{st r:St}(e:dv a o st=some r):dv b o st=some r:=by
 unfold dv at *;cases hw:ek st.env o.guard with
 |none=>rw[hw]at e;simp at e
 |some t=>
   cases t with
   |false=>rw[hw]at e;exact e
   |true=>
     rw[hw]at e;dsimp only at e⊢;cases hv:dB st.env o.args with
     |none=>rw[hv]at e;simp at e
     |some vals=>
       rw[hv]at e;dsimp only at e⊢;cases ho:exec a o.op vals (o.op.key.bind (look st.mem)) st.sh st.aa with
       |none=>rw[ho]at e;simp at e
       |some out=>
         rw[ho]at e;rw[Bm h ho];exact e
theorem kS{a b:dD}(h:a.le b):∀{l:List dr} {st r:St},a9 a l st=some r→a9 b l st=some r
 |[],_,_,e=>e
 |o::l,st,r,e=>by
   simp only[a9]at e⊢;split at e
   ·simp at e
   ·rename_i st' ho;rw[qV h ho];exact kS h e
theorem gT{f f':St→Option (aU×St)}{pre:St→St}(h:∀s r,f s=some r→f' s=some r):∀{n n':Nat} {st:St} {r:aU×St},n≤n'→eg f pre n st=some r→eg f' pre n' st=some r
 |0,_,_,_,_,e=>by simp[eg]at e
 |n+1,0,_,_,hn,_=>by omega
 |n+1,n'+1,st,r,hn,e=>by
   simp only[eg]at e⊢;cases hf:f (pre st) with
   |none=>rw[hf]at e;simp at e
   |some q=>
     rw[h _ _ hf];rw[hf]at e;obtain⟨x,s⟩:=q;cases x with
     |normal=>exact gT h (by omega) e
     |ret=>exact e
     |exit id=>exact e
theorem kT{f f':St→Option (aU×St)}(h:∀s r,f s=some r→f' s=some r){live:List Nat}{pi px sz:Nat}{ag:Bool}{env:List (Nat×AV)}:∀{l:List (PV×Nat)} {st:St} {r:aU×St},
   m9 f live pi px sz ag env l st=some r→m9 f' live pi px sz ag env l st=some r
 |[],_,_,e=>e
 |(el,i)::l,st,r,e=>by
   simp only[m9]at e⊢;cases hv:JE sz ag el with
   |none=>rw[hv]at e;simp at e
   |some v=>
     rw[hv]at e;simp only at e⊢;cases hf:f (norm (restrict live { st with env:=cJ (cJ env pi (.pv (.int .i64 i))) px v })) with
     |none=>rw[hf]at e;simp at e
     |some q=>
       rw[h _ _ hf];rw[hf]at e;obtain⟨x,s⟩:=q;cases x with
       |normal=>exact kT h e
       |ret=>exact e
       |exit id=>exact e
theorem qz{f f':St→Option (aU×St)}(h:∀s r,f s=some r→f' s=some r){v:Option AV}{gb pi px sz:Nat}{ag:Bool}{live:List Nat}{st:St}{r:aU×St}
   (e:jD f v gb pi px sz ag live st=some r):jD f' v gb pi px sz ag live st=some r:=by
 unfold jD at e⊢;split at e
 · split at e
   · rename_i hg;rw[if_pos hg];split at e
     · split at e
       ·rename_i hl;rw[if_pos hl];exact kT h e
       ·simp at e
     ·simp at e
   ·simp at e
 ·simp at e
theorem lS{f g f' g':St→Option (aU×St)}(h:∀s r,f s=some r→f' s=some r)(k:∀s r,g s=some r→g' s=some r):∀s r,andThen f g s=some r→andThen f' g' s=some r:=by
 intro s r e;unfold andThen at e⊢;cases hf:f s with
 |none=>rw[hf]at e;simp at e
 |some q=>
   rw[h _ _ hf];rw[hf]at e;obtain⟨x,t⟩:=q;cases x with
   |normal=>exact k _ _ e
   |ret=>simp at e
   |exit id=>simp at e
theorem bS{a b:dD}(h:a.le b){k k':Nat}(hk:k≤k'):∀{c:ae} {st:St} {r:aU×St},cv a k c st=some r→cv b k' c st=some r
 | .skip,_,_,e=>e
 | .iC _,_,_,e=>e
 | .IY _,_,_,e=>e
 | .jv _,_,_,e=>e
 | .jz _,_,_,e=>e
 | .IZ _,_,_,e=>e
 | .gk ops live,st,r,e=>by
   simp only[cv]at e⊢;split at e
   ·rename_i st' ho;rw[kS h ho];exact e
   ·simp at e
 | .seq x y,st,r,e=>by
   simp only[cv]at e⊢;cases hx:cv a k x st with
   |none=>rw[hx]at e;simp at e
   |some q=>
     rw[bS h hk hx];rw[hx]at e;obtain⟨ex,s⟩:=q;cases ex with
     |normal=>exact bS h hk e
     |ret=>exact e
     |exit id=>exact e
 | .cond c x y,st,r,e=>by
   simp only[cv]at e⊢;split at e
   · rename_i t hc;split at e
     ·rename_i ht;rw[if_pos ht];exact bS h hk e
     ·rename_i ht;rw[if_neg ht];exact bS h hk e
   ·simp at e
 | .block id x,st,r,e=>by
   simp only[cv]at e⊢;cases hx:cv a k x st with
   |none=>rw[hx]at e;simp at e
   |some q=>
     rw[bS h hk hx];rw[hx]at e;exact e
 | .loop live x,st,r,e=>by
   simp only[cv]at e⊢;exact gT (fun s r hs=>bS h hk hs) hk e
 | .exit id,_,_,e=>e
 | .ret,_,_,e=>e
 | .back c gb pi px sz ag live x y,st,r,e=>by
   simp only[cv]at e⊢;exact qz (lS (fun s r hs=>bS h hk hs) (fun s r hs=>bS h hk hs)) e
theorem dZ{a b:dD}(h:a.le b){k k':Nat}(hk:k≤k'){aR:Bool}{af:aA}{args:List AV}{sh:Sh}{ts:aD}{r:List AV×Sh×aD}(e:bL a k aR af args sh ts=some r):bL b k' aR af args sh ts=some r:=by
 unfold bL at *;cases hc:cv a k af.body { env:=bK 0 args,mem:=[],sh,aa:=ts } with
 |none=>rw[hc]at e;simp at e
 |some q=>rw[bS h hk hc];rw[hc]at e;exact e
variable {AP:Nat→Option aA}
theorem cp:∀{n n' k k':Nat},n≤n'→k≤k'→(run AP k n).le (run AP k' n')
 |0,_,_,_,_,_=>⟨fun g x r e=>by simp[run]at e,fun g x s t r e=>by simp[run]at e⟩
 |n+1,0,_,_,h,_=>by omega
 |n+1,n'+1,k,k',h,hk=>by
   have ih:(run AP k n).le (run AP k' n'):=cp (by omega) hk;refine⟨fun g x r e=>?_,fun g x s t r e=>?_⟩
   · simp only[run]at e⊢;cases hg:AP g with
     |none=>rw[hg]at e;simp at e
     |some af=>
       rw[hg]at e;dsimp only at e⊢;cases hp:af.mw with
       |some f=>rw[hp]at e;exact f.mono ih.p e
       |none=>
         rw[hp]at e;dsimp only at e⊢;split at e
         · rename_i hc;rw[if_pos hc];cases hb:bL (run AP k n) k false af (x.map .pv) [] [] with
           |none=>rw[hb]at e;simp at e
           |some q=>rw[dZ ih hk hb];rw[hb]at e;exact e
         ·simp at e
   · simp only[run]at e⊢;cases hg:AP g with
     |none=>rw[hg]at e;simp at e
     |some af=>
       rw[hg]at e;dsimp only at e⊢;split at e
       ·rename_i hc;rw[if_pos hc];exact dZ ih hk e
       ·simp at e
noncomputable def aC(AP:Nat→Option aA):dD where
 p:=fun g x=>DS fun n=>(run AP n n).p g x
 i:=fun g x s t=>DS fun n=>(run AP n n).i g x s t
theorem oz(g:Nat)(x:List PV):uS fun n=>(run AP n n).p g x:=fun _ _ _ h e=>(cp h h).p _ _ _ e
theorem Ac(g:Nat)(x:List AV)(s:Sh)(t:aD):uS fun n=>(run AP n n).i g x s t:=fun _ _ _ h e=>(cp h h).i _ _ _ _ _ e
theorem Ea(n:Nat):(run AP n n).le (aC AP):=⟨fun g x _ e=>pz (oz g x) e,fun g x s t _ e=>pz (Ac g x s t) e⟩
theorem oA{g:Nat}{x:List PV}{r:List PV}(h:(aC AP).p g x=some r):∃n,(run AP n n).p g x=some r:=e_ h
theorem Ad{g:Nat}{x:List AV}{s:Sh}{t:aD}{r:List AV×Sh×aD}(h:(aC AP).i g x s t=some r):∃n,(run AP n n).i g x s t=some r:=e_ h
theorem kU{g:Nat}{own:List Nat}{vals:List AV}{sh:Sh}{aa:aD}{r:AV×Sh×aD}(e:dt (aC AP) g own vals sh aa=some r):∃n,dt (run AP n n) g own vals sh aa=some r:=by
 unfold dt at *;split at e
 ·rename_i hp;simp only[Option.map_eq_some_iff]at e;obtain⟨x,h1,h2⟩:=e;obtain⟨n,hn⟩:=Ad h1;exact⟨n,by rw[if_pos hp,hn];simp only[Option.map_some,h2]⟩
 ·simp at e
theorem xn{op:AK}{vals:List AV}{cells:Option (List AV)}{sh:Sh}{aa:aD}{r:Out}(e:exec (aC AP) op vals cells sh aa=some r):∃n,exec (run AP n n) op vals cells sh aa=some r:=by
 cases op with
 |aL g=>
   simp only[exec]at e⊢;split at e
   ·rename_i cI hp;simp only[Option.map_eq_some_iff]at e;obtain⟨x,h1,h2⟩:=e;obtain⟨n,hn⟩:=oA h1;exact⟨n,by rw[hn];simp only[Option.map_some,h2]⟩
   ·simp at e
 |d3 g=>
   simp only[exec]at e⊢;split at e
   ·rename_i cI hp;simp only[Option.map_eq_some_iff]at e;obtain⟨x,h1,h2⟩:=e;obtain⟨n,hn⟩:=oA h1;exact⟨n,by rw[hn];simp only[Option.map_some,h2]⟩
   ·simp at e
 |bG g own=>
   simp only[exec,Option.map_eq_some_iff]at e⊢;obtain⟨x,h1,h2⟩:=e;obtain⟨n,hn⟩:=kU h1;exact⟨n,x,hn,h2⟩
 |jB g=>
   simp only[exec]at e⊢;split at e
   · split at e
     ·rename_i rs ts h1;obtain⟨n,hn⟩:=Ad h1;exact⟨n,by rw[hn];exact e⟩
     ·simp at e
   ·simp at e
 |d4=>
   cases vals with
   |nil=>simp[exec]at e
   |cons f vals=>
     cases f with
     |fn g cap=>
       simp only[exec,Option.bind_eq_some_iff]at e⊢;obtain⟨x,h1,h2⟩:=e;obtain⟨n,hn⟩:=kU h1;exact⟨n,x,hn,h2⟩
     |_=>simp[exec]at e
 |et=>
   cases vals with
   |nil=>simp[exec]at e
   |cons f vals=>
     cases f with
     |fn g cap=>
       simp only[exec,Option.map_eq_some_iff]at e⊢;obtain⟨x,h1,h2⟩:=e;obtain⟨n,hn⟩:=kU h1;exact⟨n,x,hn,h2⟩
     |_=>simp[exec]at e
 |_=>exact⟨0,by rw[←e];unfold exec;split<;>first|rfl|(rename_i heq;cases heq;done)|(simp at *;done)⟩
theorem Eb{o:dr}{st r:St}(e:dv (aC AP) o st=some r):∃n,dv (run AP n n) o st=some r:=by
 unfold dv at *;cases hw:ek st.env o.guard with
 |none=>rw[hw]at e;simp at e
 |some t=>
   cases t with
   |false=>rw[hw]at e;exact⟨0,e⟩
   |true=>
     rw[hw]at e;dsimp only at e⊢;cases hv:dB st.env o.args with
     |none=>rw[hv]at e;simp at e
     |some vals=>
       rw[hv]at e;dsimp only at e⊢;cases ho:exec (aC AP) o.op vals (o.op.key.bind (look st.mem)) st.sh st.aa with
       |none=>rw[ho]at e;simp at e
       |some out=>
         obtain⟨n,hn⟩:=xn ho;rw[ho]at e;exact⟨n,by rw[hn];exact e⟩
theorem qW:∀{l:List dr} {st r:St},a9 (aC AP) l st=some r→∃n,a9 (run AP n n) l st=some r
 |[],_,_,e=>⟨0,e⟩
 |o::l,st,r,e=>by
   simp only[a9]at e⊢;cases ho:dv (aC AP) o st with
   |none=>rw[ho]at e;simp at e
   |some s=>
     rw[ho]at e;obtain⟨n,hn⟩:=Eb ho;obtain⟨m,hm⟩:=qW (l:=l) e;refine⟨max n m,?_⟩;rw[qV (cp (Nat.le_max_left n m) (Nat.le_max_left n m)) hn];exact kS (cp (Nat.le_max_right n m) (Nat.le_max_right n m)) hm
theorem pB{k:Nat}{c:ae}{pre:St→St}(ih:∀{st:St} {r:aU×St},cv (aC AP) k c st=some r→∃n,cv (run AP n n) n c st=some r) :
   ∀{j:Nat} {st:St} {r:aU×St},eg (cv (aC AP) k c) pre j st=some r→∃n,eg (cv (run AP n n) n c) pre n st=some r
 |0,_,_,e=>by simp[eg]at e
 |j+1,st,r,e=>by
   simp only[eg]at e;cases hf:cv (aC AP) k c (pre st) with
   |none=>rw[hf]at e;simp at e
   |some q=>
     obtain⟨n,hn⟩:=ih hf;rw[hf]at e;obtain⟨x,s⟩:=q;cases x with
     |normal=>
       obtain⟨m,hm⟩:=pB ih e;refine⟨max n m+1,?_⟩;simp only[eg];rw[bS (cp (n:=n) (n':=max n m+1) (by omega) (by omega)) (k:=n) (k':=max n m+1) (by omega) hn];exact gT (fun s r hs=>bS (cp (n:=m) (by omega) (by omega)) (k:=m) (by omega) hs) (n:=m) (by omega) hm
     |ret=>
       refine⟨n+1,?_⟩;simp only[eg];rw[bS (cp (n:=n) (n':=n+1) (by omega) (by omega)) (k:=n) (k':=n+1) (by omega) hn];exact e
     |exit id=>
       refine⟨n+1,?_⟩;simp only[eg];rw[bS (cp (n:=n) (n':=n+1) (by omega) (by omega)) (k:=n) (k':=n+1) (by omega) hn];exact e
theorem mI{n m:Nat}(h:n≤m){c:ae}{st:St}{r:aU×St}(e:cv (run AP n n) n c st=some r):cv (run AP m m) m c st=some r:=bS (cp h h) h e
theorem qA{k:Nat}{x y:ae}(ihx:∀{st:St} {r:aU×St},cv (aC AP) k x st=some r→∃n,cv (run AP n n) n x st=some r)(ihy:∀{st:St} {r:aU×St},cv (aC AP) k y st=some r→∃n,cv (run AP n n) n y st=some r)
   {st:St} {r:aU×St} (e:andThen (cv (aC AP) k x) (cv (aC AP) k y) st=some r):∃n,andThen (cv (run AP n n) n x) (cv (run AP n n) n y) st=some r:=by
 unfold andThen at e⊢;cases hx:cv (aC AP) k x st with
 |none=>rw[hx]at e;simp at e
 |some q=>
   obtain⟨n,hn⟩:=ihx hx;rw[hx]at e;obtain⟨ex,s⟩:=q;cases ex with
   |normal=>
     obtain⟨m,hm⟩:=ihy e;exact⟨max n m,by rw[mI (Nat.le_max_left n m) hn];exact mI (Nat.le_max_right n m) hm⟩
   |ret=>simp at e
   |exit id=>simp at e
theorem pC{F:St→Option (aU×St)}{f:Nat→St→Option (aU×St)}(hm:∀{n m:Nat},n≤m→∀s r,f n s=some r→f m s=some r)(ih:∀{st:St} {r:aU×St},F st=some r→∃n,f n st=some r)
   {live:List Nat} {pi px sz:Nat} {ag:Bool} {env:List (Nat×AV)}:∀{l:List (PV×Nat)} {st:St} {r:aU×St},m9 F live pi px sz ag env l st=some r→∃n,m9 (f n) live pi px sz ag env l st=some r
 |[],_,_,e=>⟨0,e⟩
 |(el,i)::l,st,r,e=>by
   simp only[m9]at e⊢;cases hv:JE sz ag el with
   |none=>rw[hv]at e;simp at e
   |some v=>
     rw[hv]at e;simp only at e⊢;cases hf:F (norm (restrict live { st with env:=cJ (cJ env pi (.pv (.int .i64 i))) px v })) with
     |none=>rw[hf]at e;simp at e
     |some q=>
       obtain⟨n,hn⟩:=ih hf;rw[hf]at e;obtain⟨x,s⟩:=q;cases x with
       |normal=>
         obtain⟨m,hm'⟩:=pC hm ih e;exact⟨max n m,by rw[hm (Nat.le_max_left n m) _ _ hn];exact kT (hm (Nat.le_max_right n m)) hm'⟩
       |ret=>exact⟨n,by rw[hn];exact e⟩
       |exit id=>exact⟨n,by rw[hn];exact e⟩
theorem gC{k:Nat}:∀{c:ae} {st:St} {r:aU×St},cv (aC AP) k c st=some r→∃n,cv (run AP n n) n c st=some r
 | .skip,_,_,e=>⟨0,e⟩
 | .iC _,_,_,e=>⟨0,e⟩
 | .IY _,_,_,e=>⟨0,e⟩
 | .jv _,_,_,e=>⟨0,e⟩
 | .jz _,_,_,e=>⟨0,e⟩
 | .IZ _,_,_,e=>⟨0,e⟩
 | .gk ops live,st,r,e=>by
   simp only[cv]at e⊢;cases ho:a9 (aC AP) ops st with
   |none=>rw[ho]at e;simp at e
   |some s=>obtain⟨n,hn⟩:=qW ho;rw[ho]at e;exact⟨n,by rw[hn];exact e⟩
 | .seq x y,st,r,e=>by
   simp only[cv]at e⊢;cases hx:cv (aC AP) k x st with
   |none=>rw[hx]at e;simp at e
   |some q=>
     obtain⟨n,hn⟩:=gC hx;rw[hx]at e;obtain⟨ex,s⟩:=q;cases ex with
     |normal=>
       obtain⟨m,hm⟩:=gC (c:=y) e;exact⟨max n m,by rw[mI (Nat.le_max_left n m) hn];exact mI (Nat.le_max_right n m) hm⟩
     |ret=>exact⟨n,by rw[hn];exact e⟩
     |exit id=>exact⟨n,by rw[hn];exact e⟩
 | .cond c x y,st,r,e=>by
   simp only[cv]at e⊢;split at e
   · rename_i t hc;split at e
     ·rename_i ht;obtain⟨n,hn⟩:=gC e;exact⟨n,by rw[if_pos ht];exact hn⟩
     ·rename_i ht;obtain⟨n,hn⟩:=gC e;exact⟨n,by rw[if_neg ht];exact hn⟩
   ·simp at e
 | .block id x,st,r,e=>by
   simp only[cv]at e⊢;cases hx:cv (aC AP) k x st with
   |none=>rw[hx]at e;simp at e
   |some q=>
     obtain⟨n,hn⟩:=gC hx;rw[hx]at e;exact⟨n,by rw[hn];exact e⟩
 | .loop live x,st,r,e=>by
   simp only[cv]at e⊢;exact pB (fun h=>gC h) e
 | .exit id,_,_,e=>⟨0,e⟩
 | .ret,_,_,e=>⟨0,e⟩
 | .back c gb pi px sz ag live x y,st,r,e=>by
   simp only[cv]at e⊢;unfold jD at e⊢;split at e
   · split at e
     · rename_i hg;split at e
       · split at e
         ·rename_i hl;obtain⟨n,hn⟩:=pC (f:=fun n=>andThen (cv (run AP n n) n x) (cv (run AP n n) n y)) (fun h=>lS (fun s r hs=>mI h hs) (fun s r hs=>mI h hs)) (qA (fun h=>gC h) (fun h=>gC h)) e;exact⟨n,by rw[if_pos hg,if_pos hl];exact hn⟩
         ·simp at e
       ·simp at e
     ·simp at e
   ·simp at e
noncomputable def cl(AP:Nat→Option aA)(c:ae)(st:St):Option (aU×St):=DS fun k=>cv (aC AP) k c st
theorem oB(c:ae)(st:St):uS fun k=>cv (aC AP) k c st:=fun _ _ _ h e=>bS (dD.le_refl _) h e
theorem gU{c:ae}{st:St}{k:Nat}{r:aU×St}(h:cv (aC AP) k c st=some r):cl AP c st=some r:=pz (oB c st) h
theorem Hv{st:St}:cl AP .skip st=some (.normal,st):=gU (k:=0) rfl
theorem Hw{id:Nat}{st:St}:cl AP (.exit id) st=some (.exit id,st):=gU (k:=0) rfl
theorem JQ{ts:List Nat}{st:St}:cl AP (.iC ts) st=some (.normal,ku ts st):=gU (k:=0) rfl
theorem JR{ts:List Nat}{st:St}:cl AP (.jz ts) st=some (.normal,wV ts st):=gU (k:=0) rfl
theorem JS{ts:List Nat}{st:St}:cl AP (.IZ ts) st=some (.normal,gH ts st):=gU (k:=0) rfl
theorem JT{ps:List (Nat×Nat×Bool)}{st:St}:cl AP (.jv ps) st=some (.normal,rR ps st):=gU (k:=0) rfl
theorem JU{st:St}:cl AP .ret st=some (.ret,st):=gU (k:=0) rfl
theorem JV{ops:List dr}{live:List Nat}{st:St}:cl AP (.gk ops live) st=(a9 (aC AP) ops st).map fun st'=>(.normal,restrict live st'):=by
 cases h:a9 (aC AP) ops st with
 |none=>exact pA fun k=>by simp only[cv,h]
 |some s=>exact gU (k:=0) (by simp only[cv,h])
def after(f:St→Option (aU×St)):Option (aU×St)→Option (aU×St)
 |some (.normal,st)=>f st
 |r=>r
theorem JW{a b:ae}{st:St}:cl AP (.seq a b) st=after (cl AP b) (cl AP a st):=by
 refine ka (oB _ _) (fun k r h=>?_) fun r h=>?_
 · simp only[cv]at h;cases hx:cv (aC AP) k a st with
   |none=>rw[hx]at h;simp at h
   |some q=>
     rw[gU hx];rw[hx]at h;obtain⟨ex,s⟩:=q;cases ex with
     |normal=>exact gU h
     |ret=>exact h
     |exit id=>exact h
 · cases hx:cl AP a st with
   |none=>rw[hx]at h;simp[after]at h
   |some q=>
     obtain⟨k,hk⟩:=e_ hx;rw[hx]at h;obtain⟨ex,s⟩:=q;cases ex with
     |normal=>
       obtain⟨k',hk'⟩:=e_ (show DS (fun k=>cv (aC AP) k b s)=some r from h);refine⟨max k k',?_⟩;simp only[cv];rw[bS (dD.le_refl _) (Nat.le_max_left k k') hk];exact bS (dD.le_refl _) (Nat.le_max_right k k') hk'
     |ret=>exact⟨k,by simp only[cv];rw[hk];exact h⟩
     |exit id=>exact⟨k,by simp only[cv];rw[hk];exact h⟩
theorem Hx{c:d_}{a b:ae}{st:St}{t:Bool}(h:fm st.env c=some (.pv (.bool t))):cl AP (.cond c a b) st=if t then cl AP a st else cl AP b st:=by
 unfold cl;simp only[cv,h];cases t<;>rfl
def leave(id:Nat):Option (aU×St)→Option (aU×St)
 |some (.exit id',st)=>if id'=id then some (.normal,st) else some (.exit id',st)
 |r=>r
theorem Ec{id:Nat}{b:ae}{st:St}:cl AP (.block id b) st=leave id (cl AP b st):=by
 refine ka (oB _ _) (fun k r h=>?_) fun r h=>?_
 · simp only[cv]at h;cases hx:cv (aC AP) k b st with
   |none=>rw[hx]at h;simp at h
   |some q=>rw[gU hx];rw[hx]at h;exact h
 · cases hx:cl AP b st with
   |none=>rw[hx]at h;simp[leave]at h
   |some q=>
     obtain⟨k,hk⟩:=e_ hx;rw[hx]at h;exact⟨k,by simp only[cv];rw[hk];exact h⟩
theorem aE{live:List Nat}{b:ae}{st:St}:cl AP (.loop live b) st=after (cl AP (.loop live b)) (cl AP b (norm (restrict live st))):=by
 refine ka (oB _ _) (fun k r h=>?_) fun r h=>?_
 · simp only[cv]at h;cases k with
   |zero=>simp[eg]at h
   |succ k=>
     simp only[eg]at h;cases hx:cv (aC AP) (k+1) b (norm (restrict live st)) with
     |none=>rw[hx]at h;simp at h
     |some q=>
       rw[gU hx];rw[hx]at h;obtain⟨ex,s⟩:=q;cases ex with
       |normal=>exact gU (k:=k+1) (by simp only[cv];exact gT (fun _ _ h=>h) (Nat.le_succ k) h)
       |ret=>exact h
       |exit id=>exact h
 · cases hx:cl AP b (norm (restrict live st)) with
   |none=>rw[hx]at h;simp[after]at h
   |some q=>
     obtain⟨k,hk⟩:=e_ hx;rw[hx]at h;obtain⟨ex,s⟩:=q;have up:∀m,k≤m→cv (aC AP) m b (norm (restrict live st))=some (ex,s):=fun m hm=>bS (dD.le_refl _) hm hk
     cases ex with
     |normal=>
       obtain⟨k',hk'⟩:=e_ (show DS (fun k=>cv (aC AP) k (.loop live b) s)=some r from h);refine⟨max k k'+1,?_⟩;simp only[cv,eg];rw[up _ (by omega)];simp only[cv]at hk';exact gT (fun _ _ h=>bS (dD.le_refl _) (by omega) h) (by omega) hk'
     |ret=>exact⟨k+1,by simp only[cv,eg];rw[up _ (by omega)];exact h⟩
     |exit id=>exact⟨k+1,by simp only[cv,eg];rw[up _ (by omega)];exact h⟩
def finish(aR:Bool)(af:aA)(sh:Sh):Option (aU×St)→Option (List AV×Sh×aD)
 |some (e,st)=>
   if e=.ret∨e=.normal then
     match dL st af.results with
     |some vs=>
       let rs:=bV aR af.ks st.sh vs
       let sh':=if rs.all (aG sh.length)=true then (d6 aR af.ks st.sh vs).take sh.length else d6 aR af.ks st.sh vs
       if rs.all bu=true then some ((cC st.aa rs sh').1,(cC st.aa rs sh').2.1,(cC st.aa rs sh').2.2.2) else none
     |none=>none
   else none
 |none=>none
theorem eL{orc:dD}{k:Nat}{aR:Bool}{af:aA}{args:List AV}{sh:Sh}{ts:aD}:bL orc k aR af args sh ts=finish aR af sh (cv orc k af.body { env:=bK 0 args,mem:=[],sh,aa:=ts }):=by
 unfold bL finish;cases cv orc k af.body { env:=bK 0 args,mem:=[],sh,aa:=ts } with
 |none=>rfl
 |some q=>obtain⟨e,st⟩:=q;rfl
noncomputable def kC(AP:Nat→Option aA)(aR:Bool)(af:aA)(args:List AV)(sh:Sh)(ts:aD):Option (List AV×Sh×aD):=
 finish aR af sh (cl AP af.body { env:=bK 0 args,mem:=[],sh,aa:=ts })
theorem qY{aR:Bool}{af:aA}{args:List AV}{sh:Sh}{ts:aD}{r:List AV×Sh×aD}(h:kC AP aR af args sh ts=some r):∃n,bL (run AP n n) n aR af args sh ts=some r:=by
 unfold kC at h;cases hc:cl AP af.body { env:=bK 0 args,mem:=[],sh,aa:=ts } with
 |none=>rw[hc]at h;simp[finish]at h
 |some q=>
   obtain⟨k,hk⟩:=e_ hc;obtain⟨n,hn⟩:=gC hk;exact⟨n,by rw[eL,hn,←hc];exact h⟩
theorem Ae{n:Nat}{aR:Bool}{af:aA}{args:List AV}{sh:Sh}{ts:aD}{r:List AV×Sh×aD}(h:bL (run AP n n) n aR af args sh ts=some r):kC AP aR af args sh ts=some r:=by
 rw[eL]at h;unfold kC;cases hc:cv (run AP n n) n af.body { env:=bK 0 args,mem:=[],sh,aa:=ts } with
 |none=>rw[hc]at h;simp[finish]at h
 |some q=>
   rw[gU (bS (Ea n) (Nat.le_refl n) hc)];rw[hc]at h;exact h
theorem I3{g:Nat}{af:aA}{x:List PV}(hg:AP g=some af)(hp:af.mw=none)(h1:x.length=af.nparams)(h2:x.length≤af.ntmps) :
   (aC AP).p g x=(kC AP false af (x.map .pv) [] []).bind fun r=>eB r.1:=by
 refine ka (oz g x) (fun k r h=>?_) fun r h=>?_
 · cases k with
   |zero=>simp[run]at h
   |succ k=>
     simp only[run,hg,hp]at h;rw[if_pos ⟨h1,h2⟩]at h;cases hb:bL (run AP (k+1) k) (k+1) false af (x.map .pv) [] [] with
     |none=>rw[hb]at h;simp at h
     |some q=>
       rw[Ae (n:=k+1) (dZ (cp (Nat.le_succ k) (Nat.le_refl _)) (Nat.le_refl _) hb)];rw[hb]at h;exact h
 · cases hb:kC AP false af (x.map .pv) [] [] with
   |none=>rw[hb]at h;simp at h
   |some q=>
     obtain⟨n,hn⟩:=qY hb;rw[hb]at h;refine⟨n+1,?_⟩;simp only[run,hg,hp];rw[if_pos ⟨h1,h2⟩,dZ (cp (n:=n) (n':=n) (k:=n) (k':=n+1) (Nat.le_refl _) (Nat.le_succ n)) (Nat.le_succ n) hn];exact h
theorem qZ:∀(l:List (Nat×List PV×List PV)),(∀c∈l,(aC AP).p c.1 c.2.1=some c.2.2)→∃n,∀c∈l,(run AP n n).p c.1 c.2.1=some c.2.2
 |[],_=>⟨0,by simp⟩
 |c::l,h=>by
   obtain⟨n,hn⟩:=oA (h c (by simp));obtain⟨m,hm⟩:=qZ l fun c' hc=>h c' (by simp[hc]);refine⟨max n m,fun c' hc=>?_⟩;simp only[List.mem_cons]at hc;rcases hc with rfl|hc
   ·exact (cp (Nat.le_max_left n m) (Nat.le_max_left n m)).p _ _ _ hn
   ·exact (cp (Nat.le_max_right n m) (Nat.le_max_right n m)).p _ _ _ (hm c' hc)
theorem sA{g:Nat}{af:aA}{x:List PV}{f:Prim}(hg:AP g=some af)(hp:af.mw=some f):(aC AP).p g x=f.f (aC AP).p x:=by
 refine ka (oz g x) (fun k r h=>?_) fun r h=>?_
 · cases k with
   |zero=>simp[run]at h
   |succ k=>
     simp only[run,hg,hp]at h;exact f.mono (fun g x r e=>(Ea (k+1)).p _ _ _ ((cp (Nat.le_succ k) (Nat.le_refl _)).p _ _ _ e)) h
 ·obtain⟨l,h1,h2⟩:=f.fin _ _ _ h;obtain⟨n,hn⟩:=qZ l h1;refine⟨n+1,?_⟩;simp only[run,hg,hp];exact h2 _ fun c hc=>(cp (n:=n) (n':=n) (k:=n) (k':=n+1) (Nat.le_refl _) (Nat.le_succ n)).p _ _ _ (hn c hc)
theorem Af{g:Nat}{af:aA}{x:List PV}{f:List PV→Option (List PV)}(hg:AP g=some af)(hp:af.mw=some (Prim.pure f)):(aC AP).p g x=f x:=sA hg hp
theorem I4{g:Nat}{af:aA}{x:List AV}{sh:Sh}{ts:aD}(hg:AP g=some af)(h2:x.length≤af.ntmps):(aC AP).i g x sh ts=kC AP true af x sh ts:=by
 refine ka (Ac g x sh ts) (fun k r h=>?_) fun r h=>?_
 · cases k with
   |zero=>simp[run]at h
   |succ k=>
     simp only[run,hg]at h;rw[if_pos h2]at h;exact Ae (n:=k+1) (dZ (cp (Nat.le_succ k) (Nat.le_refl _)) (Nat.le_refl _) h)
 ·obtain⟨n,hn⟩:=qY h;refine⟨n+1,?_⟩;simp only[run,hg];rw[if_pos h2];exact dZ (cp (n:=n) (n':=n) (k:=n) (k':=n+1) (Nat.le_refl _) (Nat.le_succ n)) (Nat.le_succ n) hn
end Go.Ab
namespace Go.Ab.Ev
section
variable {AP:Nat→Option aA} {O:dD}
noncomputable def branch(AP:Nat→Option aA)(o:Option AV)(a b:ae)(st:St):Option (aU×St):=
 match o with
 |some (.pv (.bool t))=>if t=true then cl AP a st else cl AP b st
 |_=>none
theorem Bn{c:d_}{a b:ae}{st:St}:cl AP (.cond c a b) st=branch AP (fm st.env c) a b st:=by
 unfold branch;split
 ·rename_i t h;rw[Hx h]
 ·rename_i h;unfold cl;refine pA fun k=>?_;simp only[cv]
theorem uT{t:Bool}{a b:ae}{st:St}:branch AP (some (.pv (.bool t))) a b st=if t=true then cl AP a st else cl AP b st:=rfl
def pD(live:List Nat):Option St→Option (aU×St)
 |some st=>some (.normal,restrict live st)
 |none=>none
theorem Bo{ops:List dr}{live:List Nat}{st:St}:cl AP (.gk ops live) st=pD live (a9 (aC AP) ops st):=by
 rw[JV];cases a9 (aC AP) ops st<;>rfl
theorem uU{live:List Nat}{st:St}:pD live (some st)=some (.normal,restrict live st):=rfl
theorem xo{live:List Nat}{c:Prop}[Decidable c]{x y:Option St}:pD live (if c then x else y)=if c then pD live x else pD live y:=by split<;>rfl
theorem sB{f:St→Option (aU×St)}{st:St}:after f (some (.normal,st))=f st:=rfl
theorem Bp{f:St→Option (aU×St)}{st:St}:after f (some (.ret,st))=some (.ret,st):=rfl
theorem xp{f:St→Option (aU×St)}{st:St}{id:Nat}:after f (some (.exit id,st))=some (.exit id,st):=rfl
theorem Bq{f:St→Option (aU×St)}{c:Prop}[Decidable c]{x y:Option (aU×St)}:after f (if c then x else y)=if c then after f x else after f y:=by split<;>rfl
theorem sC{id:Nat}{st:St}:leave id (some (.normal,st))=some (.normal,st):=rfl
theorem Bs{id:Nat}{st:St}:leave id (some (.ret,st))=some (.ret,st):=rfl
theorem xq{id id':Nat}{st:St}:leave id (some (.exit id',st))=if id'=id then some (.normal,st) else some (.exit id',st):=rfl
theorem Bt{id:Nat}{c:Prop}[Decidable c]{x y:Option (aU×St)}:leave id (if c then x else y)=if c then leave id x else leave id y:=by split<;>rfl
def kb(O:dD)(l:List dr):Option St→Option St
 |some st=>a9 O l st
 |none=>none
theorem Bu{st:St}:a9 O [] st=some st:=rfl
theorem je{o:dr}{l:List dr}{st:St}:a9 O (o::l) st=kb O l (dv O o st):=by
 simp only[a9];cases dv O o st<;>rfl
theorem xr{d:Option Nat}{args:List d_}{op:AK}{l:List dr}{st:St}:a9 O (⟨d,none,args,op⟩::l) st=kb O l (dv O ⟨d,none,args,op⟩ st):=je
theorem sD{l:List dr}{st:St}:kb O l (some st)=a9 O l st:=rfl
theorem uV{l:List dr}{c:Prop}[Decidable c]{x y:Option St}:kb O l (if c then x else y)=if c then kb O l x else kb O l y:=by split<;>rfl
def pE(d k:Option Nat)(env:List (Nat×AV))(mem:List (Nat×List AV)):Option Out→Option St
 |some out=>some { env:=eA env d out.val,mem:=eb mem k out.cells,sh:=out.sh,aa:=out.aa }
 |none=>none
def Ed(O:dD)(op:AK)(vals:Option (List AV))(cells:Option (List AV))(sh:Sh)(aa:aD):Option Out:=
 match vals with
 |some vals=>exec O op vals cells sh aa
 |none=>none
theorem xt{d:Option Nat}{args:List d_}{op:AK}{env:List (Nat×AV)}{mem:List (Nat×List AV)}{sh:Sh}{aa:aD} :
   dv O ⟨d,none,args,op⟩ ⟨env,mem,sh,aa⟩=pE d op.key env mem (Ed O op (dB env args) (op.key.bind (look mem)) sh aa):=by
 simp only[dv,ek];cases dB env args with
 |none=>rfl
 |some vals=>
   dsimp only[Ed];cases exec O op vals (op.key.bind (look mem)) sh aa<;>rfl
def pF(t:Nat)(b:Bool)(o:dr):dr:=
 match o.guard with
 |some (t',b')=>if t'=t then (if b'=b then { o with guard:=none } else ⟨o.dst,none,[.c .un],.v .mv⟩) else o
 |none=>o
def Hf(t:Nat):List dr→Bool
 |[]=>true
 |o::l=>(o.dst != some t) && Hf t l
theorem kc{α:Type}{t t':Nat}{v:α}:∀{l:List (Nat×α)},look (cJ l t v) t'=if t'=t then some v else look l t'
 |[]=>by
   simp only[cJ,look];by_cases h:t'=t
   ·subst h;simp
   ·rw[if_neg (fun e=>h e.symm),if_neg h]
 |(k,u)::r=>by
   simp only[cJ];by_cases hk:k=t
   · subst hk;simp only[if_true,look];by_cases h:t'=k
     ·subst h;simp
     ·rw[if_neg (fun e=>h e.symm),if_neg h,if_neg (fun e=>h e.symm)]
   · rw[if_neg hk];simp only[look,kc (l:=r)];by_cases h:k=t'
     ·subst h;simp[hk]
     ·rw[if_neg h,if_neg h]
theorem mJ{α:Type}{t:Nat}{v:α}:∀{l:List (Nat×α)},look l t=some v→cJ l t v=l
 |[],h=>by simp[look]at h
 |(k,u)::r,h=>by
   simp only[look]at h;simp only[cJ];split at h
   ·rename_i e;cases h;rw[if_pos e]
   ·rename_i e;rw[if_neg e,mJ h]
theorem Bv{o:dr}{st st':St}{t:Nat}{v:AV}(hd:(o.dst != some t)=true)(h:look st.env t=some v)(e:dv O o st=some st'):look st'.env t=some v:=by
 have key:∀x,look (eA st.env o.dst x) t=some v:=by
   intro x;cases hdd:o.dst with
   |none=>exact h
   |some d=>
     rw[hdd]at hd;simp only[eA,kc];rw[if_neg (by intro e;subst e;simp at hd)];exact h
 simp only[dv]at e;split at e
 ·cases e
 ·cases e;exact key _
 · split at e
   ·cases e
   · split at e
     ·cases e
     ·cases e;exact key _
theorem Bw{o:dr}{st:St}{t:Nat}{b:Bool}(h:look st.env t=some (.pv (.bool b))):dv O o st=dv O (pF t b o) st:=by
 obtain⟨d,g,args,op⟩:=o;cases g with
 |none=>rfl
 |some p=>
   obtain⟨t',b'⟩:=p;simp only[pF];by_cases ht:t'=t
   · subst ht;rw[if_pos rfl];by_cases hb:b'=b
     ·subst hb;rw[if_pos rfl];simp only[dv,ek,h,beq_self_eq_true]
     · rw[if_neg hb];have hb':(b == b')=false:=by simpa using fun e=>hb e.symm
       simp only[dv,ek,h,hb'];obtain⟨env,mem,sh,aa⟩:=st;rfl
   ·rw[if_neg ht]
theorem kV{t:Nat}{b:Bool}:∀{l:List dr} {st:St},Hf t l=true→look st.env t=some (.pv (.bool b))→a9 O l st=a9 O (l.map (pF t b)) st
 |[],_,_,_=>rfl
 |o::l,st,hn,h=>by
   simp only[Hf,Bool.and_eq_true]at hn;rw[List.map_cons,je,je,←Bw h];cases e:dv O o st with
   |none=>rfl
   |some st'=>exact kV hn.2 (Bv hn.1 h e)
theorem uW{d:Option Nat}{t:Nat}{b:Bool}{args:List d_}{op:AK}{l:List dr}{env:List (Nat×AV)}{mem:List (Nat×List AV)}{sh:Sh}{aa:aD}{c:Bool}(h:look env t=some (.pv (.bool c)))(hn:Hf t (⟨d,some (t,b),args,op⟩::l)=true) :
   a9 O (⟨d,some (t,b),args,op⟩::l) ⟨env,mem,sh,aa⟩ =
     if c=true then a9 O ((⟨d,some (t,b),args,op⟩::l).map (pF t true)) ⟨cJ env t (.pv (.bool true)),mem,sh,aa⟩
     else a9 O ((⟨d,some (t,b),args,op⟩::l).map (pF t false)) ⟨cJ env t (.pv (.bool false)),mem,sh,aa⟩:=by
 cases c with
 |true=>rw[if_pos rfl,mJ h];exact kV hn h
 |false=>rw[if_neg (by simp),mJ h];exact kV hn h
theorem sF{d:Option Nat}{t:Nat}{b:Bool}{args:List d_}{op:AK}{l:List dr}{env:List (Nat×AV)}{mem:List (Nat×List AV)}{sh:Sh}{aa:aD}(h:look env t=some .un) :
   a9 O (⟨d,some (t,b),args,op⟩::l) ⟨env,mem,sh,aa⟩=a9 O l ⟨eA env d .un,mem,sh,aa⟩:=by
 rw[je];simp only[dv,ek,h];rfl
noncomputable def gd(O:dD)(t:Nat)(ops:List dr)(d:Option Nat)(l:List dr)(env:List (Nat×AV))(mem:List (Nat×List AV))(sh:Sh)(aa:aD):Option AV→Option St
 |some (.pv (.bool c))=>if Hf t ops=true then (if c=true then a9 O (ops.map (pF t true)) ⟨cJ env t (.pv (.bool true)),mem,sh,aa⟩
     else a9 O (ops.map (pF t false)) ⟨cJ env t (.pv (.bool false)),mem,sh,aa⟩) else a9 O ops ⟨env,mem,sh,aa⟩
 |some .un=>a9 O l ⟨eA env d .un,mem,sh,aa⟩
 |_=>a9 O ops ⟨env,mem,sh,aa⟩
theorem Ee{d:Option Nat}{t:Nat}{b:Bool}{args:List d_}{op:AK}{l:List dr}{env:List (Nat×AV)}{mem:List (Nat×List AV)}{sh:Sh}{aa:aD} :
   a9 O (⟨d,some (t,b),args,op⟩::l) ⟨env,mem,sh,aa⟩=gd O t (⟨d,some (t,b),args,op⟩::l) d l env mem sh aa (look env t):=by
 unfold gd;split
 · rename_i c h;split
   ·rename_i hn;exact uW h hn
   ·rfl
 ·rename_i h;exact sF h
 ·rfl
theorem Hy{t:Nat}{ops:List dr}{d:Option Nat}{l:List dr}{env:List (Nat×AV)}{mem:List (Nat×List AV)}{sh:Sh}{aa:aD}{c:Bool}:gd O t ops d l env mem sh aa (some (.pv (.bool c))) =
   if Hf t ops=true then (if c=true then a9 O (ops.map (pF t true)) ⟨cJ env t (.pv (.bool true)),mem,sh,aa⟩
     else a9 O (ops.map (pF t false)) ⟨cJ env t (.pv (.bool false)),mem,sh,aa⟩) else a9 O ops ⟨env,mem,sh,aa⟩:=rfl
theorem Lu{t:Nat}{ops:List dr}{d:Option Nat}{l:List dr}{env:List (Nat×AV)}{mem:List (Nat×List AV)}{sh:Sh}{aa:aD}:gd O t ops d l env mem sh aa (some .un)=a9 O l ⟨eA env d .un,mem,sh,aa⟩:=rfl
theorem Hz{t:Nat}:Hf t []=true:=rfl
theorem Ef{t d:Nat}{g:Option (Nat×Bool)}{args:List d_}{op:AK}{l:List dr}:Hf t (⟨some d,g,args,op⟩::l)=(!(decide (d=t)) && Hf t l):=by
 simp only[Hf];congr 1
theorem Bx{t:Nat}{b:Bool}{d:Option Nat}{args:List d_}{op:AK}:pF t b ⟨d,none,args,op⟩=⟨d,none,args,op⟩:=rfl
theorem By{t t':Nat}{b b':Bool}{d:Option Nat}{args:List d_}{op:AK}:pF t b ⟨d,some (t',b'),args,op⟩=if t'=t then (if b'=b then ⟨d,none,args,op⟩ else ⟨d,none,[.c .un],.v .mv⟩) else ⟨d,some (t',b'),args,op⟩:=rfl
theorem uX{d k:Option Nat}{env:List (Nat×AV)}{mem:List (Nat×List AV)}{v:AV}{cs:Option (List AV)}{sh:Sh}{aa:aD} :
   pE d k env mem (some ⟨v,cs,sh,aa⟩)=some ⟨eA env d v,eb mem k cs,sh,aa⟩:=rfl
theorem xu{d k:Option Nat}{env:List (Nat×AV)}{mem:List (Nat×List AV)}{c:Prop}[Decidable c]{x y:Option Out}:pE d k env mem (if c then x else y)=if c then pE d k env mem x else pE d k env mem y:=by split<;>rfl
theorem xv{op:AK}{vals:List AV}{cells:Option (List AV)}{sh:Sh}{aa:aD}:Ed O op (some vals) cells sh aa=exec O op vals cells sh aa:=rfl
def Eg(sh:Sh)(aa:aD):Option AV→Option Out
 |some x=>some ⟨x,none,sh,aa⟩
 |none=>none
theorem Bz{sh:Sh}{aa:aD}{x:AV}:Eg sh aa (some x)=some ⟨x,none,sh,aa⟩:=rfl
variable {vals:List AV} {cells:Option (List AV)} {sh:Sh} {aa:aD}
theorem JX{o:Hi}:exec O (.v o) vals cells sh aa=Eg sh aa (bo o vals):=by
 show (bo o vals).map _=_;cases bo o vals<;>rfl
theorem fC{key off sz d o:Nat}{ag:Bool}{cs:List AV}:exec O (.b_ key off sz ag) [.aK d o] (some cs) sh aa=if d=key∧o=off then Eg sh aa (bN ag sz cs off) else none:=by
 show (if d=key∧o=off then (bN ag sz cs off).map _ else none)=_;cases bN ag sz cs off<;>rfl
theorem fY{key off sz d o:Nat}{v:AV}{cs:List AV}:exec O (.bB key off sz) [.aK d o,v] (some cs) sh aa =
   if d=key∧o=off∧(aV v).length=sz∧(aV v).all aP=true then if off+sz≤cs.length then some ⟨.un,some (aQ cs off (aV v)),sh,aa⟩ else none else none:=rfl
theorem gO{key:Nat}{zero:List PV}:exec O (.alloc key zero) [] none sh aa=some ⟨.aK key 0,some (zero.map bo.zeroCell),sh,aa⟩:=rfl
theorem jJ{key sz:Nat}{v:AV}:exec O (.box key sz) [v] none sh aa=if (aV v).length=sz∧(aV v).all aP=true then some ⟨.aK key 0,some (aV v),sh,aa⟩ else none:=rfl
theorem uY{sz:Nat}{ag:Bool}{cs:List PV}:exec O (.dH sz ag) [.eD cs] cells sh aa=Eg sh aa (cy ag sz cs):=by
 show (cy ag sz cs).map _=_;cases cy ag sz cs<;>rfl
def sG(ag:Bool)(sz off:Nat):Option (Option (List AV))→Option AV
 |some (some cs)=>if bU cs=true then none else bN ag sz cs off
 |_=>none
theorem nF{ag:Bool}{sz off:Nat}{cs:List AV}:sG ag sz off (some (some cs))=if bU cs=true then none else bN ag sz cs off:=rfl
theorem uZ{sz b off:Nat}{ag:Bool}:exec O (.dH sz ag) [.a_ b off] cells sh aa=Eg sh aa (sG ag sz off sh[b]?):=by
 show (match sh[b]? with|some (some cs)=>if bU cs=true then none else (bN ag sz cs off).map _|_=>none)=_;split
 · rename_i cs h;rw[h,nF];split
   ·rfl
   ·cases bN ag sz cs off<;>rfl
 · rename_i h;unfold sG;split
   ·rename_i cs e;exact absurd e (h cs)
   ·rfl
def sH(b off sz:Nat)(vs:List AV)(sh:Sh)(aa:aD):Option (Option (List AV))→Option Out
 |some (some cs)=>if bU cs=false∧vs.length=sz∧off+sz≤cs.length∧vs.all cx=true∧vs.all (aG (b+1))=true then some ⟨.un,none,sh.set b (some (aQ cs off vs)),aa⟩ else none
 |_=>none
theorem lT{b off sz:Nat}{vs cs:List AV}:sH b off sz vs sh aa (some (some cs))=if bU cs=false∧vs.length=sz∧off+sz≤cs.length∧vs.all cx=true∧vs.all (aG (b+1))=true then some ⟨.un,none,sh.set b (some (aQ cs off vs)),aa⟩ else none:=rfl
theorem fZ{sz b off:Nat}{v:AV}:exec O (.eX sz) [.a_ b off,v] cells sh aa=sH b off sz (bY v) sh aa sh[b]?:=by
 show (match sh[b]? with|some (some cs)=>_|_=>none)=_;split
 ·rename_i cs h;rw[h,lT]
 · rename_i h;unfold sH;split
   ·rename_i cs e;exact absurd e (h cs)
   ·rfl
theorem j6{sz:Nat}{v:AV}:exec O (.mr sz) [v] cells sh aa=if (bY v).length=sz∧(bY v).all cx=true∧(bY v).all (aG sh.length)=true then some ⟨.a_ sh.length 0,none,sh++[some (bY v)],aa⟩ else none:=rfl
theorem ig{zero:List PV}:exec O (.gG zero) [] cells sh aa=some ⟨.a_ sh.length 0,none,sh++[some (zero.map bo.zeroCell)],aa⟩:=rfl
theorem iW{sz bytes:Nat}{ag:Bool}{zero:List PV}{k k':IntKind}{n n':Int}:exec O (.iB sz bytes ag zero) [.pv (.int k n),.pv (.int k' n')] cells sh aa =
   if n=n'∧0≤n∧n≤9223372036854775807∧n*bytes≤140737488355328∧zero.length=sz then some ⟨.aM sh.length sz n.toNat ag,none,sh++[some ((List.replicate n.toNat (zero.map .pv)).flatten)],aa⟩ else none:=rfl
theorem gP{key sz bytes:Nat}{zero:List PV}{k k':IntKind}{n n':Int}:exec O (.fR key sz bytes zero) [.pv (.int k n),.pv (.int k' n')] none sh aa =
   if n=n'∧0≤n∧n≤9223372036854775807∧n*bytes≤140737488355328∧zero.length=sz then some ⟨.g_ key n.toNat,some ((List.replicate n.toNat (zero.map .pv)).flatten),sh,aa⟩ else none:=rfl
theorem BA{d s b:Nat}{z:List PV}:AK.key (.fR d s b z)=some d:=rfl
theorem xw{live:List Nat}{d n:Nat}:dC live (.g_ d n)=live.contains d:=rfl
def JY(d sz:Nat)(ag:Bool)(st:St):Option (List AV)→St
 |some cells=>if cells.all cx=true∧cells.all (aG (st.sh.length+1))=true then
     { st with env:=nT d st.sh.length sz cells.length ag st.env (st.env.map (·.1)),mem:=nU d st.mem,sh:=st.sh++[some cells] } else st
 |none=>st
theorem HA{d sz:Nat}{ag:Bool}{st:St}:AS d sz ag st=JY d sz ag st (look st.mem d):=by
 unfold AS JY;split<;>rename_i h<;>rw[h]
theorem BB{d sz:Nat}{ag:Bool}{env:List (Nat×AV)}{mem:List (Nat×List AV)}{cells:List AV}:JY d sz ag ⟨env,mem,sh,aa⟩ (some cells) =
   if cells.all cx=true∧cells.all (aG (sh.length+1))=true then ⟨nT d sh.length sz cells.length ag env (env.map (·.1)),nU d mem,sh++[some cells],aa⟩ else ⟨env,mem,sh,aa⟩:=rfl
theorem Eh{st:St}:rR [] st=st:=rfl
theorem BC{d sz:Nat}{ag:Bool}{r:List (Nat×Nat×Bool)}{st:St}:rR ((d,sz,ag)::r) st=rR r (AS d sz ag st):=rfl
theorem Ei{d s sz n:Nat}{ag:Bool}{env:List (Nat×AV)}:nT d s sz n ag env []=[]:=rfl
def Lv(t:Nat)(r:List (Nat×AV)):Option AV→List (Nat×AV)
 |some v=>(t,v)::r
 |none=>r
theorem BD{t:Nat}{r:List (Nat×AV)}{v:AV}:Lv t r (some v)=(t,v)::r:=rfl
theorem BE{d s sz n t:Nat}{ag:Bool}{env:List (Nat×AV)}{r:List Nat}:nT d s sz n ag env (t::r)=Lv t (nT d s sz n ag env r) ((look env t).bind (tY d s sz n ag)):=by
 simp only[nT];split<;>rename_i h<;>rw[h]<;>rfl
theorem BF{d s sz n d' o:Nat}{ag:Bool}:tY d s sz n ag (.aK d' o)=some (if d'=d then .a_ s o else .aK d' o):=rfl
theorem BG{d s sz n d' m:Nat}{ag:Bool}:tY d s sz n ag (.g_ d' m)=if d'=d then (if m*sz≤n then some (.aM s sz m ag) else none) else some (.g_ d' m):=rfl
theorem HB{d s sz n:Nat}{ag:Bool}{p:PV}:tY d s sz n ag (.pv p)=some (.pv p):=rfl
theorem BH{d s sz n b z m:Nat}{ag g:Bool}:tY d s sz n ag (.aM b z m g)=some (.aM b z m g):=rfl
theorem Ej{α:Type}{d:Nat}:nU d ([]:List (Nat×α))=[]:=rfl
theorem BI{α:Type}{d k:Nat}{v:α}{r:List (Nat×α)}:nU d ((k,v)::r)=if k=d then nU d r else (k,v)::nU d r:=rfl
def Lx(ts:List Nat)(st:St):Option AV→St
 |some (.aM b _ _ _)=>match st.sh[b]? with
   |some (some cells)=>if bU cells=false then { st with env:=kx b st.sh.length ts st.env,sh:=st.sh.set b none++[some cells] } else st
   |_=>st
 |_=>st
theorem BJ{t:Nat}{r:List Nat}{st:St}:wV (t::r) st=Lx (t::r) st (look st.env t):=rfl
def Ly(ts:List Nat)(b:Nat)(st:St):Option (Option (List AV))→St
 |some (some cells)=>if bU cells=false then { st with env:=kx b st.sh.length ts st.env,sh:=st.sh.set b none++[some cells] } else st
 |_=>st
theorem BK{ts:List Nat}{st:St}{b z n:Nat}{ag:Bool}:Lx ts st (some (.aM b z n ag))=Ly ts b st st.sh[b]?:=rfl
theorem BL{ts:List Nat}{b:Nat}{env:List (Nat×AV)}{mem:List (Nat×List AV)}{cells:List AV}:Ly ts b ⟨env,mem,sh,aa⟩ (some (some cells)) =
   if bU cells=false then ⟨kx b sh.length ts env,mem,sh.set b none++[some cells],aa⟩ else ⟨env,mem,sh,aa⟩:=rfl
theorem Ek{b b':Nat}{env:List (Nat×AV)}:kx b b' [] env=env:=rfl
def Lz(b b' t:Nat)(r:List Nat)(env:List (Nat×AV)):Option AV→List (Nat×AV)
 |some (.aM s z n ag)=>if s=b then kx b b' r (cJ env t (.aM b' z n ag)) else kx b b' r env
 |_=>kx b b' r env
theorem BM{b b' t:Nat}{r:List Nat}{env:List (Nat×AV)}:kx b b' (t::r) env=Lz b b' t r env (look env t):=rfl
theorem BN{b b' t s z n:Nat}{ag:Bool}{r:List Nat}{env:List (Nat×AV)}:Lz b b' t r env (some (.aM s z n ag))=if s=b then kx b b' r (cJ env t (.aM b' z n ag)) else kx b b' r env:=rfl
theorem Em{st:St}:gH [] st=st:=rfl
def JZ(r:List Nat)(st:St):Option AV→St
 |some (.aM b _ _ _)=>match st.sh[b]? with
   |some (some cells)=>if bU cells=false∧(dJ (.agg cells)).contains b=false then
       match bJ st.sh cells with
       |some ps=>gH r { st with sh:=(cd st.sh [.agg cells]).set b (some (ps.map .pv)) }
       |none=>gH r st
     else gH r st
   |_=>gH r st
 |_=>gH r st
theorem BO{t:Nat}{r:List Nat}{st:St}:gH (t::r) st=JZ r st (look st.env t):=rfl
def J0(r:List Nat)(b:Nat)(cells:List AV)(st:St):Option (List PV)→St
 |some ps=>gH r { st with sh:=(cd st.sh [.agg cells]).set b (some (ps.map .pv)) }
 |none=>gH r st
def J1(r:List Nat)(b:Nat)(st:St):Option (Option (List AV))→St
 |some (some cells)=>if bU cells=false∧(dJ (.agg cells)).contains b=false then J0 r b cells st (bJ st.sh cells) else gH r st
 |_=>gH r st
theorem BP{r:List Nat}{st:St}{b z n:Nat}{ag:Bool}:JZ r st (some (.aM b z n ag))=J1 r b st st.sh[b]?:=by
 simp only[JZ];split
 ·rename_i cells h;rw[h];rfl
 · rename_i h;unfold J1;split
   ·rename_i cells e;exact absurd e (h cells)
   ·rfl
theorem BQ{r:List Nat}{b:Nat}{st:St}{cells:List AV}:J1 r b st (some (some cells))=if bU cells=false∧(dJ (.agg cells)).contains b=false then J0 r b cells st (bJ st.sh cells) else gH r st:=rfl
theorem BR{r:List Nat}{b:Nat}{cells:List AV}{ps:List PV}{env:List (Nat×AV)}{mem:List (Nat×List AV)}:J0 r b cells ⟨env,mem,sh,aa⟩ (some ps)=gH r ⟨env,mem,(cd sh [.agg cells]).set b (some (ps.map .pv)),aa⟩:=rfl
def LA(aa:aD):Option (AV×Sh×aD)→Option Out
 |some (v,sh',ts)=>some ⟨v,none,sh',ts⟩
 |none=>none
theorem BS{v:AV}{sh':Sh}{ts:aD}:LA aa (some (v,sh',ts))=some ⟨v,none,sh',ts⟩:=rfl
theorem u_{sz bytes:Nat}{ag:Bool}{x:AV}:exec O (.eY sz bytes ag) [x] cells sh aa=LA aa (ez (some ag) sz bytes x sh aa):=by
 show ((ez (some ag) sz bytes x sh aa).map _)=_;cases ez (some ag) sz bytes x sh aa<;>rfl
def sI(ag:Bool)(sz bytes:Nat)(sh:Sh)(aa:aD):Option (List PV)→Option (AV×Sh×aD)
 |some xs=>if a0 sz xs=true then (if xs.isEmpty=true then some (.di [],sh,aa) else if xs.length*bytes≤140737488355328 then some (.aM sh.length sz xs.length ag,sh++[some ((xs.flatMap aS).map .pv)],aa) else none) else none
 |none=>none
theorem BT{ag:Bool}{sz bytes:Nat}{x:AV}:ez (some ag) sz bytes x sh aa=sI ag sz bytes sh aa (cr x):=by
 cases h:cr x with
 |none=>simp[ez,sI,h]
 |some xs=>
   simp only[ez,sI,h];split
   · unfold nR;split
     ·rfl
     ·split<;>rfl
   ·rfl
theorem va{ag:Bool}{sz bytes:Nat}{xs:List PV}:sI ag sz bytes sh aa (some xs) =
   if a0 sz xs=true then (if xs.isEmpty=true then some (.di [],sh,aa) else if xs.length*bytes≤140737488355328 then some (.aM sh.length sz xs.length ag,sh++[some ((xs.flatMap aS).map .pv)],aa) else none) else none:=rfl
theorem xx{sz bytes:Nat}{ag:Bool}:(AK.eY sz bytes ag).key=none:=rfl
theorem HC{p:PV}{r:List AV}:bU (.pv p::r)=false:=rfl
def ca(s:Nat)(sh:Sh)(aa:aD):Option (List (PV×PV))→Option Out
 |some kvs=>some ⟨.un,none,sh.set s (some [.eE kvs]),aa⟩
 |none=>none
theorem BU{s:Nat}{kvs:List (PV×PV)}:ca s sh aa (some kvs)=some ⟨.un,none,sh.set s (some [.eE kvs]),aa⟩:=rfl
def Nr(c:CK)(s:Nat)(k:PV)(sh:Sh)(aa:aD):Option (Option (List AV))→Option PV→Option Out
 |some (some [.eE kvs]),some p=>ca s sh aa (DX c kvs k p)
 |_,_=>none
theorem BV{c:CK}{s:Nat}{k p:PV}{kvs:List (PV×PV)}:Nr c s k sh aa (some (some [.eE kvs])) (some p)=ca s sh aa (DX c kvs k p):=rfl
def J2(sh:Sh):Option (AV×aD)→Option Out
 |some (v,ts)=>some ⟨v,none,sh,ts⟩
 |none=>none
theorem BW{v:AV}{ts:aD}:J2 sh (some (v,ts))=some ⟨v,none,sh,ts⟩:=rfl
theorem ij{sz bytes:Nat}{s x:AV}:exec O (.append sz bytes) [s,x] cells sh aa=J2 sh (bF sz bytes s x aa):=by
 show (bF sz bytes s x aa).map _=_;cases bF sz bytes s x aa<;>rfl
theorem kN{sz bytes:Nat}{x:AV}:exec O (.clone sz bytes) [x] cells sh aa=J2 sh (bF sz bytes (.di []) x aa):=by
 show (bF sz bytes (.di []) x aa).map _=_;cases bF sz bytes (.di []) x aa<;>rfl
def Ag(sz bytes:Nat)(s:AV)(aa:aD):Option (List PV)→Option (AV×aD)
 |some xs=>if a0 sz xs=true then
   match s with
   | .di l=>if xs.isEmpty=true then some (.di l,aa) else if a0 sz l=true∧(l.length+xs.length)*bytes≤140737488355328 then
       some (.own (l++xs) aa.length,aa++[(l++xs).length]) else none
   | .own l τ=>if aa[τ]?=some l.length∧a0 sz l=true∧(l.length+xs.length)*bytes≤140737488355328 then
       some (.own (l++xs) τ,aa.set τ (l++xs).length) else none
   |_=>none
   else none
 |none=>none
theorem qB{sz bytes:Nat}{s x:AV}:bF sz bytes s x aa=Ag sz bytes s aa (cr x):=by
 unfold bF Ag;cases cr x<;>rfl
theorem BX{sz bytes:Nat}{l xs:List PV}:Ag sz bytes (.di l) aa (some xs)=if a0 sz xs=true then if xs.isEmpty=true then some (.di l,aa) else if a0 sz l=true∧(l.length+xs.length)*bytes≤140737488355328 then
       some (.own (l++xs) aa.length,aa++[(l++xs).length]) else none else none:=rfl
theorem BY{sz bytes τ:Nat}{l xs:List PV}:Ag sz bytes (.own l τ) aa (some xs)=if a0 sz xs=true then if aa[τ]?=some l.length∧a0 sz l=true∧(l.length+xs.length)*bytes≤140737488355328 then
       some (.own (l++xs) τ,aa.set τ (l++xs).length) else none else none:=rfl
def BZ(aa:aD):Option (AV×Sh)→Option Out
 |some (v,sh)=>some ⟨v,none,sh,aa⟩
 |none=>none
theorem B1{v:AV}{sh:Sh}:BZ aa (some (v,sh))=some ⟨v,none,sh,aa⟩:=rfl
theorem Eo{c:Prop}[Decidable c]{x y:Option (AV×Sh)}:BZ aa (if c then x else y)=if c then BZ aa x else BZ aa y:=by split<;>rfl
def Ep(sz bytes:Nat)(ag:Bool)(s:AV)(sh:Sh)(aa:aD):Option (List PV)→Option Out
 |some xs=>if a0 sz xs=true then BZ aa (nS sz bytes ag s xs sh aa) else none
 |none=>none
theorem xy{sz bytes:Nat}{ag:Bool}{s:AV}{xs:List PV}:Ep sz bytes ag s sh aa (some xs)=if a0 sz xs=true then BZ aa (nS sz bytes ag s xs sh aa) else none:=rfl
theorem iY{sz bytes:Nat}{ag:Bool}{s x:AV}:exec O (.cW sz bytes ag) [s,x] cells sh aa=Ep sz bytes ag s sh aa (cr x):=by
 simp only[exec,Ep];cases cr x with
 |none=>rfl
 |some xs=>
   simp only;split
   ·cases nS sz bytes ag s xs sh aa<;>rfl
   ·rfl
def xz(sz bytes:Nat)(ag:Bool)(b z n:Nat)(g:Bool)(xs:List PV)(sh:Sh):Option (Option (List AV))→Option (AV×Sh)
 |some (some cells)=>if z=sz∧g=ag∧bU cells=false∧n*sz≤cells.length∧(n+xs.length)*bytes≤140737488355328 then
       if xs.isEmpty=true then some (.aM b sz n ag,sh) else some (.aM sh.length sz (n+xs.length) ag,sh.set b none++[some (cells.take (n*sz)++(xs.flatMap aS).map .pv)])
     else none
 |_=>none
theorem ve{sz bytes:Nat}{ag:Bool}{b z n:Nat}{g:Bool}{xs:List PV}{cells:List AV}:xz sz bytes ag b z n g xs sh (some (some cells))=if z=sz∧g=ag∧bU cells=false∧n*sz≤cells.length∧(n+xs.length)*bytes≤140737488355328 then
       if xs.isEmpty=true then some (.aM b sz n ag,sh) else some (.aM sh.length sz (n+xs.length) ag,sh.set b none++[some (cells.take (n*sz)++(xs.flatMap aS).map .pv)])
     else none:=rfl
theorem Er{sz bytes:Nat}{ag:Bool}{xs:List PV}:nS sz bytes ag (.di []) xs sh aa=nR sz bytes ag (.di []) xs sh:=rfl
theorem Es{sz bytes τ:Nat}{ag:Bool}{xs:List PV}:nS sz bytes ag (.own [] τ) xs sh aa=if aa[τ]?=some 0 then nR sz bytes ag (.own [] τ) xs sh else none:=rfl
theorem B2{sz bytes b z n:Nat}{ag g:Bool}{xs:List PV}:nS sz bytes ag (.aM b z n g) xs sh aa=xz sz bytes ag b z n g xs sh sh[b]?:=by
 simp only[nS,xz];rcases sh[b]? with _|_|cells<;>rfl
theorem HD{sz bytes:Nat}{ag:Bool}{s:AV}{xs:List PV}:nR sz bytes ag s xs sh=if xs.isEmpty=true then some (s,sh) else if xs.length*bytes≤140737488355328 then some (.aM sh.length sz xs.length ag,sh++[some ((xs.flatMap aS).map .pv)]) else none:=rfl
def HE(r:List Nat)(t:Nat)(st:St)(v:AV):Option PV→St
 |some p=>ku r { st with env:=cJ st.env t (.pv p),sh:=cd st.sh [v] }
 |none=>ku r (wU v st)
def Et(d:Nat)(cs:List AV)(st:St):Option (List PV)→St
 |some ps=>{ st with mem:=cJ st.mem d (ps.map .pv),sh:=cd st.sh [.agg cs] }
 |none=>st
def Eu(d:Nat)(st:St):Option (List AV)→St
 |some cs=>Et d cs st (bJ st.sh cs)
 |none=>st
theorem B3{d:Nat}{st:St}:wU (.aK d 0) st=Eu d st (look st.mem d):=by
 simp only[wU];cases look st.mem d with
 |none=>rfl
 |some cs=>
   simp only[Eu];cases bJ st.sh cs<;>rfl
theorem xA{d:Nat}{st:St}{cs:List AV}:Eu d st (some cs)=Et d cs st (bJ st.sh cs):=rfl
theorem xB{d:Nat}{st:St}{cs:List AV}{ps:List PV}:Et d cs st (some ps)={ st with mem:=cJ st.mem d (ps.map .pv),sh:=cd st.sh [.agg cs] }:=rfl
def J3(r:List Nat)(t:Nat)(st:St):Option AV→St
 |some v=>HE r t st v (iC st.sh v)
 |none=>ku r st
theorem Ew{st:St}:ku [] st=st:=rfl
theorem B4{t:Nat}{r:List Nat}{st:St}:ku (t::r) st=J3 r t st (look st.env t):=by
 simp only[ku];cases look st.env t with
 |none=>rfl
 |some v=>
   simp only[J3];cases iC st.sh v<;>rfl
theorem B5{r:List Nat}{t:Nat}{st:St}{v:AV}:J3 r t st (some v)=HE r t st v (iC st.sh v):=rfl
theorem B6{r:List Nat}{t:Nat}{st:St}{v:AV}{p:PV}:HE r t st v (some p)=ku r { st with env:=cJ st.env t (.pv p),sh:=cd st.sh [v] }:=rfl
theorem B7{r:List Nat}{t:Nat}{st:St}{v:AV}:HE r t st v none=ku r (wU v st):=rfl
def J4(aa:aD):Option Sh→Option Out
 |some sh=>some ⟨.m8 [],none,sh,aa⟩
 |none=>none
theorem B8{sh:Sh}:J4 aa (some sh)=some ⟨.m8 [],none,sh,aa⟩:=rfl
def pG(sz:Nat)(zero:List PV)(sh:Sh)(b off n:Nat):Option (Option (List AV))→Option Sh
 |some (some cells)=>if bU cells=false∧off+n*sz≤cells.length∧zero.length=sz then some (sh.set b (some (aQ cells off (List.replicate n (zero.map .pv)).flatten))) else none
 |_=>none
theorem vf{sz b off n:Nat}{zero:List PV}{cells:List AV}:pG sz zero sh b off n (some (some cells))=if bU cells=false∧off+n*sz≤cells.length∧zero.length=sz then some (sh.set b (some (aQ cells off (List.replicate n (zero.map .pv)).flatten))) else none:=rfl
theorem sJ{sz b n:Nat}{ag:Bool}{zero:List PV}:exec O (.eZ sz zero) [.aM b sz n ag] cells sh aa=J4 aa (pG sz zero sh b 0 n sh[b]?):=by
 simp only[exec,oL,if_true,kJ];rcases sh[b]? with _|_|cs
 ·rfl
 ·rfl
 ·simp only[pG];split<;>rfl
theorem sK{sz b off n:Nat}{zero:List PV}:exec O (.eZ sz zero) [.mo b off n] cells sh aa=J4 aa (pG sz zero sh b off n sh[b]?):=by
 simp only[exec,oL,kJ];rcases sh[b]? with _|_|cs
 ·rfl
 ·rfl
 ·simp only[pG];split<;>rfl
def pH(sz:Nat)(sh:Sh)(aa:aD)(x:AV):Option (List PV)→Option Out
 |some xs=>Ey aa (ly sz sh xs x)
 |none=>none
where Ey (aa:aD):Option (Nat×Sh)→Option Out
 |some (k,sh')=>some ⟨.pv (.int .i64 (k:Int)),none,sh',aa⟩
 |none=>none
theorem vg{sz:Nat}{x:AV}{xs:List PV}:pH sz sh aa x (some xs)=pH.Ey aa (ly sz sh xs x):=rfl
theorem xC{k:Nat}{sh':Sh}:pH.Ey aa (some (k,sh'))=some ⟨.pv (.int .i64 (k:Int)),none,sh',aa⟩:=rfl
theorem iX{sz:Nat}{x y:AV}:exec O (.hZ sz) [x,y] cells sh aa=pH sz sh aa x (cr y):=by
 simp only[exec,pH];cases cr y with
 |none=>rfl
 |some xs=>simp only;cases ly sz sh xs x<;>rfl
def Ez(sz:Nat)(sh:Sh)(xs:List PV)(b z n:Nat):Option (Option (List AV))→Option (Nat×Sh)
 |some (some cells)=>if z=sz∧a0 sz xs=true∧bU cells=false∧n*sz≤cells.length then
       some (min xs.length n,sh.set b (some (aQ cells 0 (((xs.take n).flatMap aS).map .pv)))) else none
 |_=>none
theorem xD{sz b z n:Nat}{xs:List PV}{cells:List AV}:Ez sz sh xs b z n (some (some cells))=if z=sz∧a0 sz xs=true∧bU cells=false∧n*sz≤cells.length then
       some (min xs.length n,sh.set b (some (aQ cells 0 (((xs.take n).flatMap aS).map .pv)))) else none:=rfl
theorem xE{sz b z n:Nat}{g:Bool}{xs:List PV}:ly sz sh xs (.aM b z n g)=Ez sz sh xs b z n sh[b]?:=by
 simp only[ly,Ez];rcases sh[b]? with _|_|cells<;>rfl
theorem B9{s:Nat}:AK.key (.hZ s)=none:=rfl
theorem B_:tX [] []=true:=rfl
theorem xF{a b:List UInt8}{r q:List PV}:tX (.str a::r) (.str b::q)=((a == b) && tX r q):=rfl
theorem xG{s:Nat}{z:List PV}:AK.key (.eZ s z)=none:=rfl
theorem xH{sz b n:Nat}{ag lo hi:Bool}{rest:List AV}:bo (.oJ sz lo hi) (.aM b sz n ag::rest)=iD sz lo hi (.aM b sz n ag::rest):=rfl
theorem EA{l:List PV}:cr (.pv (.az l))=some l:=rfl
theorem B'{l:List PV}:cr (.di l)=some l:=rfl
theorem Ca{l:List PV}{τ:Nat}:cr (.own l τ)=some l:=rfl
theorem xI{sz:Nat}:a0 sz []=true:=rfl
theorem vh{sz:Nat}{p:PV}{r:List PV}:a0 sz (p::r)=((aS p).length == sz):=rfl
def J5(sh:Sh)(aa:aD):Option (List PV)→Option Out
 |some rs=>some ⟨oM rs,none,sh,aa⟩
 |none=>none
theorem Cb{rs:List PV}:J5 sh aa (some rs)=some ⟨oM rs,none,sh,aa⟩:=rfl
def EB(O:dD)(g:Nat):Option (List PV)→Option (List PV)
 |some cI=>O.p g cI
 |none=>none
theorem kW{g:Nat}{cI:List PV}:EB O g (some cI)=O.p g cI:=rfl
theorem xJ{g:Nat}:exec O (.aL g) vals cells sh aa=J5 sh aa (EB O g (cL [] vals)):=by
 show (match cL [] vals with|some cI=>_|none=>none)=_;split
 ·rename_i cI h;rw[h,kW];cases O.p g cI<;>rfl
 ·rename_i h;rw[h];rfl
theorem vi{g:Nat}:exec O (.d3 g) vals cells sh aa=J5 (cd sh vals) aa (EB O g (cL sh vals)):=by
 show (match cL sh vals with|some cI=>_|none=>none)=_;split
 ·rename_i cI h;rw[h,kW];cases O.p g cI<;>rfl
 ·rename_i h;rw[h];rfl
def J6(n:Nat)(ts0:aD):Option (List AV×Sh×aD)→Option Out
 |some (rs,sh',ts)=>some ⟨oN (rs.map (cM n)),none,dS n sh',ts0++ts⟩
 |none=>none
theorem Cc{n:Nat}{ts0:aD}{rs:List AV}{sh':Sh}{ts:aD}:J6 n ts0 (some (rs,sh',ts))=some ⟨oN (rs.map (cM n)),none,dS n sh',ts0++ts⟩:=rfl
def Ah(O:dD)(g n:Nat)(q:List AV×Sh×aD×aD):Option Out:=J6 n q.2.2.1 (O.i g q.1 q.2.1 q.2.2.2)
theorem EC{g n:Nat}{a:List AV}{s:Sh}{o t:aD}:Ah O g n (a,s,o,t)=J6 n o (O.i g a s t):=rfl
def q_(O:dD)(g:Nat)(args:List AV)(sh:Sh)(aa:aD):Option Out:=
 if args.all bu=true then Ah O g aa.length (cC aa args sh) else none
theorem ED{g:Nat}{args:List AV}:q_ O g args sh aa=if args.all bu=true then Ah O g aa.length (cC aa args sh) else none:=rfl
theorem jQ{g:Nat}{own:List Nat}:(dt O g own vals sh aa).map (fun (v,sh',ts)=>(⟨v,none,sh',ts⟩:Out))=q_ O g (dz own 0 vals) sh aa:=by
 unfold dt q_ Ah;split
 · cases O.i g (cC aa (dz own 0 vals) sh).1 (cC aa (dz own 0 vals) sh).2.1 (cC aa (dz own 0 vals) sh).2.2.2 with
   |none=>rfl
   |some q=>obtain⟨a,b,c⟩:=q;rfl
 ·rfl
theorem xK{g:Nat}{own:List Nat}:exec O (.bG g own) vals cells sh aa=q_ O g (dz own 0 vals) sh aa:=jQ
theorem dU{g:Nat}{cap:List AV}:exec O .et (.fn g cap::vals) cells sh aa=q_ O g (dz [] 0 (vals++cap)) sh aa:=jQ (vals:=vals++cap)
def NV(sh:Sh):Option Out→Option Out
 |some o=>if kt o.sh sh=true then some ⟨o.val,none,sh,o.aa⟩ else none
 |none=>none
theorem EE{v:AV}{c:Option (List AV)}{s:Sh}{t:aD}:NV sh (some ⟨v,c,s,t⟩)=if kt s sh=true then some ⟨v,none,sh,t⟩ else none:=rfl
theorem vj{g:Nat}{cap:List AV}:exec O .d4 (.fn g cap::vals) cells sh aa=NV sh (q_ O g (dz [] 0 (vals++cap)) sh aa):=by
 rw[←jQ];simp only[exec];cases dt O g [] (vals++cap) sh aa with
 |none=>rfl
 |some q=>obtain⟨v,s,t⟩:=q;rfl
theorem xL:AK.key .d4=none:=rfl
mutual
theorem rb:∀p:PV,kr p p=true
 | .bool _=>by simp[kr]
 | .int _ _=>by simp[kr]
 | .str _=>by simp[kr]
 | .agg l=>by simp only[kr];exact kX l
 | .az l=>by simp only[kr];exact kX l
theorem kX:∀l:List PV,lz l l=true
 |[]=>rfl
 |p::r=>by simp only[lz,rb p,kX r,Bool.and_self]
end
theorem J7{p:PV}:K5 (.pv p) (.pv p)=true:=rb p
theorem EF:qp [] []=true:=rfl
theorem Cd{a b:AV}{r q:List AV}:qp (a::r) (b::q)=(K5 a b && qp r q):=rfl
theorem EG:kt [] []=true:=rfl
theorem Ce{a b:List AV}{r q:Sh}:kt (some a::r) (some b::q)=(qp a b && kt r q):=rfl
def b2sO:Option (List UInt8)→Option AV
 |some s=>some (.pv (.str s))
 |none=>none
theorem b2sO_some{s:List UInt8}:b2sO (some s)=some (.pv (.str s)):=rfl
theorem xM{own:List Nat}{i:Nat}:dz own i []=[]:=rfl
theorem vk{own:List Nat}{i:Nat}{v:AV}{r:List AV}:dz own i (v::r)=(if own.contains i then v else jo v)::dz own (i+1) r:=rfl
theorem EH{p:PV}:jo (.pv p)=.pv p:=rfl
theorem Cf{l:List PV}:jo (.di l)=.pv (.az l):=rfl
theorem Cg{l:List PV}{τ:Nat}:jo (.own l τ)=.pv (.az l):=rfl
theorem xN{b o:Nat}:jo (.a_ b o)=.a_ b o:=rfl
theorem EI{g:Nat}{cap:List AV}:jo (.fn g cap)=.fn g cap:=rfl
theorem xO{b s n:Nat}{ag:Bool}:jo (.aM b s n ag)=.aM b s n ag:=rfl
def xQ(cs:List AV):Option (List PV)→AV
 |some ps=>.pv (.agg ps)
 |none=>.agg cs
theorem Ci{cs:List AV}:jo (.agg cs)=xQ cs (bJ [] cs):=by
 have h:iC [] (.agg cs)=(bJ [] cs).map .agg:=rfl;unfold jo xQ;rw[h];cases bJ [] cs<;>rfl
theorem vm{cs:List AV}{ps:List PV}:xQ cs (some ps)=.pv (.agg ps):=rfl
def pI{α:Type}:Option α→Option (List α)→Option (List α)
 |some x,some l=>some (x::l)
 |_,_=>none
theorem xR{α:Type}{x:α}{l:List α}:pI (some x) (some l)=some (x::l):=rfl
theorem xS{env:List (Nat×AV)}:dB env []=some []:=rfl
theorem vn{env:List (Nat×AV)}{x:d_}{r:List d_}:dB env (x::r)=pI (fm env x) (dB env r):=by
 simp only[dB];cases fm env x<;>cases dB env r<;>rfl
theorem HF{env:List (Nat×AV)}{n:Nat}:fm env (.t n)=look env n:=rfl
theorem HG{env:List (Nat×AV)}{v:AV}:fm env (.c v)=some v:=rfl
theorem EJ:eV []=some []:=rfl
theorem Cj{v:AV}{r:List AV}:eV (v::r)=pI (jC v) (eV r):=by
 simp only[eV];cases jC v<;>cases eV r<;>rfl
theorem xT:cL sh []=some []:=rfl
theorem vp{v:AV}{r:List AV}:cL sh (v::r)=pI (iC sh v) (cL sh r):=by
 simp only[cL];cases iC sh v<;>cases cL sh r<;>rfl
theorem Ck:bJ sh []=some []:=rfl
theorem xU{v:AV}{r:List AV}:bJ sh (v::r)=if aP v=true then pI (dj sh v) (bJ sh r) else none:=by
 simp only[bJ];split
 ·cases dj sh v<;>cases bJ sh r<;>rfl
 ·rfl
theorem HH{p:PV}:jC (.pv p)=some p:=rfl
theorem J8{p:PV}:iC sh (.pv p)=some p:=rfl
theorem HI{l:List PV}:iC sh (.di l)=some (.az l):=rfl
theorem HJ{l:List PV}{τ:Nat}:iC sh (.own l τ)=some (.az l):=rfl
def LB:Option (List PV)→Option PV
 |some ps=>some (.agg ps)
 |none=>none
theorem Cl{ps:List PV}:LB (some ps)=some (.agg ps):=rfl
theorem HK{cs:List AV}:iC sh (.agg cs)=LB (bJ sh cs):=by
 simp only[iC];cases bJ sh cs<;>rfl
theorem xW{p:PV}:dj sh (.pv p)=some p:=rfl
theorem vq{l:List PV}:dj sh (.di l)=some (.az l):=rfl
theorem vr{l:List PV}{τ:Nat}:dj sh (.own l τ)=some (.az l):=rfl
def J9(sz n:Nat)(ag:Bool):Option (Option (List AV))→Option PV
 |some (some cells)=>if cells.length=n*sz then ((eV cells).bind (dy sz ag n)).map .az
   else if bU cells=false∧n*sz≤cells.length then ((eV (cells.take (n*sz))).bind (dy sz ag n)).map .az else none
 |_=>none
theorem sL{b sz n:Nat}{ag:Bool}:dj sh (.aM b sz n ag)=J9 sz n ag sh[b]?:=rfl
theorem EK{b sz n:Nat}{ag:Bool}:iC sh (.aM b sz n ag)=J9 sz n ag sh[b]?:=rfl
theorem Cm{sz n:Nat}{ag:Bool}{cells:List AV}:J9 sz n ag (some (some cells))=if cells.length=n*sz then ((eV cells).bind (dy sz ag n)).map .az else if bU cells=false∧n*sz≤cells.length then ((eV (cells.take (n*sz))).bind (dy sz ag n)).map .az else none:=rfl
theorem EL{r:PV}:oM [r]=.pv r:=rfl
theorem EM{a b:PV}{r:List PV}:oM (a::b::r)=.m8 (.pv a::.pv b::r.map .pv):=rfl
theorem EN{r:AV}:oN [r]=r:=rfl
theorem EO:oN []=.m8 []:=rfl
theorem EP{xs:List AV}:cC aa xs sh=((aZ aa [] xs).1,(aW (aZ aa [] xs).2.1 (aZ aa [] xs).2.2 sh).1,(aW (aZ aa [] xs).2.1 (aZ aa [] xs).2.2 sh).2.1,(aW (aZ aa [] xs).2.1 (aZ aa [] xs).2.2 sh).2.2):=rfl
theorem Cn{aF ts:aD}:aZ aF ts []=([],aF,ts):=rfl
theorem pJ{aF ts:aD}{v:AV}{r:List AV}:aZ aF ts (v::r)=((bp aF ts v).1::(aZ (bp aF ts v).2.1 (bp aF ts v).2.2 r).1,(aZ (bp aF ts v).2.1 (bp aF ts v).2.2 r).2):=rfl
theorem Co{aF ts:aD}:aW aF ts []=([],aF,ts):=rfl
theorem pK{aF ts:aD}{r:Sh}:aW aF ts (none::r)=(none::(aW aF ts r).1,(aW aF ts r).2):=rfl
theorem pL{aF ts:aD}{cs:List AV}{r:Sh}:aW aF ts (some cs::r)=(some (aZ aF ts cs).1::(aW (aZ aF ts cs).2.1 (aZ aF ts cs).2.2 r).1,(aW (aZ aF ts cs).2.1 (aZ aF ts cs).2.2 r).2):=rfl
theorem Cp{aF ts:aD}:cP aF ts []=([],aF,ts):=rfl
theorem xX{aF ts:aD}{t:Nat}{v:AV}{r:List (Nat×AV)}:cP aF ts ((t,v)::r)=((t,(bp aF ts v).1)::(cP (bp aF ts v).2.1 (bp aF ts v).2.2 r).1,(cP (bp aF ts v).2.1 (bp aF ts v).2.2 r).2):=rfl
theorem Cq{aF ts:aD}:ef aF ts []=([],aF,ts):=rfl
theorem xY{aF ts:aD}{t:Nat}{v:List AV}{r:List (Nat×List AV)}:ef aF ts ((t,v)::r)=((t,(aZ aF ts v).1)::(ef (aZ aF ts v).2.1 (aZ aF ts v).2.2 r).1,(ef (aZ aF ts v).2.1 (aZ aF ts v).2.2 r).2):=rfl
theorem Cr{aF ts:aD}{l:List PV}{τ:Nat}:bp aF ts (.own l τ)=if aF[τ]?=some l.length then (.own l ts.length,aF.set τ (l.length+1),ts++[l.length]) else (.pv (.az l),aF,ts):=rfl
theorem Cs{aF ts:aD}{l:List PV}:bp aF ts (.di l)=(.own l ts.length,aF,ts++[l.length]):=rfl
theorem vt{aF ts:aD}{p:PV}:bp aF ts (.pv p)=(.pv p,aF,ts):=rfl
def xZ(aF ts:aD)(p:List AV):Bool→AV×aD×aD
 |true=>(.agg p,aF,ts)
 |false=>(.agg (cg aF ts p).1,(cg aF ts p).2.1,(cg aF ts p).2.2)
theorem Ct{aF ts:aD}{p:List AV}:bp aF ts (.agg p)=xZ aF ts p (bm.dI p):=by
 simp only[bp];cases bm.dI p<;>rfl
theorem vu{aF ts:aD}{p:List AV}:xZ aF ts p true=(.agg p,aF,ts):=rfl
theorem sM{aF ts:aD}{p:List AV}:xZ aF ts p false=(.agg (cg aF ts p).1,(cg aF ts p).2.1,(cg aF ts p).2.2):=rfl
theorem x7{aF ts:aD}:cg aF ts []=([],aF,ts):=rfl
theorem vv{aF ts:aD}{v:AV}{r:List AV}:cg aF ts (v::r)=((dK aF ts v).1::(cg (dK aF ts v).2.1 (dK aF ts v).2.2 r).1,(cg (dK aF ts v).2.1 (dK aF ts v).2.2 r).2):=rfl
theorem Cu{aF ts:aD}{l:List PV}{τ:Nat}:dK aF ts (.own l τ)=if aF[τ]?=some l.length then (.own l ts.length,aF.set τ (l.length+1),ts++[l.length]) else (.pv (.az l),aF,ts):=rfl
theorem ER{aF ts:aD}{p:PV}:dK aF ts (.pv p)=(.pv p,aF,ts):=rfl
theorem x8{aF ts:aD}{a b c:Nat}{d:Bool}:dK aF ts (.aM a b c d)=(.aM a b c d,aF,ts):=rfl
theorem x9{aF ts:aD}{a b:Nat}:bp aF ts (.aK a b)=(.aK a b,aF,ts):=rfl
theorem x_{aF ts:aD}{a b:Nat}:bp aF ts (.a_ a b)=(.a_ a b,aF,ts):=rfl
theorem ya{aF ts:aD}{a b c:Nat}{d:Bool}:bp aF ts (.aM a b c d)=(.aM a b c d,aF,ts):=rfl
theorem ES{aF ts:aD}{a:Nat}{c:List AV}:bp aF ts (.fn a c)=(.fn a c,aF,ts):=rfl
theorem yd{s:Nat}{aF ts:aD}:bp aF ts (.iA s)=((.iA s),aF,ts):=rfl
theorem ye{s:List (PV×PV)}{aF ts:aD}:bp aF ts (.eE s)=((.eE s),aF,ts):=rfl
theorem HL{env:List (Nat×AV)}{mem:List (Nat×List AV)}:norm ⟨env,mem,sh,aa⟩ =
   { env:=(cP aa [] env).1,
     mem:=(ef (cP aa [] env).2.1 (cP aa [] env).2.2 mem).1,
     sh:=(aW (ef (cP aa [] env).2.1 (cP aa [] env).2.2 mem).2.1 (ef (cP aa [] env).2.1 (cP aa [] env).2.2 mem).2.2 sh).1,
     aa:=(aW (ef (cP aa [] env).2.1 (cP aa [] env).2.2 mem).2.1 (ef (cP aa [] env).2.1 (cP aa [] env).2.2 mem).2.2 sh).2.2 }:=rfl
theorem vw{live:List Nat}{env:List (Nat×AV)}{mem:List (Nat×List AV)}:restrict live ⟨env,mem,sh,aa⟩=⟨bn live env live,bq mem live,sh,aa⟩:=rfl
def I5(live:List Nat)(t:Nat)(rest:List (Nat×AV)):Option AV→List (Nat×AV)
 |some v=>if dC live v=true then (t,v)::rest else rest
 |none=>rest
theorem yf{live:List Nat}{t:Nat}{rest:List (Nat×AV)}{v:AV}:I5 live t rest (some v)=if dC live v=true then (t,v)::rest else rest:=rfl
theorem nY{live:List Nat}{env:List (Nat×AV)}:bn live env []=[]:=rfl
theorem mK{live:List Nat}{env:List (Nat×AV)}{t:Nat}{r:List Nat}:bn live env (t::r)=I5 live t (bn live env r) (look env t):=by
 show (match look env t with|some v=>_|none=>_)=_;cases look env t<;>rfl
def ET(t:Nat)(rest:List (Nat×List AV)):Option (List AV)→List (Nat×List AV)
 |some v=>(t,v)::rest
 |none=>rest
theorem yg{t:Nat}{rest:List (Nat×List AV)}{v:List AV}:ET t rest (some v)=(t,v)::rest:=rfl
theorem yh{t:Nat}{rest:List (Nat×List AV)}:ET t rest none=rest:=rfl
theorem nZ{mem:List (Nat×List AV)}:bq mem []=[]:=rfl
theorem mL{mem:List (Nat×List AV)}{t:Nat}{r:List Nat}:bq mem (t::r)=ET t (bq mem r) (look mem t):=by
 show (match look mem t with|some v=>_|none=>_)=_;cases look mem t<;>rfl
theorem yi{live:List Nat}{d o:Nat}:dC live (.aK d o)=live.contains d:=rfl
theorem Cv{live:List Nat}{l:List PV}{τ:Nat}:dC live (.own l τ)=true:=rfl
theorem EU{live:List Nat}{p:PV}:dC live (.pv p)=true:=rfl
theorem Cx{live:List Nat}{l:List PV}:dC live (.di l)=true:=rfl
theorem yj:ew []=true:=rfl
theorem vz{v:AV}{r:List AV}:ew (v::r)=(h_ v && ew r):=rfl
theorem EV{p:PV}:h_ (.pv p)=true:=rfl
theorem Cy{l:List PV}:h_ (.di l)=true:=rfl
theorem yk{live:List Nat}{a b:Nat}:dC live (.a_ a b)=true:=rfl
theorem yl{live:List Nat}{a b c:Nat}{d:Bool}:dC live (.aM a b c d)=true:=rfl
theorem EW{live:List Nat}{a:Nat}{c:List AV}:dC live (.fn a c)=bm.dI c:=rfl
theorem ym{s:Nat}{live:List Nat}:dC live (.iA s)=true:=rfl
theorem look_nil{α:Type}{t:Nat}:look ([]:List (Nat×α)) t=none:=rfl
theorem Cz{α:Type}{k t:Nat}{v:α}{r:List (Nat×α)}:look ((k,v)::r) t=if k=t then some v else look r t:=rfl
theorem EX{α:Type}{t:Nat}{v:α}:cJ ([]:List (Nat×α)) t v=[(t,v)]:=rfl
theorem CA{α:Type}{k t:Nat}{v u:α}{r:List (Nat×α)}:cJ ((k,v)::r) t u=if k=t then (k,u)::r else (k,v)::cJ r t u:=rfl
theorem CB{env:List (Nat×AV)}{d:Nat}{v:AV}:eA env (some d) v=cJ env d v:=rfl
theorem CC{env:List (Nat×AV)}{v:AV}:eA env none v=env:=rfl
theorem CD{mem:List (Nat×List AV)}{k:Nat}{cs:List AV}:eb mem (some k) (some cs)=cJ mem k cs:=rfl
theorem eo{mem:List (Nat×List AV)}{o:Option (List AV)}:eb mem none o=mem:=rfl
theorem yn{mem:List (Nat×List AV)}{k:Nat}:eb mem (some k) none=mem:=rfl
theorem sN{i:Nat}:bK i []=[]:=rfl
theorem qC{i:Nat}{v:AV}{r:List AV}:bK i (v::r)=(i,v)::bK (i+1) r:=rfl
theorem yo{cs:List AV}:aV (.agg cs)=cs:=rfl
theorem vA{cs:List PV}:aV (.pv (.agg cs))=cs.map .pv:=rfl
theorem vB{b:Bool}:aV (.pv (.bool b))=[.pv (.bool b)]:=rfl
theorem yp{k:IntKind}{n:Int}:aV (.pv (.int k n))=[.pv (.int k n)]:=rfl
theorem yq{s:List UInt8}:aV (.pv (.str s))=[.pv (.str s)]:=rfl
theorem yr{l:List PV}:aV (.pv (.az l))=[.pv (.az l)]:=rfl
theorem yt{l:List PV}:aV (.di l)=[.di l]:=rfl
theorem yu{l:List PV}{τ:Nat}:aV (.own l τ)=[.own l τ]:=rfl
theorem vD{a b c:Nat}{d:Bool}:aV (.aM a b c d)=[.aM a b c d]:=rfl
theorem yv{cs:List PV}:aS (.agg cs)=cs:=rfl
theorem yw{k:IntKind}{n:Int}:aS (.int k n)=[.int k n]:=rfl
theorem yx{s:List UInt8}:aS (.str s)=[.str s]:=rfl
theorem yy{l:List PV}:aS (.az l)=[.az l]:=rfl
theorem yz{b:Bool}:aP (.pv (.bool b))=true:=rfl
theorem CE{k:IntKind}{n:Int}:aP (.pv (.int k n))=true:=rfl
theorem CF{s:List UInt8}:aP (.pv (.str s))=true:=rfl
theorem CG{l:List PV}:aP (.pv (.az l))=true:=rfl
theorem CH{l:List PV}:aP (.di l)=true:=rfl
theorem CI{l:List PV}{τ:Nat}:aP (.own l τ)=true:=rfl
theorem yA{a b c:Nat}{d:Bool}:aP (.aM a b c d)=true:=rfl
theorem EY{v:AV}:cx v=aP v:=rfl
theorem yB{a b:Nat}:bA (.a_ a b)=true:=rfl
theorem CJ:bA.gr []=true:=rfl
theorem yC{v:AV}{r:List AV}:bA.gr (v::r)=(bA v && bA.gr r):=rfl
theorem CL{l:List PV}{τ:Nat}:bu (.own l τ)=true:=rfl
theorem EZ{p:PV}:bu (.pv p)=true:=rfl
theorem CM{l:List PV}:bu (.di l)=true:=rfl
theorem yD{a b:Nat}:bu (.a_ a b)=true:=rfl
theorem yE{a b c:Nat}{d:Bool}:bu (.aM a b c d)=true:=rfl
theorem E_{a:Nat}{c:List AV}:bu (.fn a c)=bA.gr c:=rfl
theorem CN{c:List AV}:bu (.agg c)=ee c:=rfl
theorem yF:ee []=true:=rfl
theorem vE{v:AV}{r:List AV}:ee (v::r)=(iE v && ee r):=rfl
theorem CO{l:List PV}{τ:Nat}:iE (.own l τ)=true:=rfl
theorem Fa{p:PV}:iE (.pv p)=true:=rfl
theorem CP{l:List PV}:iE (.di l)=true:=rfl
theorem yG{a b c:Nat}{d:Bool}:iE (.aM a b c d)=true:=rfl
theorem CQ:bm.dI []=true:=rfl
theorem yH{v:AV}{r:List AV}:bm.dI (v::r)=(bm v && bm.dI r):=rfl
theorem Fb{p:PV}:bm (.pv p)=true:=rfl
theorem CR{l:List PV}:bm (.di l)=true:=rfl
theorem CS{l:List PV}{τ:Nat}:bm (.own l τ)=false:=rfl
theorem yI{a b:Nat}:bm (.a_ a b)=true:=rfl
theorem yJ{a b c:Nat}{d:Bool}:bm (.aM a b c d)=true:=rfl
theorem CT{n:Nat}{p:PV}:aG n (.pv p)=true:=rfl
theorem yK{n:Nat}{l:List PV}:aG n (.di l)=true:=rfl
theorem yL{n:Nat}{l:List PV}{τ:Nat}:aG n (.own l τ)=true:=rfl
theorem vF{n a b:Nat}:aG n (.a_ a b)=decide (a<n):=rfl
theorem vG{n a b c:Nat}{d:Bool}:aG n (.aM a b c d)=decide (a<n):=rfl
theorem yM{n:Nat}{c:List AV}:aG n (.agg c)=aG.cf n c:=rfl
theorem vH{n:Nat}:aG.cf n []=true:=rfl
theorem sO{n:Nat}{v:AV}{r:List AV}:aG.cf n (v::r)=(aG n v && aG.cf n r):=rfl
theorem yN{n τ:Nat}{l:List PV}:cM n (.own l τ)=.own l (τ+n):=rfl
theorem re{n:Nat}{p:PV}:cM n (.pv p)=.pv p:=rfl
def sP(n:Nat)(p:List AV):Bool→AV
 |true=>.agg p
 |false=>.agg (p.map (gl n))
theorem yO{n:Nat}{p:List AV}:cM n (.agg p)=sP n p (bm.dI p):=by
 simp only[cM];cases bm.dI p<;>rfl
theorem sQ{n:Nat}{p:List AV}:sP n p true=.agg p:=rfl
theorem qD{n:Nat}{p:List AV}:sP n p false=.agg (p.map (gl n)):=rfl
theorem yP{n τ:Nat}{l:List PV}:gl n (.own l τ)=.own l (τ+n):=rfl
theorem CU{n:Nat}{p:PV}:gl n (.pv p)=.pv p:=rfl
theorem vJ{n a b c:Nat}{d:Bool}:gl n (.aM a b c d)=.aM a b c d:=rfl
theorem vK{n a b:Nat}:cM n (.a_ a b)=.a_ a b:=rfl
theorem vL{n a b c:Nat}{d:Bool}:cM n (.aM a b c d)=.aM a b c d:=rfl
theorem yQ{n:Nat}:dS n []=[]:=rfl
theorem nG{n:Nat}{r:Sh}:dS n (none::r)=none::dS n r:=rfl
theorem nH{n:Nat}{cs:List AV}{r:Sh}:dS n (some cs::r)=some (cs.map (cM n))::dS n r:=rfl
theorem qE{b:Bool}:bo.zeroCell (.bool b)=.pv (.bool b):=rfl
theorem sR{k:IntKind}{n:Int}:bo.zeroCell (.int k n)=.pv (.int k n):=rfl
theorem sS{s:List UInt8}:bo.zeroCell (.str s)=.pv (.str s):=rfl
theorem sT:bo.zeroCell (.az [])=.di []:=rfl
theorem vM{l:List PV}{τ:Nat}:bY (.own l τ)=[.own l τ]:=rfl
theorem yR{p:PV}:bY (.pv p)=aV (.pv p):=rfl
theorem sU{a b c:Nat}{d:Bool}:bY (.aM a b c d)=[.aM a b c d]:=rfl
def Ai(cs:List AV):Option (List PV)→List AV
 |some ps=>ps.map .pv
 |none=>cs
theorem vN{cs:List AV}:bY (.agg cs)=Ai cs (bJ [] cs):=by
 show (match iC [] (.agg cs) with|some p=>aV (.pv p)|none=>aV (.agg cs))=_;have h:iC [] (.agg cs)=(bJ [] cs).map .agg:=rfl;unfold Ai;rw[h];cases bJ [] cs<;>rfl
theorem yS{cs:List AV}{ps:List PV}:Ai cs (some ps)=ps.map .pv:=rfl
theorem yT{cs:List AV}:Ai cs none=cs:=rfl
theorem LC{o:Hi}:AK.key (.v o)=none:=rfl
theorem CV{k o s:Nat}{a:Bool}:AK.key (.b_ k o s a)=some k:=rfl
theorem yU{k o s:Nat}:AK.key (.bB k o s)=some k:=rfl
theorem CW{k:Nat}{z:List PV}:AK.key (.alloc k z)=some k:=rfl
theorem HM{k s:Nat}:AK.key (.box k s)=some k:=rfl
theorem CX{s:Nat}{a:Bool}:AK.key (.dH s a)=none:=rfl
theorem yV{s:Nat}:AK.key (.eX s)=none:=rfl
theorem Fe{s:Nat}:AK.key (.mr s)=none:=rfl
theorem yW{s:List PV}:AK.key (.gG s)=none:=rfl
theorem CY{s b:Nat}{a:Bool}{z:List PV}:AK.key (.iB s b a z)=none:=rfl
theorem vO{s b:Nat}{ag:Bool}:AK.key (.cW s b ag)=none:=rfl
theorem yX{s b:Nat}:AK.key (.append s b)=none:=rfl
theorem CZ{g:Nat}:AK.key (.aL g)=none:=rfl
theorem yY{g:Nat}:AK.key (.d3 g)=none:=rfl
theorem C0{g:Nat}{o:List Nat}:AK.key (.bG g o)=none:=rfl
theorem C4{sz bytes:Nat}:(AK.clone sz bytes).key=none:=rfl
theorem C5:AK.key .et=none:=rfl
theorem bind_none{f:Nat→Option (List AV)}:(none:Option Nat).bind f=none:=rfl
theorem bind_some{f:Nat→Option (List AV)}{n:Nat}:(some n).bind f=f n:=rfl
theorem yZ{sz off:Nat}{cs:List AV}:bN true sz cs off=if off+sz≤cs.length then some (.agg ((cs.drop off).take sz)) else none:=rfl
theorem vP{off:Nat}{cs:List AV}:bN false 1 cs off=if off+1≤cs.length then cs[off]? else none:=rfl
theorem vQ{sz:Nat}{cs:List PV}:cy true sz cs=if sz≤cs.length then some (.pv (.agg (cs.take sz))) else none:=rfl
theorem sV{c:PV}{cs:List PV}:cy false 1 (c::cs)=some (.pv c):=by simp[cy]
theorem eR{cs vs:List AV}{off:Nat}:aQ cs off vs=cs.take off++vs++cs.drop (off+vs.length):=rfl
theorem J_{x:AV}:bo .mv [x]=some x:=rfl
theorem Ff{c:Bool}{a b:AV}:bo .pick [.pv (.bool c),a,b]=if c=true then some a else some b:=by cases c<;>rfl
theorem HN{i:Nat}{vs:List AV}:bo (.ext i) [.m8 vs]=vs[i]?:=rfl
theorem y1{off d o:Nat}:bo (.fQ off) [.aK d o]=some (.aK d (o+off)):=rfl
theorem y3{off d o:Nat}:bo (.fQ off) [.a_ d o]=some (.a_ d (o+off)):=rfl
theorem y4{off:Nat}{cs:List PV}:bo (.fQ off) [.eD cs]=some (.eD (cs.drop off)):=rfl
def Fg(sz:Nat):Option PV→Option AV
 |some el=>if (aS el).length=sz then some (.eD (aS el)) else none
 |none=>none
theorem vR{sz:Nat}{el:PV}:Fg sz (some el)=if (aS el).length=sz then some (.eD (aS el)) else none:=rfl
theorem C6{sz:Nat}{l:List PV}{k:IntKind}{i:Int}:bo (.ep sz) [.pv (.az l),.pv (.int k i)]=if i<0 then none else Fg sz l[i.toNat]?:=by
 show (if i<0 then none else _)=_;split
 ·rfl
 ·show (match l[i.toNat]? with|some el=>_|none=>_)=_;cases l[i.toNat]?<;>rfl
theorem y5{sz b sz' n:Nat}{ag:Bool}{k:IntKind}{i:Int}:bo (.ep sz) [.aM b sz' n ag,.pv (.int k i)]=if i<0 then none else if sz=sz'∧i.toNat<n then some (.a_ b (i.toNat*sz)) else none:=rfl
def I6:Option UInt8→Option AV
 |some b=>some (.pv (.int .u8 b.toNat))
 |none=>none
theorem y6{b:UInt8}:I6 (some b)=some (.pv (.int .u8 b.toNat)):=rfl
theorem C7{s:List UInt8}{k:IntKind}{i:Int}:bo .index [.pv (.str s),.pv (.int k i)]=if i<0 then none else I6 s[i.toNat]?:=by
 show (if i<0 then none else _)=_;cases s[i.toNat]?<;>rfl
def LD:Option (List AV)→Option AV
 |some cs=>some (.agg cs)
 |none=>none
theorem C8{cs:List AV}:LD (some cs)=some (.agg cs):=rfl
theorem C9{zero:List PV}{places:List (Nat×Nat)}:bo (.build zero places) vals=LD (jn (zero.map bo.zeroCell) places vals):=by
 show (jn _ _ _).map _=_;cases jn (zero.map bo.zeroCell) places vals<;>rfl
theorem C_{cs:List AV}:jn cs [] []=some cs:=rfl
theorem y7{cs:List AV}{off sz:Nat}{ps:List (Nat×Nat)}{v:AV}{vs:List AV}:jn cs ((off,sz)::ps) (v::vs) =
   if (aV v).length=sz∧off+sz≤cs.length∧(aV v).all aP=true then jn (aQ cs off (aV v)) ps vs else none:=rfl
def LF(sz:Nat):Option (List PV)→Option AV
 |some els=>if els.all (fun e=>(aS e).length == sz) then some (.di els) else none
 |none=>none
theorem C'{sz:Nat}{els:List PV}:LF sz (some els)=if els.all (fun e=>(aS e).length == sz) then some (.di els) else none:=rfl
theorem y8{sz:Nat}:bo (.ev sz) vals=LF sz (cL [] vals):=by
 show (cL [] vals).bind _=_;cases cL [] vals<;>rfl
theorem Da{sz:Nat}{ag:Bool}{cs:List PV}:bo (.eW sz ag) [.eD cs]=cy ag sz cs:=rfl
theorem HO{l:List PV}:bo .len [.pv (.az l)]=some (.pv (.int .i64 l.length)):=rfl
theorem Fh{l:List PV}:bo .len [.di l]=some (.pv (.int .i64 l.length)):=rfl
theorem Fi{l:List PV}{τ:Nat}:bo .len [.own l τ]=some (.pv (.int .i64 l.length)):=rfl
theorem Fj{a b n:Nat}{d:Bool}:bo .len [.aM a b n d]=some (.pv (.int .i64 n)):=rfl
theorem Fk{s:List UInt8}:bo .wT [.pv (.str s)]=some (.pv (.int .i64 s.length)):=rfl
theorem Fl{a b:Nat}:bo .mq [.a_ a b]=some (.a_ a b):=rfl
theorem J'{k k':IntKind}{x y:Int}:bo .mn [.pv (.int k x),.pv (.int k' y)]=if k=k' then some (.pv (.int k (if y<x then y else x))) else none:=rfl
theorem Ka{k k':IntKind}{x y:Int}:bo .mx [.pv (.int k x),.pv (.int k' y)]=if k=k' then some (.pv (.int k (if y > x then y else x))) else none:=rfl
theorem Fm{g:Nat}:bo (.AR g) vals=some (.fn g vals):=by cases vals<;>rfl
theorem Fo{k k':IntKind}{n:Int}:bo (.conv k) [.pv (.int k' n)]=some (.pv (.int k (k.wrap n))):=rfl
theorem HP{b:Bool}:bo (.un .not) [.pv (.bool b)]=some (.pv (.bool !b)):=rfl
theorem HQ{a b:Bool}:bo (.beq true) [.pv (.bool a),.pv (.bool b)]=some (.pv (.bool !(a == b))):=rfl
theorem HR{k:IntKind}{a b:Int}:bo (.bin .add) [.pv (.int k a),.pv (.int k b)]=some (.pv (.int k (k.wrap (a+b)))):=by simp[bo,cq]
theorem HS{k:IntKind}{a b:Int}:bo (.bin .sub) [.pv (.int k a),.pv (.int k b)]=some (.pv (.int k (k.wrap (a-b)))):=by simp[bo,cq]
theorem HT{k:IntKind}{a b:Int}:bo (.bin .quo) [.pv (.int k a),.pv (.int k b)]=if b=0 then none else some (.pv (.int k (k.wrap (a.tdiv b)))):=by simp[bo,cq]
theorem HU{k:IntKind}{a b:Int}:bo (.bin .rem) [.pv (.int k a),.pv (.int k b)]=if b=0 then none else some (.pv (.int k (a.tmod b))):=by simp[bo,cq]
theorem HV{k:IntKind}{a b:Int}:bo (.bin .eql) [.pv (.int k a),.pv (.int k b)]=some (.pv (.bool (a == b))):=by simp[bo,cq]
theorem HW{k:IntKind}{a b:Int}:bo (.bin .neq) [.pv (.int k a),.pv (.int k b)]=some (.pv (.bool (a != b))):=by simp[bo,cq]
theorem HX{k:IntKind}{a b:Int}:bo (.bin .lss) [.pv (.int k a),.pv (.int k b)]=some (.pv (.bool (decide (a<b)))):=by simp[bo,cq]
theorem HY{k:IntKind}{a b:Int}:bo (.bin .leq) [.pv (.int k a),.pv (.int k b)]=some (.pv (.bool (decide (a≤b)))):=by simp[bo,cq]
theorem HZ{k:IntKind}{a b:Int}:bo (.bin .gtr) [.pv (.int k a),.pv (.int k b)]=some (.pv (.bool (decide (a > b)))):=by simp[bo,cq]
theorem H0{k:IntKind}{a b:Int}:bo (.bin .geq) [.pv (.int k a),.pv (.int k b)]=some (.pv (.bool (decide (a≥b)))):=by simp[bo,cq]
theorem dG{a b:List UInt8}:bo (.bin .add) [.pv (.str a),.pv (.str b)]=if a.length+b.length≤9223372036854775807 then some (.pv (.str (a++b))) else none:=rfl
theorem Fp{a b:List UInt8}:bo (.bin .eql) [.pv (.str a),.pv (.str b)]=some (.pv (.bool (a == b))):=rfl
theorem Fq{a b:List UInt8}:bo (.bin .neq) [.pv (.str a),.pv (.str b)]=some (.pv (.bool (!(a == b)))):=rfl
theorem Fs{a b:List UInt8}:bo (.bin .lss) [.pv (.str a),.pv (.str b)]=some (.pv (.bool (cq.dF a b))):=rfl
theorem Ft{a b:List UInt8}:bo (.bin .gtr) [.pv (.str a),.pv (.str b)]=some (.pv (.bool (!(cq.dF a b || a == b)))):=rfl
theorem Db{sz:Nat}{lo hi mx:Bool}{x:AV}{rest:List AV}:bo (.slice false sz lo hi mx) (x::rest)=bH false sz lo hi mx (x::rest):=rfl
theorem y9{sz:Nat}{lo hi mx:Bool}{x:AV}{rest:List AV}:bo (.slice true sz lo hi mx) (x::rest)=bH true sz lo hi mx (x::rest):=rfl
def kY(aR ks:Bool)(sh0 sh:Sh)(aa:aD):Option (List AV)→Option (List AV×Sh×aD)
 |some vs=>if (bV aR ks sh vs).all bu=true then
     some ((cC aa (bV aR ks sh vs) (if (bV aR ks sh vs).all (aG sh0.length)=true then (d6 aR ks sh vs).take sh0.length else d6 aR ks sh vs)).1,
       (cC aa (bV aR ks sh vs) (if (bV aR ks sh vs).all (aG sh0.length)=true then (d6 aR ks sh vs).take sh0.length else d6 aR ks sh vs)).2.1,
       (cC aa (bV aR ks sh vs) (if (bV aR ks sh vs).all (aG sh0.length)=true then (d6 aR ks sh vs).take sh0.length else d6 aR ks sh vs)).2.2.2) else none
 |none=>none
theorem vS{aR ks:Bool}{sh0:Sh}{vs:List AV}:kY aR ks sh0 sh aa (some vs)=if (bV aR ks sh vs).all bu=true then
     some ((cC aa (bV aR ks sh vs) (if (bV aR ks sh vs).all (aG sh0.length)=true then (d6 aR ks sh vs).take sh0.length else d6 aR ks sh vs)).1,
       (cC aa (bV aR ks sh vs) (if (bV aR ks sh vs).all (aG sh0.length)=true then (d6 aR ks sh vs).take sh0.length else d6 aR ks sh vs)).2.1,
       (cC aa (bV aR ks sh vs) (if (bV aR ks sh vs).all (aG sh0.length)=true then (d6 aR ks sh vs).take sh0.length else d6 aR ks sh vs)).2.2.2) else none:=rfl
def fin(aR ks:Bool)(rs:List mu)(sh0:Sh):Option (aU×St)→Option (List AV×Sh×aD)
 |some (.ret,st)=>kY aR ks sh0 st.sh st.aa (dL st rs)
 |some (.normal,st)=>kY aR ks sh0 st.sh st.aa (dL st rs)
 |_=>none
theorem H3{aR ks:Bool}{rs:List mu}{sh0:Sh}{st:St}:fin aR ks rs sh0 (some (.ret,st))=kY aR ks sh0 st.sh st.aa (dL st rs):=rfl
theorem y_{aR ks:Bool}{rs:List mu}{sh0:Sh}{st:St}:fin aR ks rs sh0 (some (.normal,st))=kY aR ks sh0 st.sh st.aa (dL st rs):=rfl
theorem H4{aR ks:Bool}{rs:List mu}{sh0:Sh}{c:Prop}[Decidable c]{x y:Option (aU×St)}:fin aR ks rs sh0 (if c then x else y)=if c then fin aR ks rs sh0 x else fin aR ks rs sh0 y:=by split<;>rfl
theorem rf{aR:Bool}{af:aA}{sh0:Sh}{r:Option (aU×St)}:finish aR af sh0 r=fin aR af.ks af.results sh0 r:=by
 cases r with
 |none=>rfl
 |some q=>
   obtain⟨e,st⟩:=q;cases e with
   |ret=>simp only[finish,fin];cases dL st af.results<;>simp[kY]
   |normal=>simp only[finish,fin];cases dL st af.results<;>simp[kY]
   |exit id=>simp[finish,fin]
theorem za{st:St}:dL st []=some []:=rfl
theorem vT{st:St}{r:mu}{rs:List mu}:dL st (r::rs)=pI (m_ st r) (dL st rs):=by
 simp only[dL];cases m_ st r<;>cases dL st rs<;>rfl
theorem H5{st:St}{n:Nat}:m_ st (.t n)=look st.env n:=rfl
def lU(key sz:Nat)(ag:Bool)(mem:List (Nat×List AV))(sh:Sh):Option AV→Option AV
 |some (.aK d 0)=>sW key d sz ag (look mem key)
 |some (.a_ s 0)=>sG ag sz 0 sh[s]?
 |_=>none
where sW (key d sz:Nat) (ag:Bool):Option (List AV)→Option AV
 |some cs=>if d=key then bN ag sz cs 0 else none
 |none=>none
theorem H6{st:St}{key sz:Nat}{ag:Bool}:m_ st (.c key sz ag)=lU key sz ag st.mem st.sh (look st.env key):=by
 simp only[m_];unfold lU;split
 ·rename_i h;rw[h];rfl
 ·rename_i h;rw[h];rfl
 · rename_i h1 h2;split
   ·rename_i d e;exact absurd e (h1 d)
   ·rename_i s e;exact absurd e (h2 s)
   ·rfl
theorem sX{key sz d:Nat}{ag:Bool}{mem:List (Nat×List AV)}:lU key sz ag mem sh (some (.aK d 0))=lU.sW key d sz ag (look mem key):=rfl
theorem sY{key sz d:Nat}{ag:Bool}{cs:List AV}:lU.sW key d sz ag (some cs)=if d=key then bN ag sz cs 0 else none:=rfl
theorem sZ{vs:List AV}{ks:Bool}:bV false ks sh vs=vs.map (oO sh):=rfl
theorem vU{vs:List AV}:bV true false sh vs=vs.map (tZ sh):=rfl
theorem Dc{vs:List AV}:bV true true sh vs=vs:=rfl
theorem vV{vs:List AV}{ks:Bool}:d6 false ks sh vs=cd sh vs:=rfl
theorem zc{vs:List AV}:d6 true false sh vs=cd sh vs:=rfl
theorem Fu{vs:List AV}:d6 true true sh vs=sh:=rfl
def LG(v:AV):Option PV→AV
 |some p=>.pv p
 |none=>v
theorem Dd{v:AV}{p:PV}:LG v (some p)=.pv p:=rfl
theorem Fv{v:AV}:oO sh v=LG v (iC sh v):=rfl
theorem Fw{l:List PV}{τ:Nat}:tZ sh (.own l τ)=.own l τ:=rfl
theorem Fx{cs:List AV}:tZ sh (.agg cs)=.agg (cs.map (oP sh)):=rfl
theorem H7{p:PV}:tZ sh (.pv p)=.pv p:=rfl
theorem De{a b:Nat}:tZ sh (.a_ a b)=.a_ a b:=rfl
theorem Fy{l:List PV}:oP sh (.di l)=.di l:=rfl
theorem Fz{l:List PV}{τ:Nat}:oP sh (.own l τ)=.pv (.az l):=rfl
theorem Df{b:Bool}:oP sh (.pv (.bool b))=.pv (.bool b):=rfl
theorem FA{k:IntKind}{n:Int}:oP sh (.pv (.int k n))=.pv (.int k n):=rfl
theorem FB{s:List UInt8}:oP sh (.pv (.str s))=.pv (.str s):=rfl
theorem FC{l:List PV}:oP sh (.pv (.az l))=.pv (.az l):=rfl
theorem zd{vs:List AV}:cd sh vs=kill sh (vs.flatMap dJ):=rfl
theorem FD:kill sh []=sh:=rfl
theorem Dg{b:Nat}{l:List Nat}:kill sh (b::l)=kill (sh.set b none) l:=rfl
theorem Dh{a b c:Nat}{d:Bool}:dJ (.aM a b c d)=[a]:=rfl
theorem oC{p:PV}:dJ (.pv p)=[]:=rfl
theorem FE{l:List PV}{τ:Nat}:dJ (.own l τ)=[]:=rfl
theorem FG{l:List PV}:dJ (.di l)=[]:=rfl
theorem Di{a b:Nat}:dJ (.a_ a b)=[]:=rfl
def rh:AV→List Nat
 | .aM b _ _ _=>[b]
 |_=>[]
theorem pM{cs:List AV}:dJ (.agg cs)=cs.flatMap rh:=by
 show cs.flatMap _=cs.flatMap rh;congr 1
theorem ze{a b c:Nat}{d:Bool}:rh (.aM a b c d)=[a]:=rfl
theorem FH{p:PV}:rh (.pv p)=[]:=rfl
theorem Dj{l:List PV}{τ:Nat}:rh (.own l τ)=[]:=rfl
theorem Dk{l:List PV}:rh (.di l)=[]:=rfl
theorem zg:eB []=some []:=rfl
theorem vW{p:PV}{r:List AV}:eB (.pv p::r)=pI (some p) (eB r):=by
 simp only[eB];cases eB r<;>rfl
def ke:Option (List AV×Sh×aD)→Option (List PV)
 |some (rs,_,_)=>eB rs
 |none=>none
theorem s4{rs:List AV}{t:aD}:ke (some (rs,sh,t))=eB rs:=rfl
theorem vX{c:Prop}[Decidable c]{x y:Option (List AV×Sh×aD)}:ke (if c then x else y)=if c then ke x else ke y:=by split<;>rfl
theorem ah{g:Nat}{af:aA}{x:List PV}(hg:AP g=some af)(h1:x.length=af.nparams)(h2:af.nparams≤af.ntmps)(hp:af.mw=none:=by rfl) :
   (aC AP).p g x=ke (fin false af.ks af.results [] (cl AP af.body ⟨bK 0 (x.map .pv),[],[],[]⟩)):=by
 rw[I3 hg hp h1 (by omega)];unfold kC ke;rw[rf];cases fin false af.ks af.results [] (cl AP af.body ⟨bK 0 (x.map .pv),[],[],[]⟩)<;>rfl
theorem aH{g:Nat}{af:aA}{x:List AV}{ts:aD}(hg:AP g=some af)(h2:x.length≤af.ntmps) :
   (aC AP).i g x sh ts=fin true af.ks af.results sh (cl AP af.body ⟨bK 0 x,[],sh,ts⟩):=by
 rw[I4 hg h2,←rf];rfl
end
attribute [simp] BJ BK BL Ek BM BN Em BO BP BQ BR BS u_ BT va xx JR JS gP BA xw HA BB Eh BC Ei BE BD BF BG HB BH Ej BI JT Bn uT Bo uU xo sB Bp xp Bq sC Bs xq Bt Bu xr sD uV xt Ee Hy Lu Hz Ef Bx By uX xu xv Bz JX fC fY gO jJ uY nF uZ lT fZ j6 ig iW BW ij qB BX BY EA B' Ca xI vh Cb kW xJ vi Cc EC ED xK dU xM vk EH Cf Cg xN EI xO Ci vm xR xS vn HF HG EJ Cj xT vp Ck xU HH J8 HI HJ Cl HK xW vq vr sL EK Cm EL EM EN EO EP Cn pJ Co pK pL Cp xX Cq xY Cr Cs vt Ct x9 x_ ya ES HL vw yf nY mK yg yh nZ mL yi Cv EU Cx yk yl EW look_nil Cz EX CA CB CC CD eo yn sN qC yo vA vB yp yq yr yt yu vD yv yw yx yy yz CE CF CG CH CI yA EY yB CJ yC CL EZ CM yD yE E_ CN CQ yH Fb CR CS yI yJ CT yK yL vF vG yM vH sO yN re yO vK vL yQ nG nH qE sR sS sT vM yR sU vN yS yT LC CV yU CW HM CX yV Fe yW CY yX CZ yY C0 C5 xL EE vj J7 EF Cd EG Ce b2sO_some bind_none bind_some yZ vP vQ sV eR J_ Ff HN y1 y3 y4 vR C6 y5 y6 C7 C8 C9 C_ y7 C' y8 Da HO Fh Fi Fj Fk Fl J' Ka Fm Fo HP HQ HR HS HT HU HV HW HX HY HZ H0 dG Fp Fq Fs Ft Db y9 vS H3 y_ H4 za vT H5 H6 sX sY sZ vU Dd Fv Fw Fx H7 De Fy Fz Df FA FB FC zd FD Dg Dh oC FE FG Di pM ze FH Dj Dk zg vW s4 vX yd ye ym HC kN BU BV C4 vu sM x7 vv Cu ER x8 yj vz EV Cy yF vE CO Fa CP yG sQ qD yP CU vJ Dc vV zc Fu B1 Eo xy iY ve Er Es B2 HD Ew B4 B5 B6 B7 B3 xA xB JQ vO B8 vf sJ sK xG vg xC iX xD xE B9 B_ xF xH JW Hv Hw JU Ec List.getElem?_cons_zero
theorem aw{n:Int}(h1:-9223372036854775808≤n)(h2:n≤9223372036854775807):IntKind.i64.wrap n=n:=by
 simp[IntKind.wrap,IntKind.bits,IntKind.signed];omega
end Go.Ab.Ev
namespace Go.Ab
open Ev
structure M1(P:Program)(ns:Names)(f sz:Nat)(ag:Bool) where
 fn:Func
 A:iy
 o0:Array Oper
 o1:Array Oper
 o2:Array Oper
 m0:Oper
 Ns:List Oper
 y:Oper
 nt:Oper
 r0:Nat
 r1:Nat
 r2:Nat
 r3:Nat
 b0:Nat
 b1:Nat
 types:Array TypeId
 tb:TypeId
 hf:P.funcs[f]?=some fn
 pN:fn.body=some (.seq (.region r0 o0 false) (.block b0 (.loop (.seq (.seq (.region r1 o1 false) (.cond (.tmp 8) .skip (.exit b0)))
   (.seq (.block b1 (.seq (.region r3 (m0::Ns++[y,nt]).toArray false) (.cond (.tmp 18) .ret .skip))) (.region r2 o2 false))))))
 fx:fn.results=#[]
 hN:fn.ntmps=19
 c0:bP (ct P ns A 19 o0) o0.toList=some [⟨some 4,none,[.t 1],.v (.eW 1 false)⟩,⟨some 5,none,[.t 4],.v .len⟩,⟨some 6,none,[.t 5,.c (.pv (.int .i64 1))],.v (.bin .sub)⟩,⟨some 3,none,[.t 6],.v .mv⟩]
 c1:bP (ct P ns A 19 o1) o1.toList=some [⟨some 7,none,[.t 3],.v .mv⟩,⟨some 8,none,[.t 7,.c (.pv (.int .i64 0))],.v (.bin .geq)⟩]
 c2:bP (ct P ns A 19 o2) o2.toList=some [⟨some 9,none,[.t 3],.v .mv⟩,⟨some 10,none,[.t 9,.c (.pv (.int .i64 1))],.v (.bin .sub)⟩,⟨some 3,none,[.t 10],.v .mv⟩]
 h0:m0.op=.move (.tmp 0)∧m0.dst=some 11∧m0.guard=none
 c3:bP (ct P ns A 19 (m0::Ns++[y,nt]).toArray) Ns=some [⟨some 12,none,[.t 3],.v .mv⟩,⟨some 13,none,[.t 1],.v (.eW 1 false)⟩,⟨some 14,none,[.t 3],.v .mv⟩,⟨some 15,none,[.t 13,.t 14],.v (.ep sz)⟩,⟨some 16,none,[.t 15],.v (.eW sz ag)⟩]
 hy:y.op=.call { callee:=.value (.tmp 11),args:=#[.tmp 12,.tmp 16],argTypes:=types }∧y.dst=some 17∧y.guard=none
 hn:nt.op=.unOp .not tb (.tmp 17)∧nt.dst=some 18∧nt.guard=none
section
variable {P:Program} {ns:Names}
theorem fE{n0:Nat}{ro:Option Nat}{n:Nat}(hB:d5 P ns){orc:dD}(horc:eQ P ns orc){A:iy}{N:Nat}{ops:Array Oper}{Q:Exit→Act→World→Prop}{rest:List Oper}:∀{l:List Oper} {as:List dr} {st st':St} {G:Gh} {a:Act} {w:World},
   bP (ct P ns A N ops) l=some as→fl (num ns) n0 N G st a w→a9 orc as st=some st' →
   (∀G' a' w',fl (num ns) n0 N G' st' a' w'→bw G w G' w'→a'.defers=a.defers→(∀t,(∀ao∈as,ao.dst≠some t)→a'.tmps[t]?=a.tmps[t]?)→wpListIn (qn ro) n P ops Q rest a' w')→wpListIn (qn ro) n P ops Q (l++rest) a w
 |[],as,st,st',G,a,w,hc,hs,hev,hq=>by
   simp[bP]at hc;subst hc;simp[a9]at hev;subst hev;exact hq G a w hs (bw.refl G w) rfl (fun _ _=>rfl)
 |o::l,as,st,st',G,a,w,hc,hs,hev,hq=>by
   simp only[bP]at hc;split at hc
   · rename_i ao aos h1 h2;simp at hc;subst hc;simp only[a9]at hev;split at hev
     ·simp at hev
     · rename_i st1 hst1;rw[List.cons_append];unfold wpListIn;have hd:ao.dst=o.dst:=by obtain⟨_,_,_,h,_⟩:=jd h1;exact h
       have hput:∀(a:Act) (v:Value) t,ao.dst≠some t→(a.put o.dst v).tmps[t]?=a.tmps[t]?:=by
         intro a v t ht;rw[hd]at ht;cases ho:o.dst with
         |none=>rfl
         |some d=>
           rw[ho]at ht;simp only[Act.put];rw[Array.getElem?_setIfInBounds_ne];intro e;exact ht (by rw[e])
       exact sy hB horc h1 hs hst1 (fun G' v w' hs' he=>fE hB horc h2 hs' hev (fun G'' a'' w'' hs'' he' hdf hk=>hq G'' a'' w'' hs'' (he.trans he') (hdf.trans (put_defers _ _ _)) (fun t ht=>by
         rw[hk t (fun ao' h=>ht ao' (by simp[h]))];exact hput a v t (ht ao (by simp)))))
   ·simp at hc
theorem ri{F:Fence}{n:Nat}{ops:Array Oper}{Q:Exit→Act→World→Prop}{rest:List Oper}{o:Oper}{x:Operand}{a:Act}{w:World}(hF:∀f,F.fn f)(ho:o.op=.move x)(hg:o.guard=none)
   (h:wpListIn F n P ops Q rest (a.put o.dst (a.eval x)) w):wpListIn F n P ops Q (o::rest) a w:=by
 unfold wpListIn;have hw:Region.wanted o (yielded ops a.tmps)=true:=by simp[Region.wanted,hg]
 rw[if_pos hw];refine⟨fun _ _=>hF _,?_⟩;rw[Oper.semAt_eq _ _ _ (by intro c e;rw[ho]at e;cases e)]
 have hr:(execOp a.eval o).run P w=.ok (.value (a.eval x)) w:=by
   obtain⟨dst,op,type,pos,after,guard⟩:=o;simp only at ho;subst ho;simp[execOp]
 rw[hr];exact h
def mM:aU→Exit
 | .normal=>.normal
 | .ret=>.ret
 | .exit id=>.exit id
end
end Go.Ab
namespace Go.Ab
open Ev
structure ga(P:Program)(ns:Names)(f sz bytes:Nat) where
 fn:Func
 A:iy
 t:TypeId
 el:TypeId
 ty:TypeId
 o0:Oper
 m:Oper
 e:Oper
 o2:Oper
 b:Oper
 m3:Oper
 ap:Oper
 A2:iy
 ag:Bool
 fi:Oper
 r0:Nat
 r1:Nat
 r2:Nat
 r3:Nat
 hf:P.funcs[f]?=some fn
 pN:fn.body=some (.seq (.region r0 #[o0] false) (.seq (.seq (.region r1 #[m,e] false) (.cond (.tmp 4) (.seq (.region r2 #[o2] false) .ret) .skip)) (.seq (.region r3 #[b,m3,ap,fi] false) .ret))):=by kernel_rfl
 fx:fn.results=#[.tmp 2]:=by kernel_rfl
 hN:fn.ntmps=8:=by kernel_rfl
 h0:o0.op=.assign (.const (.slice none 0 0))∧o0.dst=some 2∧o0.guard=none:=by refine⟨?_,?_,?_⟩<;>kernel_rfl
 h1:m.op=.move (.tmp 0)∧m.dst=some 3∧m.guard=none:=by refine⟨?_,?_,?_⟩<;>kernel_rfl
 h2:e.op=.binOp .eql t (.tmp 3) (.const (.slice none 0 0)) ty∧e.dst=some 4∧e.guard=none:=by refine⟨?_,?_,?_⟩<;>kernel_rfl
 hu:P.underlying t=some (.slice el):=by kernel_rfl
 h3:o2.op=.assign (.const (.slice none 0 0))∧o2.dst=some 2∧o2.guard=none:=by refine⟨?_,?_,?_⟩<;>kernel_rfl
 h4:br P ns A b.dst b.op=some (.v (.ev sz),[])∧b.dst=some 5∧b.guard=none:=by refine⟨?_,?_,?_⟩<;>kernel_rfl
 h5:m3.op=.move (.tmp 0)∧m3.dst=some 6∧m3.guard=none:=by refine⟨?_,?_,?_⟩<;>kernel_rfl
 h6:br P ns A ap.dst ap.op=some (.append sz bytes,[.tmp 5,.tmp 6])∧ap.dst=some 7∧ap.guard=none:=by refine⟨?_,?_,?_⟩<;>kernel_rfl
 h8:br P ns A2 ap.dst ap.op=some (.cW sz bytes ag,[.tmp 5,.tmp 6]):=by kernel_rfl
 h7:fi.op=.assign (.tmp 7)∧fi.dst=some 2∧fi.guard=none:=by refine⟨?_,?_,?_⟩<;>kernel_rfl
section
variable {P:Program} {ns:Names}
theorem eS{F:Fence}{n:Nat}{ops:Array Oper}{Q:Exit→Act→World→Prop}{rest:List Oper}{o:Oper}{x:Operand}{a:Act}{w:World}(hF:∀f,F.fn f)(ho:o.op=.assign x)(hg:o.guard=none)
   (h:wpListIn F n P ops Q rest (a.put o.dst (a.eval x)) w):wpListIn F n P ops Q (o::rest) a w:=by
 unfold wpListIn;have hw:Region.wanted o (yielded ops a.tmps)=true:=by simp[Region.wanted,hg]
 rw[if_pos hw];refine⟨fun _ _=>hF _,?_⟩;rw[Oper.semAt_eq _ _ _ (by intro c e;rw[ho]at e;cases e)]
 have hr:(execOp a.eval o).run P w=.ok (.value (a.eval x)) w:=by
   obtain⟨dst,op,type,pos,after,guard⟩:=o;simp only at ho;subst ho;simp[execOp]
 rw[hr];exact h
theorem kZ{G:Gh}{A:iy}{n:Nat}{ops:Array Oper}{Q:Exit→Act→World→Prop}{rest:List Oper}{o:Oper}{k:AK}{args:List Operand}{a:Act}{w:World}(hg:o.guard=none){orc:dD}(hc:br P ns A o.dst o.op=some (k,args))(hk:k.calls=false)
   {vals:List AV} {out:Out} {mem:List (Nat×List AV)} {sh:Sh} {aa:aD} (hkey:k.key=none) (hr:aq (num ns) G vals (args.map a.eval)) (hi:Inv (num ns) G w mem sh aa) (h:exec orc k vals none sh aa=some out)
   (hn:∀v w' G',au (num ns) G' out.val v→Inv (num ns) G' w' mem out.sh out.aa→G.le G'→bw G w G' w'→wpListIn Fence.wide n P ops Q rest (a.put o.dst v) w'):wpListIn Fence.wide n P ops Q (o::rest) a w:=by
 unfold wpListIn;have hw:Region.wanted o (yielded ops a.tmps)=true:=by simp[Region.wanted,hg]
 rw[if_pos hw];have hdef:∀c,o.op≠.defer c:=by intro c e;rw[e]at hc;simp[br]at hc
 refine ou (ro:=none) hdef ?_;obtain⟨nx,v,w',G',g1,g2,g3,g4,g5,g6⟩:=nu (orc:=orc) (mem:=mem) hc hk hr hi (by rw[hkey];exact h);have g4':Inv (num ns) G' w' mem out.sh out.aa:=by rw[hkey]at g4;exact g4
 unfold Oper.wp;rw[g1];rcases g2 with rfl|⟨rfl,rfl⟩
 ·exact hn v w' G' g3 g4' g5 g6
 ·exact hn undef w' G' g3 g4' g5 g6
theorem zh{F:Fence}{n:Nat}{ops:Array Oper}{Q:Exit→Act→World→Prop}{rest:List Oper}{o:Oper}{t el ty:TypeId}{a:Act}{w:World}{base:Option Addr}{len cap:Nat}(hF:∀f,F.fn f)
   (ho:o.op=.binOp .eql t (.tmp 3) (.const (.slice none 0 0)) ty) (hg:o.guard=none) (hu:P.underlying t=some (.slice el)) (h3:a.tmps[3]?=some (.slice base len cap))
   (h:wpListIn F n P ops Q rest (a.put o.dst (.bool base.isNone)) w):wpListIn F n P ops Q (o::rest) a w:=by
 unfold wpListIn;have hw:Region.wanted o (yielded ops a.tmps)=true:=by simp[Region.wanted,hg]
 rw[if_pos hw];refine⟨fun _ _=>hF _,?_⟩;rw[Oper.semAt_eq _ _ _ (by intro c e;rw[ho]at e;cases e)];have e3:a.eval (.tmp 3)=.slice base len cap:=by simp[Act.eval,h3]
 have ec:a.eval (.const (.slice none 0 0))=.slice none 0 0:=rfl
 have he:(Op.equal t (.slice base len cap) (.slice none 0 0)).run P w=.ok base.isNone w:=by
   have h:∀d:Nat,(Op.equalIn (d+1) t (.slice base len cap) (.slice none 0 0)).run P w=.ok base.isNone w:=fun d=>by
     cases base<;>simp[Op.equalIn,run_underlying hu]
   exact h 9999
 have hr:(execOp a.eval o).run P w=.ok (.value (.bool base.isNone)) w:=by
   obtain⟨dst,op,type,pos,after,guard⟩:=o;simp only at ho;subst ho;simp only[execOp,e3,ec];simp[eqGuard,binOp,he]
 rw[hr];exact h
theorem vY{f sz bytes:Nat}(D:ga P ns f sz bytes):D5 P ns f sz bytes:=by
 intro oc G w mem sh sh' aa toks' x y v hi hx hap;refine callsIn_wide (n:=0).1 ?_;refine callsIn_of_wp D.hf D.pN trivial ?_ rfl;rw[D.hN];have hF:∀f,Fence.wide.fn f:=fun _=>trivial
 let orc:dD:={ p:=fun _ _=>none,i:=fun _ _ _ _=>none }
 have fin:∀(a:Act) (w':World) (u:Value) (G':Gh),a.defers=[]→a.tmps[2]?=some u→au (num ns) G' y u→Inv (num ns) G' w' mem sh' toks'→G.le G'→bw G w G' w' →
     a.defers=[]∧∃v,(results D.fn a.tmps).run P w'=.ok v w'∧∃u G',Ending.returned v=.returned u∧au (num ns) G' y u∧Inv (num ns) G' w' mem sh' toks'∧G.le G'∧bw G w G' w':=by
   intro a w' u G' hd h2 r1 r2 r3 r4;refine⟨hd,u,?_,u,G',rfl,r1,r2,r3,r4⟩;simp[results,D.fx,h2]
 obtain⟨els,hels⟩:∃els,cr x=some els:=by
   cases hq:cr x with
   |none=>cases oc<;>simp[ez,bF,hq]at hap
   |some els=>exact⟨els,rfl⟩
 obtain⟨base,cap,rfl⟩:=ic hels hx;refine wpIn_seq (wpIn_region_list ?_);refine eS hF D.h0.1 D.h0.2.2 ?_;rw[D.h0.2.1];simp only[wpListIn];refine wpIn_seq (wpIn_seq (wpIn_region_list ?_));refine ri hF D.h1.1 D.h1.2.2 ?_;rw[D.h1.2.1];refine zh (base:=base) (len:=els.length) (cap:=cap) hF D.h2.1 D.h2.2.2 D.hu (by simp[Act.put,Act.eval]) ?_;rw[D.h2.2.1];simp only[wpListIn];cases base with
 |none=>
   refine wpIn_cond_true (by simp[Act.put,Act.eval]) ?_;refine wpIn_seq (wpIn_region_list ?_);refine eS hF D.h3.1 D.h3.2.2 ?_;rw[D.h3.2.1];simp only[wpListIn];refine wpIn_ret ?_
   have hn:els=[]:=by
     have:=dN hels hx;obtain⟨b,l,c,e,_,e2⟩:=bO.1 this;cases e;rcases e2.2 with h|⟨_,_,_,h,_⟩
     ·exact h
     ·cases h
   subst hn
   obtain⟨rfl,rfl,rfl⟩:AV.di []=y∧sh=sh'∧aa=toks':=by
     cases oc with
     |none=>simpa[ez,bF,hels,a0] using hap
     |some ag=>simpa[ez,nR,hels,a0] using hap
   exact fin _ _ (.slice none 0 0) G (by simp[Act.put]) (by simp[Act.put,Act.eval]) (by simp only[au];exact⟨none,0,rfl,rfl,.inl rfl⟩) hi G.le_refl (bw.refl G w)
 |some ad=>
   refine wpIn_cond_false (by simp[Act.put,Act.eval]) (wpIn_skip ?_);refine wpIn_seq (wpIn_region_list ?_);refine kZ (orc:=orc) (out:=⟨.di [],none,sh,aa⟩) D.h4.2.2 D.h4.1 rfl rfl (vals:=[]) (by simp[aq]) hi (by rfl) fun v1 w1 G1 q1 q2 q3 q4=>?_;rw[D.h4.2.1];refine ri hF D.h5.1 D.h5.2.2 ?_;rw[D.h5.2.1];cases oc with
   |none=>
     simp only[ez,Option.map_eq_some_iff,Prod.mk.injEq]at hap;obtain⟨⟨y',ts'⟩,hap,rfl,rfl,rfl⟩:=hap;refine kZ (orc:=orc) (out:=⟨y',none,sh,ts'⟩) D.h6.2.2 D.h6.1 rfl rfl (vals:=[.di [],x]) (mem:=mem) (sh:=sh) (aa:=aa) ?_ q2 (by simp only[exec,hap,Option.map_some]) fun v2 w2 G2 p1 p2 p3 p4=>?_
     · simp only[List.map_cons,List.map_nil,aq];refine⟨_,_,rfl,?_,_,_,rfl,?_,rfl⟩
       ·simpa[Act.put,Act.eval] using q1
       ·simpa[Act.put,Act.eval] using hx.mono q3
     rw[D.h6.2.1];refine eS hF D.h7.1 D.h7.2.2 ?_;rw[D.h7.2.1];simp only[wpListIn];refine wpIn_ret ?_;exact fin _ _ v2 G2 (by simp[Act.put]) (by simp[Act.put,Act.eval]) p1 p2 (Gh.le_trans q3 p3) (q4.trans p4)
   |some ag=>
     simp only[ez,hels]at hap;rw[Option.ite_none_right_eq_some]at hap;obtain⟨hhd,hap⟩:=hap;simp only[Option.map_eq_some_iff,Prod.mk.injEq]at hap;obtain⟨⟨y',sh1⟩,hap,rfl,rfl,rfl⟩:=hap
     obtain⟨y2,hap2,hsame⟩:∃y2,nR sz bytes D.ag (.di []) els sh=some (y2,sh1)∧∀G' u,au (num ns) G' y2 u→au (num ns) G' y' u:=by
       unfold nR at hap⊢;split at hap
       ·rename_i h0;rw[if_pos h0];cases hap;exact⟨_,rfl,fun _ _ h=>h⟩
       ·rename_i h0;rw[if_neg h0];simp only[Option.ite_none_right_eq_some,Option.some.injEq,Prod.mk.injEq]at hap;obtain⟨h1,rfl,rfl⟩:=hap;rw[if_pos h1];exact⟨_,rfl,fun _ _ h=>by simpa only[au] using h⟩
     refine kZ (orc:=orc) (out:=⟨y2,none,sh1,aa⟩) D.h6.2.2 D.h8 rfl rfl (vals:=[.di [],x]) (mem:=mem) (sh:=sh) (aa:=aa) ?_ q2 (by simp only[exec,hels,hhd,if_true,nS,hap2,Option.map_some]) fun v2 w2 G2 p1 p2 p3 p4=>?_
     · simp only[List.map_cons,List.map_nil,aq];refine⟨_,_,rfl,?_,_,_,rfl,?_,rfl⟩
       ·simpa[Act.put,Act.eval] using q1
       ·simpa[Act.put,Act.eval] using hx.mono q3
     rw[D.h6.2.1];refine eS hF D.h7.1 D.h7.2.2 ?_;rw[D.h7.2.1];simp only[wpListIn];refine wpIn_ret ?_;exact fin _ _ v2 G2 (by simp[Act.put]) (by simp[Act.put,Act.eval]) (hsame _ _ p1) p2 (Gh.le_trans q3 p3) (q4.trans p4)
end
end Go.Ab
namespace Go.Ab
section
variable {n0:Nat} {P:Program} {ns:Names} {ro:Option Nat}
theorem nI{c:Code}{Q:Exit→Act→World→Prop}{f:St→Option (aU×St)}{pre:St→St}{N:Nat}
   (hpre:∀{st:St} {G:Gh} {a:Act} {w:World},fl (num ns) n0 N G st a w→∃G',fl (num ns) n0 N G' (pre st) a w∧bw G w G' w)
   (hf:∀{st st':St} {e:aU} {G:Gh} {a:Act} {w:World} {Q:Exit→Act→World→Prop},f st=some (e,st')→fl (num ns) n0 N G st a w →
     (∀G' a' w',fl (num ns) n0 N G' st' a' w'→bw G w G' w'→Q (mM e) a' w')→c.wpIn (qn ro) 0 P Q a w) :
   ∀(n:Nat) {st st':St} {e:aU} {G:Gh} {a:Act} {w:World},eg f pre n st=some (e,st')→fl (num ns) n0 N G st a w →
     (∀G' a' w',fl (num ns) n0 N G' st' a' w'→bw G w G' w'→Q (mM e) a' w')→Code.roundsIn (qn ro) 0 P c Q n a w
 |0,st,st',e,G,a,w,h,_,_=>by simp[eg]at h
 |n+1,st,st',e,G,a,w,h,hs,hq=>by
   rw[roundsIn_succ];obtain⟨G0,hs0,he0⟩:=hpre hs;simp only[eg]at h;split at h
   ·rename_i st1 h1;refine hf h1 hs0 fun G' a' w' hs' he'=>?_;exact nI hpre hf n h hs' fun G'' a'' w'' hs'' he''=>hq G'' a'' w'' hs'' ((he0.trans he').trans he'')
   · rename_i r hr
     have hne:e≠.normal:=by
       rintro rfl
       exact hr st' h
     refine hf h hs0 fun G' a' w' hs' he'=>?_;have:=hq G' a' w' hs' (he0.trans he')
     cases e with
     |normal=>exact absurd rfl hne
     |ret=>exact this
     |exit id=>exact this
theorem zi{N:Nat}{v:AV}{st:St}{G:Gh}{a:Act}{w:World}(h:fl (num ns) n0 N G st a w):∃G',fl (num ns) n0 N G' (wU v st) a w∧bw G w G' w:=by
 unfold wU;split
 · rename_i st' d;split
   · rename_i cs hcs;split
     · rename_i ps hps;obtain⟨G1,k1,k2,k3,k4,k5⟩:=Inv.kill ([.agg cs].flatMap dJ) h.inv;obtain⟨b,e1,⟨e2,c,t,e3,e4⟩,e5⟩:=h.inv.cD d cs hcs;obtain⟨b',f1,⟨f2,c',t',f3,f4⟩,f5⟩:=k1.cD d cs hcs;have hb:b=b':=by have:=k2.pm d b e1;rw[f1]at this;simpa using this.symm
       subst hb;have hcc:c=c':=by rw[e3]at f3;cases f3;rfl
       subst hcc;have hrl:dk G1.K ps c.toList:=iZ k2 k4 h.inv.o_ (fun s hs=>by simpa using hs) hps e4
       have hlf:(ps.map AV.pv).all aP=true:=by
         rw[List.all_eq_true];intro x hx;rw[List.mem_map]at hx;obtain⟨p,hp,rfl⟩:=hx;have:=iH hrl p hp;cases p<;>first|rfl|simp[da]at this
       refine⟨G1,⟨⟨h.env.size,fun t' x hx=>?_⟩,?_,h.marks.na k3 rfl⟩,k3⟩
       ·obtain⟨u',g1,g2⟩:=h.env.env t' x hx;exact⟨u',g1,g2.mono k2⟩
       · refine⟨k1.known,k1.aT,k1.fresh,?_,?_,k1.cX,k1.dT,k1.cQ,k1.ed,k1.iF⟩
         · intro d' cs' hd';by_cases hdd:d=d'
           ·subst hdd;rw[bh]at hd';cases hd';exact⟨b,f1,⟨f2,c,t',f3,fU hrl⟩,hlf⟩
           ·rw[bz _ _ _ _ hdd]at hd';exact k1.cD d' cs' hd'
         · intro d' b' hd';by_cases hdd:d=d'
           ·subst hdd;rw[bh];rfl
           ·rw[bz _ _ _ _ hdd];exact k1.e7 d' b' hd'
     ·exact⟨G,h,bw.refl G w⟩
   ·exact⟨G,h,bw.refl G w⟩
 ·exact⟨G,h,bw.refl G w⟩
theorem gV{N:Nat}:∀{ts:List Nat} {st:St} {G:Gh} {a:Act} {w:World},fl (num ns) n0 N G st a w→∃G',fl (num ns) n0 N G' (ku ts st) a w∧bw G w G' w
 |[],st,G,a,w,h=>⟨G,h,bw.refl G w⟩
 |t::r,st,G,a,w,h=>by
   simp only[ku];split
   · rename_i v hv;split
     · rename_i p hp;obtain⟨G1,k1,k2,k3,k4,k5⟩:=Inv.kill ([v].flatMap dJ) h.inv;obtain⟨u,hu,hr⟩:=h.env.env t v hv;have hrel:Rel G1.K p u:=o7 k2 k4 h.inv.o_ (fun s hs=>by simpa using hs) hp hr
       have h1:fl (num ns) n0 N G1 { st with env:=cJ st.env t (.pv p),sh:=cd st.sh [v] } a w:=by
         refine⟨⟨h.env.size,fun t' x hx=>?_⟩,k1,h.marks.na k3 rfl⟩;by_cases ht:t'=t
         ·subst ht;rw[Ev.kc,if_pos rfl]at hx;cases hx;exact⟨u,hu,by simpa only[au] using hrel⟩
         ·rw[Ev.kc,if_neg ht]at hx;obtain⟨u',f1,f2⟩:=h.env.env t' x hx;exact⟨u',f1,f2.mono k2⟩
       obtain⟨G2,h2,he⟩:=gV (ts:=r) h1;exact⟨G2,h2,k3.trans he⟩
     ·obtain⟨G1,h1,e1⟩:=zi (v:=v) h;obtain⟨G2,h2,e2⟩:=gV (ts:=r) h1;exact⟨G2,h2,e1.trans e2⟩
   ·exact gV h
theorem kf{α:Type}{d:Nat}:∀{l:List (Nat×α)} {t:Nat},look (nU d l) t=if t=d then none else look l t
 |[],t=>by simp[nU,look]
 |(k,v)::r,t=>by
   simp only[nU];by_cases hk:k=d
   · rw[if_pos hk,kf];by_cases ht:t=d
     ·rw[if_pos ht,if_pos ht]
     ·rw[if_neg ht,if_neg ht];simp only[look];rw[if_neg (by rintro rfl;exact ht hk)]
   · rw[if_neg hk];simp only[look];by_cases hkt:k=t
     ·subst hkt;rw[if_pos rfl,if_neg hk,if_pos rfl]
     ·rw[if_neg hkt,if_neg hkt,kf]
theorem mN{d s sz n:Nat}{ag:Bool}{env:List (Nat×AV)}:∀{l:List Nat} {t:Nat} {x:AV},look (nT d s sz n ag env l) t=some x →
   ∃y,look env t=some y∧tY d s sz n ag y=some x
 |[],t,x,h=>by simp[nT,look]at h
 |k::r,t,x,h=>by
   simp only[nT]at h;split at h
   · rename_i v hv;simp only[look]at h;split at h
     ·rename_i e;subst e;cases h;rw[Option.bind_eq_some_iff]at hv;exact hv
     ·exact mN h
   ·exact mN h
def Gh.jv(G:Gh)(d b s n:Nat):Gh:=
 { G with role:=fun x=>if x=b then .shr s else G.role x,pm:=fun x=>if x=d then none else G.pm x,sm:=fun x=>if x=s then some (b,n) else G.sm x }
theorem vZ{ρ:bC}{G:Gh}{d b s n:Nat}(hs:G.sm s=none){x:AV}{v:Value}(hf:h_ x=true)(h:au ρ G x v):au ρ (G.jv d b s n) x v:=by
 refine qO (G':=G.jv d b s n) (aY.le_refl G.K) (fun s' b' e=>?_) (fun _ _ e=>e) hf h;simp only[Gh.jv];rw[if_neg (by rintro rfl;rw[hs]at e;cases e)];exact e
theorem v5{x:AV}(h:aP x=true):h_ x=true:=by
 rcases kQ h with hf|⟨l,τ,rfl⟩
 · cases x with
   |own l τ=>rfl
   |_=>simpa[h_] using hf
 ·rfl
theorem lV:∀{xs:List AV},xs.all aP=true→ew xs=true
 |[],_=>rfl
 |x::xs,h=>by
   simp only[List.all_cons,Bool.and_eq_true]at h;simp only[ew,Bool.and_eq_true];exact⟨v5 h.1,lV h.2⟩
theorem mO{ρ:bC}{G:Gh}{d b s n:Nat}(hs:G.sm s=none){xs:List AV}{vs:List Value}(hf:xs.all aP=true)(h:aq ρ G xs vs):aq ρ (G.jv d b s n) xs vs:=by
 refine gQ (G':=G.jv d b s n) (aY.le_refl G.K) (fun s' b' e=>?_) (fun _ _ e=>e) (lV hf) h;simp only[Gh.jv];rw[if_neg (by rintro rfl;rw[hs]at e;cases e)];exact e
theorem zj{N d sz:Nat}{ag:Bool}{st:St}{G:Gh}{a:Act}{w:World}(h:fl (num ns) n0 N G st a w):∃G',fl (num ns) n0 N G' (AS d sz ag st) a w∧bw G w G' w:=by
 unfold AS;split
 · rename_i cells hcs;split
   · rename_i hok;obtain⟨hlf,hrf⟩:=hok;obtain⟨b,e1,⟨e2,c,t,e3,e4⟩,e5⟩:=h.inv.cD d cells hcs
     have hsm:G.sm st.sh.length=none:=by
       cases hx:G.sm st.sh.length with
       |none=>rfl
       |some b'=>have:=h.inv.dT _ _ hx;omega
     have hcl:c.size=cells.length:=by have:=e4.length;simpa using this
     have hbs:b<w.heap.size:=(Array.getElem?_eq_some_iff.1 e3).1
     have hevo:bw G w (G.jv d b st.sh.length cells.length) w:=
       { size:=Nat.le_refl _,os:=rfl,tape:=rfl,output:=rfl,K:=aY.le_refl G.K
         sm:=fun s' b' e=>by
           simp only[Gh.jv];rw[if_neg (by rintro rfl;rw[hsm]at e;cases e)];exact e
         dQ:=fun b' _ hr=>⟨by
           simp only[Gh.jv];rw[if_neg (by rintro rfl;rw[e2]at hr;cases hr)];exact hr,rfl⟩
         gp:=fun b' τ _ hr=>.inr ⟨τ,by
           simp only[Gh.jv];rw[if_neg (by rintro rfl;rw[e2]at hr;cases hr)];exact hr⟩
         e8:=fun _ _ _ _ _ hk=>hk }
     have hrole:∀b' r,G.role b'=r→r≠.jw d→(G.jv d b st.sh.length cells.length).role b'=r:=by
       intro b' r hr hn;simp only[Gh.jv];rw[if_neg (by rintro rfl;rw[e2]at hr;exact hn hr.symm)];exact hr
     refine⟨G.jv d b st.sh.length cells.length,⟨⟨h.env.size,fun t' x hx=>?_⟩,?_,h.marks.na hevo rfl⟩,hevo⟩
     · obtain⟨y,hy,hv⟩:=mN hx;obtain⟨u,g1,g2⟩:=h.env.env t' y hy;refine⟨u,g1,?_⟩
       have aR:dC [] y=true→x=y→au (num ns) (G.jv d b st.sh.length cells.length) x u:=by
         rintro hk rfl
         cases x with
         |own l τ=>exact vZ hsm rfl g2
         |agg cs=>
           simp only[au]at g2⊢;obtain⟨vs,q1,q2⟩:=g2;refine⟨vs,q1,gQ (G':=G.jv d b st.sh.length cells.length) (aY.le_refl G.K) (fun s' b' e=>hevo.sm s' b' e) (fun _ _ e=>e) (by simpa[dC] using hk) q2⟩
         |aK _ _=>simp[dC]at hk
         |g_ _ _=>simp[dC]at hk
         |_=>exact vZ hsm (by simpa[h_,dC] using hk) g2
       unfold tY at hv;split at hv
       · rename_i d' o;simp only[au]at g2;obtain⟨b',q1,q2⟩:=g2;simp only[Option.some.injEq]at hv;split at hv
         ·rename_i hd;subst hd hv;rw[e1]at q1;cases q1;simp only[au];exact⟨(b,cells.length),by simp[Gh.jv],q2⟩
         ·rename_i hd;subst hv;simp only[au];exact⟨b',by simp only[Gh.jv];rw[if_neg hd];exact q1,q2⟩
       · rename_i d' m;simp only[au]at g2;obtain⟨b',q1,q2⟩:=g2;split at hv
         ·rename_i hd;subst hd;simp only[Option.ite_none_right_eq_some,Option.some.injEq]at hv;obtain⟨hm,rfl⟩:=hv;rw[e1]at q1;cases q1;simp only[au];exact⟨(b,cells.length),0,by simp[Gh.jv],q2,hm⟩
         ·rename_i hd;simp only[Option.some.injEq]at hv;subst hv;simp only[au];exact⟨b',by simp only[Gh.jv];rw[if_neg hd];exact q1,q2⟩
       ·simp only[Option.ite_none_right_eq_some,Option.some.injEq]at hv;exact aR hv.1 hv.2.symm
     · have hi:=h.inv;refine⟨hi.known,?_,?_,?_,?_,?_,?_,?_,?_,hi.fu hevo⟩
       · intro b' o v hk;rcases hi.aT b' o v hk with hr|⟨τ,hr⟩
         ·exact .inl (hrole _ _ hr (by simp))
         ·exact .inr ⟨τ,hrole _ _ hr (by simp)⟩
       ·intro b' hb';exact hrole _ _ (hi.fresh b' hb') (by simp)
       · intro d' cs' hd';rw[kf]at hd';split at hd'
         ·cases hd'
         ·rename_i hdd;obtain⟨b',f1,⟨f2,c',t',f3,f4⟩,f5⟩:=hi.cD d' cs' hd';exact⟨b',by simp only[Gh.jv];rw[if_neg hdd];exact f1,⟨hrole _ _ f2 (by simpa using hdd),c',t',f3,mO hsm f5 f4⟩,f5⟩
       · intro d' b' hd';simp only[Gh.jv]at hd';split at hd'
         ·cases hd'
         ·rename_i hdd;rw[kf,if_neg hdd];exact hi.e7 d' b' hd'
       · intro s' cs' hs';rw[List.getElem?_append]at hs';split at hs'
         ·rename_i hlt;obtain⟨b',f1,⟨f2,o,f3,f4⟩,f5,f6⟩:=hi.cX s' cs' hs';refine⟨b',hevo.sm _ _ f1,⟨hrole _ _ f2 (by simp),o,f3,f4.to (aY.le_refl G.K) (fun _ e=>e) (fun vs r=>mO hsm (gz f5) r)⟩,f5,f6⟩
         · rename_i hlt
           have hs0:s'=st.sh.length:=by
             have:=(List.getElem?_eq_some_iff.1 hs').1;simp at this;omega
           subst hs0;simp at hs';subst hs';refine⟨(b,cells.length),by simp[Gh.jv],⟨by simp[Gh.jv],_,e3,?_⟩,hlf,hrf⟩;have:=Holds.full (t:=t) (mO (d:=d) (b:=b) (n:=cells.length) hsm (gz hlf) e4)
           rwa [hcl]at this
       · intro s' b' hs';simp only[Gh.jv]at hs';simp only[List.length_append,List.length_cons,List.length_nil];split at hs'
         ·omega
         ·have:=hi.dT s' b' hs';omega
       ·intro τ n hn;obtain⟨t',f1,f2,f3⟩:=hi.cQ τ n hn;refine⟨t',f1,f2,f3.cap,f3.zero,fun hsp=>?_⟩;obtain⟨b',o,c',ty,q1,q2,q3⟩:=f3.spare hsp;exact⟨b',o,c',ty,q1,hrole _ _ q2 (by simp),q3⟩
       ·exact hi.ed
   ·exact⟨G,h,bw.refl G w⟩
 ·exact⟨G,h,bw.refl G w⟩
theorem k_{N:Nat}:∀{ps:List (Nat×Nat×Bool)} {st:St} {G:Gh} {a:Act} {w:World},fl (num ns) n0 N G st a w→∃G',fl (num ns) n0 N G' (rR ps st) a w∧bw G w G' w
 |[],st,G,a,w,h=>⟨G,h,bw.refl G w⟩
 |(d,sz,ag)::r,st,G,a,w,h=>by
   obtain⟨G1,h1,e1⟩:=zj (d:=d) (sz:=sz) (ag:=ag) h;obtain⟨G2,h2,e2⟩:=k_ (ps:=r) h1;exact⟨G2,h2,e1.trans e2⟩
theorem kg{b b':Nat}:∀{ts:List Nat} {env:List (Nat×AV)} {t:Nat} {x:AV},look (kx b b' ts env) t=some x→look env t=some x∨∃z n ag,look env t=some (.aM b z n ag)∧x=.aM b' z n ag
 |[],env,t,x,h=>.inl h
 |u::r,env,t,x,h=>by
   simp only[kx]at h;split at h
   · rename_i s z n ag hu;split at h
     · rename_i hs;subst hs;rcases kg h with h1|⟨z',n',ag',h1,h2⟩
       · by_cases hut:u=t
         ·subst hut;rw[bh]at h1;cases h1;exact .inr ⟨z,n,ag,hu,rfl⟩
         ·rw[bz _ _ _ _ hut]at h1;exact .inl h1
       · by_cases hut:u=t
         ·subst hut;rw[bh]at h1;cases h1;exact .inr ⟨z,n,ag,hu,h2⟩
         ·rw[bz _ _ _ _ hut]at h1;exact .inr ⟨z',n',ag',h1,h2⟩
     ·exact kg h
   ·exact kg h
theorem zk{N:Nat}{ts:List Nat}{st:St}{G:Gh}{a:Act}{w:World}(h:fl (num ns) n0 N G st a w):∃G',fl (num ns) n0 N G' (wV ts st) a w∧bw G w G' w:=by
 unfold wV;split
 ·exact⟨G,h,bw.refl G w⟩
 · rename_i t r;split
   · rename_i b z n ag hb;split
     · rename_i cells hcs;split
       · obtain⟨blk,e1,_⟩:=h.inv.cX b cells hcs;obtain⟨g1,g2,g3⟩:=h.inv.fX hcs e1;refine⟨_,⟨⟨h.env.size,fun t' x hx=>?_⟩,g1,h.marks.na g3 rfl⟩,g3⟩;rcases kg hx with h1|⟨z',n',ag',h1,rfl⟩
         ·obtain⟨v,q1,q2⟩:=h.env.env t' x h1;exact⟨v,q1,q2.mono g2⟩
         ·obtain⟨v,q1,q2⟩:=h.env.env t' _ h1;refine⟨v,q1,?_⟩;simp only[au]at q2⊢;obtain⟨b',cap,f1,f2,f3⟩:=q2;rw[e1]at f1;cases f1;exact⟨blk,cap,by simp[Gh.fX],f2,f3⟩
       ·exact⟨G,h,bw.refl G w⟩
     ·exact⟨G,h,bw.refl G w⟩
   ·exact⟨G,h,bw.refl G w⟩
theorem v7:∀{ks:List Nat} {sh:Sh} {b:Nat},b∉ks→(kill sh ks)[b]?=sh[b]?
 |[],_,_,_=>rfl
 |k::ks,sh,b,h=>by
   simp only[List.mem_cons,not_or]at h;have hk:kill sh (k::ks)=kill (sh.set k none) ks:=rfl;rw[hk,v7 h.2,List.getElem?_set,if_neg (fun e=>h.1 e.symm)]
theorem fF{N:Nat}:∀{ts:List Nat} {st:St} {G:Gh} {a:Act} {w:World},fl (num ns) n0 N G st a w→∃G',fl (num ns) n0 N G' (gH ts st) a w∧bw G w G' w
 |[],st,G,a,w,h=>⟨G,h,bw.refl G w⟩
 |t::r,st,G,a,w,h=>by
   simp only[gH];split
   · rename_i b z n ag hb;split
     · rename_i cells hcs;split
       · rename_i hok;obtain⟨hmb,hself⟩:=hok;split
         · rename_i ps hps;obtain⟨G1,k1,k2,k3,k4,k5⟩:=Inv.kill ([.agg cells].flatMap dJ) h.inv;obtain⟨blk,e1,e2,e3,e4⟩:=h.inv.cX b cells hcs;obtain⟨hr,c,ty,vs,suf,hh,hcz,hsp,hrel⟩:=e2.cells hmb
           have hnb:b∉[AV.agg cells].flatMap dJ:=by
             have:¬(dJ (.agg cells)).contains b=true:=by rw[hself];simp
             simpa using this
           have hb1:(cd st.sh [.agg cells])[b]?=some (some cells):=by
             show (kill st.sh ([AV.agg cells].flatMap dJ))[b]?=_;rw[v7 hnb];exact hcs
           obtain⟨blk',f1,f2,f3,f4⟩:=k1.cX b cells hb1
           have hblk:blk'=blk:=by
             have:=k2.sm _ _ e1;rw[f1]at this;simpa using this
           subst hblk;have hrl:dk G1.K ps vs:=iZ k2 k4 h.inv.o_ (fun s hs=>by simpa using hs) hps hrel
           have hlf:(ps.map AV.pv).all cx=true:=by
             rw[List.all_eq_true];intro x hx;rw[List.mem_map]at hx;obtain⟨p,hp,rfl⟩:=hx;have:=iH hrl p hp;cases p<;>first|rfl|simp[da]at this
           have h1:fl (num ns) n0 N G1 { st with sh:=(cd st.sh [.agg cells]).set b (some (ps.map .pv)) } a w:=by
             refine⟨⟨h.env.size,fun t' x hx=>?_⟩,?_,h.marks.na k3 rfl⟩
             ·obtain⟨u',g1,g2⟩:=h.env.env t' x hx;exact⟨u',g1,g2.mono k2⟩
             · exact { k1 with
                 cX:=fun s' cs' hs'=>by
                   rw[List.getElem?_set]at hs';split at hs'
                   · rename_i he;subst he;split at hs'
                     · cases hs'
                       exact⟨blk',f1,⟨f2.role,_,hh,.inl ⟨c,ty,vs,suf,rfl,hcz,hsp,fU hrl⟩⟩,hlf,sa _ _⟩
                     ·cases hs'
                   ·exact k1.cX s' cs' hs'
                 dT:=fun s' b' hs'=>by
                   have:=k1.dT s' b' hs';simpa using this }
           obtain⟨G2,h2,he⟩:=fF (ts:=r) h1;exact⟨G2,h2,k3.trans he⟩
         ·exact fF h
       ·exact fF h
     ·exact fF h
   ·exact fF h
theorem rj{α β:Type}{f:α→Option β}:∀{l:List α} {r:List β} (k:Nat),bP f l=some r→bP f (l.take k)=some (r.take k)∧bP f (l.drop k)=some (r.drop k)
 |l,r,0,h=>by simp[bP,h]
 |[],r,k+1,h=>by simp[bP]at h;subst h;simp[bP]
 |x::l,r,k+1,h=>by
   simp only[bP]at h;split at h
   ·rename_i y ys h1 h2;cases h;obtain⟨g1,g2⟩:=rj k h2;simp only[List.take_succ_cons,List.drop_succ_cons,bP,h1,g1];exact⟨trivial,g2⟩
   ·cases h
theorem s5(hB:d5 P ns){orc:dD}(horc:eQ P ns orc){A:iy}{N id k:Nat}{q:Nat×List Nat×List Nat}{ops:Array Oper}{as:List dr}(hc:bP (ct P ns A N ops) ops.toList=some as){live:List Nat}{st st':St}{e:aU}{G:Gh}{a:Act}{w:World}
   (hs:fl (num ns) n0 N G st a w) (hev:cv orc k (wZ (some q) as live) st=some (e,st')) {Q:Exit→Act→World→Prop}
   (hq:∀G' a' w',fl (num ns) n0 N G' st' a' w'→bw G w G' w'→Q (mM e) a' w'):(Code.region id ops false).wpIn (qn ro) 0 P Q a w:=by
 obtain⟨j,l,ts⟩:=q;simp only[wZ,cv]at hev;obtain⟨g1,g2⟩:=rj j hc;cases h1:a9 orc (as.take j) st with
 |none=>rw[h1]at hev;simp at hev
 |some st1=>
   rw[h1]at hev;simp only at hev;cases h2:a9 orc (as.drop j) (wV ts (Go.Ab.restrict l st1)) with
   |none=>rw[h2]at hev;simp at hev
   |some st2=>
     rw[h2]at hev;simp only[Option.some.injEq,Prod.mk.injEq]at hev;obtain⟨rfl,rfl⟩:=hev;refine wpIn_region_list ?_;rw[←List.take_append_drop j ops.toList];refine fE hB horc g1 hs h1 fun G1 a1 w1 hs1 he1 _ _=>?_;obtain⟨G2,hs2,he2⟩:=zk (ts:=ts) (hs1.restrict l)
     have:=fE (ro:=ro) (n:=0) (rest:=[]) (Q:=Q) hB horc g2 hs2 h2 (fun G3 a3 w3 hs3 he3 _ _=>by
       unfold wpListIn;exact hq (G3.aR live) a3 w3 (hs3.restrict live) (he1.trans ((bw.aR l).trans (he2.trans (he3.trans (bw.aR live))))))
     rwa [List.append_nil]at this
theorem js{live:List Nat}{env:List (Nat×AV)}:∀{ds:List (Nat×Nat)},gm (bn live env live) ds=true→gm env ds=true
 |[],_=>rfl
 |(a,b)::r,h=>by
   simp only[gm,Bool.and_eq_true]at h⊢;refine⟨?_,js h.2⟩;obtain⟨b1,o1,b2,o2,h1,h2,hne⟩:=qS h.1;rw[(dc h1).1,(dc h2).1];simpa[apart] using hne
theorem pO{orc:dD}{k:Nat}{as:List dr}{live:List Nat}{ds:Option (List (Nat×Nat))}{ps:Option (List (Nat×Nat×Bool))}{st st':St}{e:aU}
   (h:cv orc k (behind ds ps (.gk as live)) st=some (e,st')) :
   ∃st1,a9 orc as st=some st1∧e=.normal∧gm st1.env (ds.getD [])=true∧st'=rR (ps.getD []) (restrict live st1):=by
 have h1:∀e2 st2,cv orc k (match ds with|some ds=>ae.seq (.gk as live) (.IY ds)|none=>.gk as live) st=some (e2,st2) →
     ∃st1,a9 orc as st=some st1∧e2=.normal∧gm st1.env (ds.getD [])=true∧st2=restrict live st1:=by
   intro e2 st2 h;cases ds with
   |none=>
     simp only[cv]at h;split at h
     ·rename_i st1 h1;simp at h;obtain⟨rfl,rfl⟩:=h;exact⟨st1,h1,rfl,rfl,rfl⟩
     ·simp at h
   |some ds=>
     simp only[cv]at h;cases h1:a9 orc as st with
     |none=>rw[h1]at h;simp at h
     |some st1=>
       rw[h1]at h;simp only[Option.ite_none_right_eq_some,Option.some.injEq,Prod.mk.injEq]at h;obtain⟨h2,rfl,rfl⟩:=h;exact⟨st1,rfl,rfl,js h2,rfl⟩
 unfold behind at h;cases ps with
 |none=>
   obtain⟨st1,g1,g2,g3,g4⟩:=h1 e st' h;exact⟨st1,g1,g2,g3,g4⟩
 |some ps=>
   simp only[cv]at h;split at h
   ·rename_i st2 h2;simp at h;obtain⟨st1,g1,g2,g3,rfl⟩:=h1 _ _ h2;exact⟨st1,g1,h.1.symm,g3,h.2.symm⟩
   ·rename_i r hr;obtain⟨st1,g1,rfl,g3,g4⟩:=h1 e st' h;exact absurd h (hr st')
def oD(_:Program)(_:Names):Prop:=True
theorem gD(hm:P.follows .mixedOrders=true)(hB:d5 P ns){orc:dD}(horc:eQ P ns orc)(hBk:oD P ns){A:iy}{N k:Nat}:∀{c:Code} {ac:ae},eG P ns A N c=some ac →
   ∀{n0:Nat} {ro:Option Nat},(ro=none∨ac.eC=true)→∀{st st':St} {e:aU} {G:Gh} {a:Act} {w:World} {Q:Exit→Act→World→Prop},cv orc k ac st=some (e,st')→fl (num ns) n0 N G st a w →
     (∀G' a' w',fl (num ns) n0 N G' st' a' w'→bw G w G' w'→Q (mM e) a' w')→c.wpIn (qn ro) 0 P Q a w
 | .skip,ac,hc,n0,ro,hro,st,st',e,G,a,w,Q,hev,hs,hq=>by
   simp[eG]at hc;subst hc;simp[cv]at hev;obtain⟨rfl,rfl⟩:=hev;exact wpIn_skip (hq G a w hs (bw.refl G w))
 | .region id ops draw,ac,hc,n0,ro,hro,st,st',e,G,a,w,Q,hev,hs,hq=>by
   simp only[eG]at hc;split at hc
   · rename_i as has
     have key:∀o ds ps live,ac=ia o (behind ds ps (.gk as live))→(draw=true→rT (ds.getD []) ops.toList as=true)→(Code.region id ops draw).wpIn (qn ro) 0 P Q a w:=by
       rintro o ds ps live rfl hd
       have main:∀{st:St} {G1:Gh},cv orc k (behind ds ps (.gk as live)) st=some (e,st')→fl (num ns) n0 N G1 st a w→bw G w G1 w→(Code.region id ops draw).wpIn (qn ro) 0 P Q a w:=by
         intro st G1 hev hs he1;obtain⟨st1,h1,rfl,h3,rfl⟩:=pO hev;refine qU hm hB horc has hd hs h1 h3 fun G' a' w' hs' he'=>?_;obtain⟨G2,h4,h5⟩:=k_ (ps:=ps.getD []) (hs'.restrict live);exact hq G2 a' w' h4 (he1.trans (he'.trans ((bw.aR live).trans h5)))
       cases o with
       |none=>exact main hev hs (bw.refl G w)
       |some ts=>
         simp only[ia,cv]at hev;obtain⟨G2,h2,he2⟩:=gV (ts:=ts) hs;exact main hev h2 he2
     have ahead:∀o1 o2 c,ac=om o1 (ia o2 c)→(∀{st:St} {G1:Gh},cv orc k c st=some (e,st')→fl (num ns) n0 N G1 st a w→bw G w G1 w→(Code.region id ops draw).wpIn (qn ro) 0 P Q a w)→(Code.region id ops draw).wpIn (qn ro) 0 P Q a w:=by
       rintro o1 o2 c rfl hm
       have h2:∀{st:St} {G1:Gh},cv orc k (ia o2 c) st=some (e,st')→fl (num ns) n0 N G1 st a w→bw G w G1 w→(Code.region id ops draw).wpIn (qn ro) 0 P Q a w:=by
         intro st G1 hev hs he1;cases o2 with
         |none=>exact hm hev hs he1
         |some ts=>
           simp only[ia,cv]at hev;obtain⟨G2,h2,he2⟩:=gV (ts:=ts) hs;exact hm hev h2 (he1.trans he2)
       cases o1 with
       |none=>exact h2 hev hs (bw.refl G w)
       |some ts=>
         simp only[om,cv]at hev;obtain⟨G2,h3,he2⟩:=fF (ts:=ts) hs;exact h2 hev h3 he2
     split at hc
     · rename_i hdr;split at hc
       ·rename_i hok;simp at hc;exact key _ _ _ _ hc.symm (fun _=>hok)
       ·simp at hc
     · rename_i hdr;have hdr':draw=false:=by simpa using hdr
       subst hdr';split at hc
       ·rename_i q hq';simp only[Option.some.injEq]at hc;exact ahead _ _ _ hc.symm fun hev hs he1=>s5 hB horc has hs hev fun G' a' w' h1 h2=>hq G' a' w' h1 (he1.trans h2)
       ·simp only[Option.some.injEq]at hc;refine ahead _ _ _ hc.symm fun hev hs he1=>?_;obtain⟨st1,h1,rfl,h3,rfl⟩:=pO hev;refine qU hm hB horc has (fun h=>absurd h hdr) hs h1 h3 fun G' a' w' hs' he'=>?_;obtain⟨G2,h4,h5⟩:=k_ (ps:=(look A.jv id).getD []) (hs'.restrict ((look A.live id).getD []));exact hq G2 a' w' h4 (he1.trans (he'.trans ((bw.aR _).trans h5)))
   ·simp at hc
 | .seq x y,ac,hc,n0,ro,hro,st,st',e,G,a,w,Q,hev,hs,hq=>by
   simp only[eG]at hc;split at hc
   · rename_i ax ay hx hy;simp at hc;subst hc;have hrx:ro=none∨ax.eC=true:=hro.imp_right fun h=>by simp only[ae.eC,Bool.and_eq_true]at h;exact h.1
     have hry:ro=none∨ay.eC=true:=hro.imp_right fun h=>by simp only[ae.eC,Bool.and_eq_true]at h;exact h.2
     simp only[cv]at hev;refine wpIn_seq ?_;split at hev
     ·rename_i st1 h1;refine gD hm hB horc hBk hx hrx h1 hs fun G' a' w' hs' he'=>?_;exact gD hm hB horc hBk hy hry hev hs' fun G'' a'' w'' hs'' he''=>hq G'' a'' w'' hs'' (he'.trans he'')
     · rename_i r hr;refine gD hm hB horc hBk hx hrx hev hs fun G' a' w' hs' he'=>?_;have:=hq G' a' w' hs' he'
       cases e with
       |normal=>exact absurd hev (hr st')
       |ret=>exact this
       |exit id=>exact this
   ·simp at hc
 | .cond c x y,ac,hc,n0,ro,hro,st,st',e,G,a,w,Q,hev,hs,hq=>by
   simp only[eG]at hc;split at hc
   · rename_i acnd ax ay hcn hx hy;simp at hc;subst hc;have hrx:ro=none∨ax.eC=true:=hro.imp_right fun h=>by simp only[ae.eC,Bool.and_eq_true]at h;exact h.1
     have hry:ro=none∨ay.eC=true:=hro.imp_right fun h=>by simp only[ae.eC,Bool.and_eq_true]at h;exact h.2
     simp only[cv]at hev;split at hev
     · rename_i t ht;have hrel:=z6 hs.env hcn ht;simp only[au,gJ]at hrel;refine wpIn_cond hrel ?_;cases t with
       |true=>exact gD hm hB horc hBk hx hrx (by simpa using hev) hs hq
       |false=>exact gD hm hB horc hBk hy hry (by simpa using hev) hs hq
     ·simp at hev
   ·simp at hc
 | .block id b,ac,hc,n0,ro,hro,st,st',e,G,a,w,Q,hev,hs,hq=>by
   simp only[eG,Option.map_eq_some_iff]at hc;obtain⟨ab,hb,rfl⟩:=hc;have hrb:ro=none∨ab.eC=true:=hro.imp_right fun h=>by simpa only[ae.eC] using h
   refine wpIn_block ?_;simp only[cv]at hev;split at hev
   · rename_i id' st1 h1;refine gD hm hB horc hBk hb hrb h1 hs fun G' a' w' hs' he'=>?_;split at hev
     ·rename_i Bf;simp at hev;obtain⟨rfl,rfl⟩:=hev;simp only[mM,Exit.inBlock,Bf,if_true];exact hq G' a' w' hs' he'
     ·rename_i Bf;simp at hev;obtain⟨rfl,rfl⟩:=hev;simp only[mM,Exit.inBlock,Bf,if_false];exact hq G' a' w' hs' he'
   · rename_i r hr;refine gD hm hB horc hBk hb hrb hev hs fun G' a' w' hs' he'=>?_;have:=hq G' a' w' hs' he'
     cases e with
     |normal=>exact this
     |ret=>exact this
     |exit id'=>exact absurd hev (hr id' st')
 | .loop b,ac,hc,n0,ro,hro,st,st',e,G,a,w,Q,hev,hs,hq=>by
   simp only[eG,Option.map_eq_some_iff]at hc;obtain⟨ab,hb,rfl⟩:=hc;have hrb:ro=none∨ab.eC=true:=hro.imp_right fun h=>by simpa only[ae.eC] using h
   simp only[cv]at hev;refine wpIn_loop_rounds k ?_;exact nI (fun h=>h.head _) (fun h1 h2 h3=>gD hm hB horc hBk hb hrb h1 h2 h3) k hev hs hq
 | .exit id,ac,hc,n0,ro,hro,st,st',e,G,a,w,Q,hev,hs,hq=>by
   simp[eG]at hc;subst hc;simp[cv]at hev;obtain⟨rfl,rfl⟩:=hev;exact wpIn_exit (hq G a w hs (bw.refl G w))
 | .ret,ac,hc,n0,ro,hro,st,st',e,G,a,w,Q,hev,hs,hq=>by
   simp[eG]at hc;subst hc;simp[cv]at hev;obtain⟨rfl,rfl⟩:=hev;exact wpIn_ret (hq G a w hs (bw.refl G w))
 | .rangeFunc f ps x y,ac,hc,n0,ro,hro,st,st',e,G,a,w,Q,hev,hs,hq=>by simp[eG]at hc
 | .scope _,ac,hc,n0,ro,hro,st,st',e,G,a,w,Q,hev,hs,hq=>by simp[eG]at hc
 | .label _,ac,hc,n0,ro,hro,st,st',e,G,a,w,Q,hev,hs,hq=>by simp[eG]at hc
 | .goto _,ac,hc,n0,ro,hro,st,st',e,G,a,w,Q,hev,hs,hq=>by simp[eG]at hc
 | .refuse _,ac,hc,n0,ro,hro,st,st',e,G,a,w,Q,hev,hs,hq=>by simp[eG]at hc
end
end Go.Ab
