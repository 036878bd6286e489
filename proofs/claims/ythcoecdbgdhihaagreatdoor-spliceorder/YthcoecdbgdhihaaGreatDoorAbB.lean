import Derived.Test.YthcoecdbgdhihaaGreatDoorAbA
import Derived.Orders
import Derived.Tactics
import Derived.OrdersIn
import Derived.TacticsIn
import Derived.LoopNIn
import Derived.RangeFuncCalls
import Derived.RangeFuncIn
import Derived.RangeFuncRecord
import Derived.RangeFuncSeq
/-
  Shared arrays that are frozen: from then on they are known for good.
  Forgetting what is no longer wanted; tokens named anew at the head of a loop.
  Tokens named anew.
  Handing over to a callee and taking back.
  One operation of a region: what the evaluator gives is what the model does.
  A region: in the order of the text, and in whatever order the tape picks.
  A region that draws its order: whatever order is picked, the end is that of the text's order.
  Two operations that have nothing to do with one another may change places; so the order of the text serves every order.
  Operations and regions inside the fence that asks nothing, in a round of a range over a function or not.
  Without fuel: the limit of the evaluator.
  Rules for running slim code by the simplifier: each is an equation on constructors.
  Ranges over a slice backward: the iterator's contract.
  slices.Clone: its argument appended to an empty slice.
  Code and functions: what the evaluator gives is what the model does.
-/
set_option linter.unusedVariables false
set_option linter.unusedSimpArgs false
set_option linter.unnecessarySimpa false
set_option maxRecDepth 100000
set_option maxHeartbeats 8000000
namespace Go.Ab
section
variable {P:Program} {ns:Names} {G:Gh} {w:World}
def Gh.freeze(G:Gh)(b:Nat)(c:Array Value):Gh:=
 { G with K:=fun k o=>if k=b then c[o]? else G.K k o,role:=fun k=>if k=b then .ez else G.role k }
theorem Inv.freeze{mem:List (Nat×List AV)}{sh:Sh}{aa:aG}(hi:Inv (num ns) G w mem sh aa){s b:Nat}{cells:List AV}{c:Array Value}{t:TypeId}
   (hr:G.role b=.shr s) (hh:w.heap[b]?=some (.cells c t (0,0))) :
   Inv (num ns) (G.freeze b c) w mem (sh.set s none) aa∧G.le (G.freeze b c)∧bK G w (G.freeze b c) w:=by
 have hK:G.K.le (G.freeze b c).K:=fun k o v hk=>by
   simp only[Gh.freeze];rw[if_neg]
   ·exact hk
   · rintro rfl
     rcases hi.aZ _ _ _ hk with h|⟨τ,h⟩<;>rw[hr]at h<;>simp at h
 have hle:G.le (G.freeze b c):=⟨hK,fun _ _ h=>h,fun _ _ h=>h,fun _ t h=>⟨t,h,⟨Nat.le_refl _,t.gL⟩,fun _=>rfl⟩⟩
 have hrole:∀k r,G.role k=r→r≠.shr s→(G.freeze b c).role k=r:=by
   intro k r hk hn;simp only[Gh.freeze];rw[if_neg]
   ·exact hk
   ·rintro rfl;exact hn (hk.symm.trans hr)
 have hevo:bK G w (G.freeze b c) w:={
           size:=Nat.le_refl _,os:=rfl,tape:=rfl,output:=rfl,K:=hK,sm:=fun _ _ h=>h,
           ez:=fun k _ hk=>⟨hrole k _ hk (by simp),rfl⟩
           iQ:=fun k τ _ hk=>.inr ⟨τ,hrole k _ hk (by simp)⟩
           gN:=fun k o v _ hk hkk=>by
             simp only[Gh.freeze]at hkk
             rwa [if_neg (by rintro rfl;rw[hr]at hk;simp at hk)]at hkk }
 refine⟨⟨?_,?_,?_,?_,hi.gM,?_,?_,?_,hi.e_,hi.ic hevo⟩,hle,hevo⟩
 · intro k o v hk;simp only[Gh.freeze]at hk;split at hk
   ·rename_i e;subst e;simp[World.cell?,hh,hk]
   ·exact hi.known k o v hk
 · intro k o v hk;simp only[Gh.freeze]at hk;split at hk
   ·rename_i e;subst e;left;simp[Gh.freeze]
   ·rename_i e;simp only[Gh.freeze,if_neg e];exact hi.aZ k o v hk
 · intro k hk;simp only[Gh.freeze];split
   ·rfl
   ·exact hi.fresh k hk
 ·intro d cs hd;obtain⟨b',e1,e2,e3⟩:=hi.cT d cs hd;exact⟨b',e1,e2.mono hle ((hrole b' _ e2.role (by simp)).trans e2.role.symm) rfl,e3⟩
 · intro s' cs hs';rw[List.getElem?_set]at hs';split at hs'
   ·split at hs'<;>simp at hs'
   ·rename_i hne;obtain⟨b',e1,e2,e3⟩:=hi.dq s' cs hs';exact⟨b',e1,e2.mono hle ((hrole b'.1 _ e2.role (by simp;exact fun h=>hne h.symm)).trans e2.role.symm) rfl,e3⟩
 ·intro s' b' h;simpa using hi.eF s' b' h
 · intro τ n hn;obtain⟨tk,e1,e2,e3⟩:=hi.dh τ n hn;refine⟨tk,e1,e2,e3.cap,e3.zero,fun hlt=>?_⟩;obtain⟨b',o,cc,ty,f1,f2,f3,f4,f5⟩:=e3.spare hlt;refine⟨b',o,cc,ty,f1,hrole b' _ f2 (by simp),f3,f4,fun j v hk=>f5 j v ?_⟩;simp only[Gh.freeze]at hk
   rwa [if_neg (by rintro rfl;rw[hr]at f2;simp at f2)]at hk
def jY(ns:Names)(G G':Gh)(sh:Sh)(ks:List Nat):Prop:=
 ∀s∈ks,∀cells,sh[s]?=some (some cells)→bV cells=false→∃b vs,G.sm s=some b∧At G'.K b.1 0 vs∧aw (num ns) G' cells vs
theorem zX{sh:Sh}{s:Nat}(h:∀cells,sh[s]?≠some (some cells)):sh.set s none=sh:=by
 apply List.ext_getElem?
 intro j;rw[List.getElem?_set];split
 · rename_i e;subst e;split
   · rename_i hlt;cases hh:sh[s] with
     |none=>rw[List.getElem?_eq_getElem hlt,hh]
     |some cells=>exact absurd (by rw[List.getElem?_eq_getElem hlt,hh]) (h cells)
   ·rename_i hge;rw[List.getElem?_eq_none (by omega)]
 ·rfl
theorem Inv.drop{mem:List (Nat×List AV)}{sh:Sh}{aa:aG}{G:Gh}(hi:Inv (num ns) G w mem sh aa)(s:Nat):Inv (num ns) G w mem (sh.set s none) aa:=
 { hi with
   dq:=fun s' cells hs=>by
     rw[List.getElem?_set]at hs;split at hs
     ·split at hs<;>simp at hs
     ·exact hi.dq s' cells hs
   eF:=fun s' b h=>by simpa using hi.eF s' b h }
theorem Inv.kill{mem:List (Nat×List AV)}{aa:aG}:∀(ks:List Nat) {sh:Sh} {G:Gh},Inv (num ns) G w mem sh aa →
   ∃G',Inv (num ns) G' w mem (kill sh ks) aa∧G.le G'∧bK G w G' w∧jY ns G G' sh ks∧G'.sm=G.sm
 |[],sh,G,hi=>⟨G,hi,G.le_refl,bK.refl G w,fun s h=>by simp at h,rfl⟩
 |s::ks,sh,G,hi=>by
   have hk:Go.Ab.kill sh (s::ks)=Go.Ab.kill (sh.set s none) ks:=rfl;by_cases hs:∃cells,sh[s]?=some (some cells)
   · obtain⟨cells,hs⟩:=hs;obtain⟨b,e1,e2,_⟩:=hi.dq s cells hs;cases hmb:bV cells with
     |true=>
       obtain⟨G',h1,h2,h3,h4,h5⟩:=Inv.kill ks (hi.drop s);refine⟨G',by rw[hk];exact h1,h2,h3,?_,h5⟩;intro s' hs' cells' hc' hm';by_cases he:s'=s
       ·subst he;rw[hs]at hc';cases hc';rw[hmb]at hm';cases hm'
       ·simp only[List.mem_cons]at hs';exact h4 s' (hs'.resolve_left he) cells' (by rw[List.getElem?_set,if_neg (fun e=>he e.symm)];exact hc') hm'
     |false=>
     obtain⟨hr,c,t,vs,suf,hh,_,hsp,hrel⟩:=e2.cells hmb;obtain⟨g1,g2,g3⟩:=hi.freeze (cells:=cells) hr hh;obtain⟨G',h1,h2,h3,h4,h5⟩:=Inv.kill ks g1;refine⟨G',by rw[hk];exact h1,Gh.le_trans g2 h2,g3.trans h3,?_,h5⟩;intro s' hs' cells' hc' hm';by_cases he:s'=s
     · subst he;rw[hs]at hc';cases hc';refine⟨b,vs,e1,?_,aw.mono (Gh.le_trans g2 h2) hrel⟩;intro j v hj;apply h2.K;simp only[Gh.freeze,if_true,Nat.zero_add];have:c.toList[j]?=some v:=by rw[hsp,List.getElem?_append_left (List.getElem?_eq_some_iff.1 hj).1];exact hj
       simpa using this
     ·simp only[List.mem_cons]at hs';have:=h4 s' (hs'.resolve_left he) cells' (by rw[List.getElem?_set,if_neg (fun e=>he e.symm)];exact hc') hm';exact this
   · have hset:=zX (sh:=sh) (s:=s) (fun cells h=>hs ⟨cells,h⟩);obtain⟨G',h1,h2,h3,h4,h5⟩:=Inv.kill ks hi;refine⟨G',by rw[hk,hset];exact h1,h2,h3,?_,h5⟩;intro s' hs' cells' hc' hm';simp only[List.mem_cons]at hs';rcases hs' with rfl|hs'
     ·exact absurd ⟨cells',hc'⟩ hs
     ·exact h4 s' hs' cells' hc' hm'
theorem GK{cs:List AV}{ps:List PV}(h:eA cs=some ps):bV cs=false:=by
 cases cs with
 |nil=>rfl
 |cons c cs=>cases c<;>first|rfl|simp[eA,kM]at h
theorem zY:∀{cs:List AV} {ps:List PV} {vs:List Value},eA cs=some ps→cs.all aT=true→aw (num ns) G cs vs→dL G.K ps vs
 |[],ps,vs,h,_,hr=>by simp[eA]at h;subst h;simp only[aw]at hr;simp[dL,hr]
 |c::cs,ps,vs,h,hl,hr=>by
   simp only[eA]at h;simp only[List.all_cons,Bool.and_eq_true]at hl;split at h
   ·rename_i p ps' h1 h2;simp at h;subst h;simp only[aw]at hr;obtain⟨v,r,rfl,e1,e2⟩:=hr;simp only[dL];exact⟨v,r,rfl,(oW h1 e1).J4 (qf h1 hl.1),zY h2 hl.2 e2⟩
   ·simp at h
theorem v7{K:bl}{b sz:Nat}:∀(n:Nat) {ps:List PV} {vs:List Value} {o:Nat},dL K ps vs→ps.length=n*sz→At K b o vs→Row K b o sz ((chunk sz n ps).map .agg)
 |0,_,_,_,_,_,_=>by simp only[chunk,List.map_nil,Row]
 |n+1,ps,vs,o,hr,hl,ha=>by
   have hlv:=hr.length;rw[Nat.add_mul]at hl;simp only[chunk,List.map_cons,Row];refine⟨⟨vs.take sz,by simp;omega,?_,?_⟩,v7 n (dL.drop sz hr) (by simp;omega) ?_⟩
   · intro j v hj;rw[List.getElem?_take]at hj;split at hj
     ·exact ha j v hj
     ·simp at hj
   ·simp only[R];exact⟨trivial,dL.take sz hr⟩
   · intro j v hj;rw[List.getElem?_drop]at hj;have:=ha _ v hj
     rwa [←Nat.add_assoc]at this
theorem o5{sz:Nat}:∀(n:Nat) (ps:List PV),(chunk sz n ps).length=n
 |0,_=>rfl
 |n+1,ps=>by simp[chunk,o5 n]
theorem tH{K:bl}{b:Nat}:∀{ps:List PV} {vs:List Value} {o:Nat},dL K ps vs→At K b o vs→Row K b o 1 ps
 |[],_,_,_,_=>by simp only[Row]
 |p::ps,vs,o,hr,ha=>by
   simp only[dL]at hr;obtain⟨v,r,rfl,e1,e2⟩:=hr;simp only[Row];refine⟨⟨[v],rfl,?_,R.top e1⟩,tH e2 ?_⟩
   · intro j u hj;cases j with
     |zero=>simp at hj;subst hj;exact ha 0 v rfl
     |succ j=>simp at hj
   · intro j u hj;have:=ha (j+1) u (by simpa using hj)
     rwa [show o+(j+1)=o+1+j from by omega]at this
theorem J9{l:List AV}(n:Nat)(h:l.all aT=true):(l.take n).all aT=true:=by
 rw[List.all_eq_true]at h⊢;exact fun x hx=>h x (List.mem_of_mem_take hx)
theorem o7{G':Gh}{sh:Sh}{ks:List Nat}{x:AV}{p:PV}{v:Value}(hle:G.le G')(hf:jY ns G G' sh ks)(hl:∀(s:Nat) (cells:List AV),sh[s]?=some (some cells)→cells.all aT=true)
   (ha:∀s∈eB x,s∈ks) (hx:∀cs,x≠.agg cs) (h:dJ sh x=some p) (hr:aB (num ns) G x v):Rel G'.K p v:=by
 cases x with
 |aP s sz n ag=>
   simp only[dJ]at h;split at h
   · rename_i cells hc
     have key:∀ps els,eA (cells.take (n*sz))=some ps→bV cells=false→n*sz≤cells.length→dP sz ag n ps=some els→Rel G'.K (.au els) v:=by
       intro ps els h1 hmb hlen h2;obtain⟨b,vs,e1,e2,e3⟩:=hf s (ha s (by simp[eB])) cells hc hmb;simp only[aB]at hr;obtain⟨b',cap,hb,rfl,_⟩:=hr;rw[e1]at hb;cases hb;have e3':aw (num ns) G' (cells.take (n*sz)) (vs.take (n*sz)):=e3.take _
       have e2':At G'.K b.1 0 (vs.take (n*sz)):=by
         intro j u hj;rw[List.getElem?_take]at hj;split at hj
         ·exact e2 j u hj
         ·simp at hj
       have hps:=zY h1 (J9 _ (hl s cells hc)) e3';have hpl:ps.length=n*sz:=(by rw[←hps.length,e3'.length,List.length_take];omega);unfold dP at h2;split at h2
       ·simp at h2;subst h2;refine cd.2 ⟨_,_,_,rfl,by omega,by simp[o5],.inr ⟨b.1,0,sz,rfl,v7 n hps hpl e2'⟩⟩
       ·simp only[Option.ite_none_right_eq_some,Option.some.injEq]at h2;obtain⟨rfl,rfl⟩:=h2;exact cd.2 ⟨_,_,_,rfl,by omega,by omega,.inr ⟨b.1,0,1,rfl,tH hps e2'⟩⟩
     split at h
     ·rename_i hlen;simp only[Option.map_eq_some_iff,Option.bind_eq_some_iff]at h;obtain⟨els,⟨ps,h1,h2⟩,rfl⟩:=h;exact key ps els (by rw[List.take_of_length_le (by omega)];exact h1) (GK h1) (by omega) h2
     ·simp only[Option.ite_none_right_eq_some,Option.map_eq_some_iff,Option.bind_eq_some_iff]at h;obtain⟨⟨hmb,hlen⟩,els,⟨ps,h1,h2⟩,rfl⟩:=h;exact key ps els h1 hmb hlen h2
   ·simp at h
 |agg cs=>exact absurd rfl (hx cs)
 |_=>simp only[dJ]at h;exact (oW h hr).mono hle.K
theorem vE{sh:Sh}{x:AV}{p:PV}(h:dJ sh x=some p)(hl:aT x=true):de p=true:=by
 cases x with
 |aP s sz n ag=>
   simp only[dJ]at h;split at h
   · split at h
     ·simp only[Option.map_eq_some_iff]at h;obtain⟨els,_,rfl⟩:=h;rfl
     ·simp only[Option.ite_none_right_eq_some,Option.map_eq_some_iff]at h;obtain⟨_,els,_,rfl⟩:=h;rfl
   ·simp at h
 |_=>simp only[dJ]at h;exact qf h hl
theorem xM{x:AV}(h:aT x=true):∀cs,x≠.agg cs:=by
 rintro cs rfl;simp[aT]at h
theorem kX{G':Gh}{sh:Sh}{ks:List Nat}(hle:G.le G')(hf:jY ns G G' sh ks)(hl:∀(s:Nat) (cells:List AV),sh[s]?=some (some cells)→cells.all aT=true) :
   ∀{cs:List AV} {ps:List PV} {vs:List Value},(∀s∈eB (.agg cs),s∈ks)→ca sh cs=some ps→aw (num ns) G cs vs→dL G'.K ps vs
 |[],ps,vs,_,h,hr=>by simp[ca]at h;subst h;simp only[aw]at hr;simp[dL,hr]
 |c::cs,ps,vs,ha,h,hr=>by
   simp only[ca,Option.ite_none_right_eq_some]at h;obtain⟨hlf,h⟩:=h;split at h
   · rename_i p ps' h1 h2;simp at h;subst h;simp only[aw]at hr;obtain⟨v,r,rfl,e1,e2⟩:=hr;simp only[dL];refine⟨v,r,rfl,(o7 hle hf hl ?_ (xM hlf) h1 e1).J4 (vE h1 hlf),kX hle hf hl ?_ h2 e2⟩
     ·intro s hs;refine ha s ?_;simp only[eB,List.flatMap_cons,List.mem_append];left;cases c<;>simp_all[eB,aT]
     ·intro s hs;refine ha s ?_;simp only[eB,List.flatMap_cons,List.mem_append]at hs⊢;exact .inr hs
   ·simp at h
theorem tI{G':Gh}{sh:Sh}{ks:List Nat}(hle:G.le G')(hf:jY ns G G' sh ks)(hl:∀(s:Nat) (cells:List AV),sh[s]?=some (some cells)→cells.all aT=true)
   {x:AV} {p:PV} {v:Value} (ha:∀s∈eB x,s∈ks) (h:dd sh x=some p) (hr:aB (num ns) G x v):Rel G'.K p v:=by
 by_cases hx:∃cs,x=.agg cs
 ·obtain⟨cs,rfl⟩:=hx;simp only[dd,Option.map_eq_some_iff]at h;obtain⟨ps,h1,rfl⟩:=h;simp only[aB]at hr;obtain⟨vs,rfl,hr⟩:=hr;simp only[Rel];exact⟨vs,rfl,kX hle hf hl ha h1 hr⟩
 · have hx':∀cs,x≠.agg cs:=fun cs e=>hx ⟨cs,e⟩;have:dd sh x=dJ sh x:=by cases x<;>first|rfl|exact absurd rfl (hx' _)
   rw[this]at h;exact o7 hle hf hl ha hx' h hr
theorem rz{G':Gh}{sh:Sh}{ks:List Nat}(hle:G.le G')(hf:jY ns G G' sh ks)(hl:∀(s:Nat) (cells:List AV),sh[s]?=some (some cells)→cells.all aT=true) :
   ∀{xs:List AV} {ps:List PV} {vs:List Value},(∀s∈xs.flatMap eB,s∈ks)→c_ sh xs=some ps→aw (num ns) G xs vs→jo G'.K ps vs
 |[],ps,vs,_,h,hr=>by simp[c_]at h;subst h;simp only[aw]at hr;exact hr
 |c::cs,ps,vs,ha,h,hr=>by
   simp only[c_]at h;split at h
   ·rename_i p ps' h1 h2;simp at h;subst h;simp only[aw]at hr;obtain⟨v,r,rfl,e1,e2⟩:=hr;simp only[List.flatMap_cons,List.mem_append]at ha;exact⟨v,r,rfl,tI hle hf hl (fun s hs=>ha s (.inl hs)) h1 e1,rz hle hf hl (fun s hs=>ha s (.inr hs)) h2 e2⟩
   ·simp at h
theorem Inv.tJ{mem:List (Nat×List AV)}{sh:Sh}{aa:aG}(hi:Inv (num ns) G w mem sh aa):∀(s:Nat) (cells:List AV),sh[s]?=some (some cells)→cells.all aT=true:=by
 intro s cells hs;obtain⟨b,_,_,e3,_⟩:=hi.dq s cells hs;exact jb e3
end
end Go.Ab
namespace Go.Ab
section
variable {ns:Names} {G:Gh} {w:World}
mutual
theorem jh{ρ:bQ}{G':Gh}(hK:G.K.le G'.K)(hs:∀s b,G.sm s=some b→G'.sm s=some b):∀{x:AV} {v:Value},bE x=true→aB ρ G x v→aB ρ G' x v
 | .pv p,_,_,h=>by simp only[aB]at h⊢;exact h.mono hK
 | .un,_,_,h=>by simpa only[aB] using h
 | .dH _,_,_,h=>by simp only[aB]at h⊢;obtain⟨b,l,e,r⟩:=h;exact⟨b,l,e,r.mono hK⟩
 | .aW s o,_,_,h=>by simp only[aB]at h⊢;obtain⟨b,e,r⟩:=h;exact⟨b,hs _ _ e,r⟩
 | .aP s _ n _,_,_,h=>by simp only[aB]at h⊢;obtain⟨b,c,e,r⟩:=h;exact⟨b,c,hs _ _ e,r⟩
 | .gf _,_,_,h=>by simp only[aB]at h⊢;obtain⟨b,o,vs,e,f,r⟩:=h;exact⟨b,o,vs,e,f.mono hK,dL.mono hK _ _ r⟩
 | .kr,_,_,h=>by simpa only[aB] using h
 | .ku s,_,_,h=>by simp only[aB]at h⊢;obtain⟨b,e,r⟩:=h;exact⟨b,hs _ _ e,r⟩
 | .p_ s _ _,_,_,h=>by simp only[aB]at h⊢;obtain⟨b,x,c,e,r⟩:=h;exact⟨b,x,c,hs _ _ e,r⟩
 | .gg _,_,_,h=>by simp only[aB]at h
 | .fn g cap,_,hp,h=>by
   simp only[bE]at hp;simp only[aB]at h⊢;obtain⟨f,vs,e1,e2,r⟩:=h;exact⟨f,vs,e1,e2,mU hK hs hp r⟩
 | .agg cs,_,hp,h=>by
   simp only[bE]at hp;simp only[aB]at h⊢;obtain⟨vs,e,r⟩:=h;exact⟨vs,e,mU hK hs hp r⟩
 | .qW cs,_,hp,h=>by
   simp only[bE]at hp;simp only[aB]at h⊢;obtain⟨vs,e,r⟩:=h;exact⟨vs,e,mU hK hs hp r⟩
 | .own _ _,_,hp,_=>by simp[bE]at hp
 | .az _ _,_,hp,_=>by simp[bE]at hp
 | .jH _ _,_,hp,_=>by simp[bE]at hp
theorem mU{ρ:bQ}{G':Gh}(hK:G.K.le G'.K)(hs:∀s b,G.sm s=some b→G'.sm s=some b):∀{xs:List AV} {vs:List Value},bE.ei xs=true→aw ρ G xs vs→aw ρ G' xs vs
 |[],_,_,h=>by simpa only[aw] using h
 |x::xs,_,hp,h=>by
   simp only[bE.ei,Bool.and_eq_true]at hp;simp only[aw]at h⊢;obtain⟨v,r,e,e1,e2⟩:=h;exact⟨v,r,e,jh hK hs hp.1 e1,mU hK hs hp.2 e2⟩
end
mutual
theorem kY:∀{x:AV},bN x=true→bE x=true
 | .pv _,_=>rfl
 | .aW ..,_=>rfl
 | .aP ..,_=>rfl
 | .kr,_=>rfl
 | .ku _,_=>rfl
 | .gg _,_=>rfl
 | .p_ ..,h=>by simp[bN]at h
 | .fn _ cap,h=>by simp only[bN]at h;simp only[bE];exact nX h
 | .un,h=>by simp[bN]at h
 | .dH _,h=>by simp[bE]
 | .own _ _,h=>by simp[bN]at h
 | .agg _,h=>by simp only[bN]at h;simp only[bE];exact nX h
 | .qW _,h=>by simp[bN]at h
 | .az _ _,h=>by simp[bN]at h
 | .jH _ _,h=>by simp[bN]at h
 | .gf _,h=>by simp[bN]at h
theorem nX:∀{xs:List AV},bN.iW xs=true→bE.ei xs=true
 |[],_=>rfl
 |x::xs,h=>by
   simp only[bN.iW,Bool.and_eq_true]at h;simp only[bE.ei,Bool.and_eq_true];exact⟨kY h.1,nX h.2⟩
end
theorem v9{ρ:bQ}{G':Gh}(hK:G.K.le G'.K)(hs:∀s b,G.sm s=some b→G'.sm s=some b)(ht:∀τ t,G.tk τ=some t→G'.tk τ=some t){x:AV}{v:Value}(hf:jL x=true)(h:aB ρ G x v):aB ρ G' x v:=by
 cases x with
 |own l τ=>
   simp only[aB]at h⊢;obtain⟨t,e1,e2,e3,e4⟩:=h;exact⟨t,ht _ _ e1,e2,e3.mono hK,fun hl=>⟨(e4 hl).1,NO (e4 hl).2 fun⟨b,o,e,r⟩=>⟨b,o,e,Row.mono hK _ _ _ _ r⟩⟩⟩
 |_=>exact jh hK hs (by simpa[jL] using hf) h
theorem jy{ρ:bQ}{G':Gh}(hK:G.K.le G'.K)(hs:∀s b,G.sm s=some b→G'.sm s=some b)(ht:∀τ t,G.tk τ=some t→G'.tk τ=some t):∀{xs:List AV} {vs:List Value},fM xs=true→aw ρ G xs vs→aw ρ G' xs vs
 |[],_,_,h=>by simpa only[aw] using h
 |x::xs,_,hp,h=>by
   simp only[fM,Bool.and_eq_true]at hp;simp only[aw]at h⊢;obtain⟨v,r,e,e1,e2⟩:=h;exact⟨v,r,e,v9 hK hs ht hp.1 e1,jy hK hs ht hp.2 e2⟩
theorem nY{x:AV}(h:aT x=true):bE x=true∨∃l τ,x=.own l τ:=by
 cases x with
 |own l τ=>exact .inr ⟨l,τ,rfl⟩
 |fn g cap=>exact .inl (kY (by simpa[aT] using h))
 |pv p=>exact .inl rfl
 |dH _=>exact .inl rfl
 |aW _ _=>exact .inl rfl
 |aP _ _ _ _=>exact .inl rfl
 |kr=>exact .inl rfl
 |ku _=>exact .inl rfl
 |gg _=>exact .inl rfl
 |_=>simp[aT]at h
theorem dx{live:List Nat}{env:List (Nat×AV)}:∀{l:List Nat} {t:Nat} {v:AV},look (bD live env l) t=some v→look env t=some v∧d8 live v=true∧t∈l
 |[],t,v,h=>by simp[bD,look]at h
 |s::l,t,v,h=>by
   simp only[bD]at h;split at h
   · rename_i u hu;split at h
     · rename_i hk;simp only[look]at h;split at h
       ·rename_i e;subst e;cases h;exact⟨hu,hk,by simp⟩
       ·obtain⟨h1,h2,h3⟩:=dx h;exact⟨h1,h2,by simp[h3]⟩
     ·obtain⟨h1,h2,h3⟩:=dx h;exact⟨h1,h2,by simp[h3]⟩
   ·obtain⟨h1,h2,h3⟩:=dx h;exact⟨h1,h2,by simp[h3]⟩
theorem dy{mem:List (Nat×List AV)}:∀{l:List Nat} {t:Nat},look (bG mem l) t=if t∈l then look mem t else none
 |[],t=>by simp[bG,look]
 |s::l,t=>by
   simp only[bG];by_cases vY:s=t
   · subst vY;cases hm:look mem s with
     |none=>simp only[hm];rw[dy,hm];simp
     |some v=>simp[look]
   · have hts:t≠s:=fun e=>vY e.symm;cases hm:look mem s with
     |none=>simp only[hm];rw[dy];simp[hts]
     |some v=>simp only[look,vY,if_false];rw[dy];simp[hts]
def Gh.aU(G:Gh)(live:List Nat):Gh:={ G with pm:=fun d=>if d∈live then G.pm d else none }
theorem zZ{ρ:bQ}{live:List Nat}{x:AV}{v:Value}(hk:d8 live x=true)(h:aB ρ G x v):aB ρ (G.aU live) x v:=by
 have flat:bE x=true→aB ρ (G.aU live) x v:=fun hf=>jh (G:=G) (G':=G.aU live) (bl.le_refl G.K) (fun _ _ h=>h) hf h;cases x with
 |az d o=>
   simp only[aB]at h⊢;obtain⟨b,e,r⟩:=h;simp[d8]at hk;exact⟨b,by simp[Gh.aU,hk,e],r⟩
 |jH d o=>
   simp only[aB]at h⊢;obtain⟨b,e,r⟩:=h;simp[d8]at hk;exact⟨b,by simp[Gh.aU,hk,e],r⟩
 |own l τ=>
   simp only[aB]at h⊢;exact h
 |agg cs=>
   simp only[aB]at h⊢;obtain⟨vs,e,r⟩:=h;exact⟨vs,e,jy (G:=G) (G':=G.aU live) (bl.le_refl G.K) (fun _ _ h=>h) (fun _ _ h=>h) (by simpa[d8] using hk) r⟩
 |_=>exact flat (by simpa[d8] using hk)
theorem GL{ρ:bQ}{live:List Nat}{x:AV}{v:Value}(hl:aT x=true)(h:aB ρ G x v):aB ρ (G.aU live) x v:=by
 rcases nY hl with hf|⟨l,τ,rfl⟩
 ·exact jh (G:=G) (G':=G.aU live) (bl.le_refl G.K) (fun _ _ h=>h) hf h
 ·simp only[aB]at h⊢;exact h
theorem l8{ρ:bQ}{live:List Nat}:∀{xs:List AV} {vs:List Value},xs.all aT=true→aw ρ G xs vs→aw ρ (G.aU live) xs vs
 |[],_,_,h=>by simpa only[aw] using h
 |x::xs,_,hl,h=>by
   simp only[List.all_cons,Bool.and_eq_true]at hl;simp only[aw]at h⊢;obtain⟨v,r,e,e1,e2⟩:=h;exact⟨v,r,e,GL hl.1 e1,l8 hl.2 e2⟩
theorem Inv.aU{mem:List (Nat×List AV)}{sh:Sh}{aa:aG}(hi:Inv (num ns) G w mem sh aa)(live:List Nat):Inv (num ns) (G.aU live) w (bG mem live) sh aa where
 known:=hi.known
 aZ:=hi.aZ
 fresh:=hi.fresh
 cT:=fun d cells hd=>by
   rw[dy]at hd;split at hd
   ·rename_i hl;obtain⟨b,e1,e2,e3⟩:=hi.cT d cells hd;obtain⟨hr,c,t,hh,hrel⟩:=e2;exact⟨b,by simp[Gh.aU,hl,e1],⟨hr,c,t,hh,l8 e3 hrel⟩,e3⟩
   ·simp at hd
 gM:=fun d b hd=>by
   simp only[Gh.aU]at hd;split at hd
   ·rename_i hl;rw[dy,if_pos hl];exact hi.gM d b hd
   ·simp at hd
 dq:=fun s cells hs=>by
   obtain⟨b,e1,e2,e3,e4⟩:=hi.dq s cells hs;obtain⟨hr,o,hh,hrel⟩:=e2;exact⟨b,e1,⟨hr,o,hh,hrel.to (fun _ _ _ h=>h) (fun _ e=>e) (fun _ r=>l8 (jb e3) r)⟩,e3,e4⟩
 eF:=hi.eF
 dh:=fun τ n hn=>by
   obtain⟨t,e1,e2,e3⟩:=hi.dh τ n hn;exact⟨t,e1,e2,e3.cap,e3.zero,e3.spare⟩
 e_:=hi.e_
 kz:=hi.kz
theorem bK.aU(live:List Nat):bK G w (G.aU live) w:=
 { size:=Nat.le_refl _,os:=rfl,tape:=rfl,output:=rfl,K:=bl.le_refl G.K,sm:=fun _ _ h=>h,ez:=fun _ _ h=>⟨h,rfl⟩,iQ:=fun _ τ _ h=>.inr ⟨τ,h⟩,gN:=fun _ _ _ _ _ h=>h }
theorem gV.restrict{n0 N:Nat}{st:St}{a:Act}(h:gV (num ns) n0 N G st a w)(live:List Nat):gV (num ns) n0 N (G.aU live) (restrict live st) a w:=
 ⟨⟨h.env.size,fun t x hx=>by
   obtain⟨h1,h2,_⟩:=dx hx;obtain⟨v,h3,h4⟩:=h.env.env t x h1;exact⟨v,h3,zZ h2 h4⟩⟩,h.inv.aU live,h.marks.q_ (bK.aU live) rfl⟩
end
end Go.Ab
namespace Go.Ab
section
variable {ns:Names} {G:Gh} {w:World}
structure NS(G:Gh)(aI ts:aG)(m:Nat→Option Nat)(tks:List Tk):Prop where
 ts:ts=tks.map (·.len)
 map:∀τ k,m τ=some k→∃t,G.tk τ=some t∧tks[k]?=some t
 inj:∀τ σ k,m τ=some k→m σ=some k→τ=σ
 free:∀τ t,G.tk τ=some t→m τ=none→aI[τ]?=some t.len
 used:∀τ t k,G.tk τ=some t→m τ=some k→aI[τ]?=some (t.len+1)
 cap:∀k t,tks[k]?=some t→(∃τ,m τ=some k)∨(t.cap=t.len∧t.own=false)
def Gh.lV(G:Gh)(m:Nat→Option Nat)(tks:List Tk):Gh:=
 { G with tk:=fun k=>tks[k]?,role:=fun b=>match G.role b with| .tok τ=>(match m τ with|some k=>.tok k|none=>.ez)|r=>r }
theorem Q1{m m':Nat→Option Nat}{tks ext:List Tk}:(G.lV m tks).le (G.lV m' (tks++ext)) where
 K:=bl.le_refl G.K
 pm:=fun _ _ h=>h
 sm:=fun _ _ h=>h
 tk:=fun k t h=>⟨t,by
   simp only[Gh.lV]at h⊢;rw[List.getElem?_append_left (List.getElem?_eq_some_iff.1 h).1];exact h,⟨Nat.le_refl _,Tk.gL _⟩,fun _=>rfl⟩
theorem z4{ρ:bQ}{m:Nat→Option Nat}{tks:List Tk}{x:AV}{v:Value}(hf:bE x=true)(h:aB ρ G x v):aB ρ (G.lV m tks) x v:=
 jh (G:=G) (G':=G.lV m tks) (bl.le_refl G.K) (fun _ _ h=>h) hf h
theorem kZ{m:Nat→Option Nat}{tks:List Tk}{b τ:Nat}(h:G.role b=.tok τ):(G.lV m tks).role b=match m τ with|some k=>.tok k|none=>.ez:=by
 show (match G.role b with| .tok τ=>(match m τ with|some k=>l3.tok k|none=>.ez)|r=>r)=_;rw[h]
def lI:AV→Bool
 | .az ..| .jH ..| .own ..=>true
 | .agg cs=>fM cs
 |v=>bE v
structure GM(ns:Names)(G:Gh)(m:Nat→Option Nat)(tks:List Tk)(old' ts':aG)(m':Nat→Option Nat)(tks':List Tk):Prop where
 z5:NS G old' ts' m' tks'
 ext:∃ext,tks'=tks++ext
theorem GM.le{m m':Nat→Option Nat}{tks tks':List Tk}{old' ts':aG}(h:GM ns G m tks old' ts' m' tks'):(G.lV m tks).le (G.lV m' tks'):=by
 obtain⟨ext,e⟩:=h.ext;subst e;exact Q1
theorem rB{aI ts:aG}{m:Nat→Option Nat}{tks:List Tk}(hN:NS G aI ts m tks){x:AV}{v:Value}(hx:jL x=true)(h:aB (num ns) G x v) :
   ∃m' tks',GM ns G m tks (eD aI ts x).2.1 (eD aI ts x).2.2 m' tks'∧aB (num ns) (G.lV m' tks') (eD aI ts x).1 v:=by
 have flat:bE x=true→eD aI ts x=(x,aI,ts)→∃m' tks',GM ns G m tks (eD aI ts x).2.1 (eD aI ts x).2.2 m' tks'∧aB (num ns) (G.lV m' tks') (eD aI ts x).1 v:=by
   intro hf e;rw[e];exact⟨m,tks,⟨hN,[],by simp⟩,z4 hf h⟩
 cases x with
 |own l τ=>
   simp only[aB]at h;obtain⟨t,e1,e2,e3,e4⟩:=h;simp only[eD];split
   · rename_i ho
     have hm:m τ=none:=by
       cases hm:m τ with
       |none=>rfl
       |some k=>
         have:=hN.used τ t k e1 hm;rw[ho]at this;simp at this;omega
     have hlen:l.length=t.len:=by
       have:=hN.free τ t e1 hm;rw[ho]at this;simpa using this
     have hk:ts.length=tks.length:=(by rw[hN.ts];simp);refine⟨fun σ=>if σ=τ then some tks.length else m σ,tks++[t],⟨⟨?_,?_,?_,?_,?_,?_⟩,[t],rfl⟩,?_⟩
     ·rw[hN.ts,hlen];simp
     · intro σ k hk';split at hk'
       ·rename_i e;subst e;simp at hk';subst hk';exact⟨t,e1,by simp⟩
       ·obtain⟨t',g1,g2⟩:=hN.map σ k hk';exact⟨t',g1,by rw[List.getElem?_append_left (List.getElem?_eq_some_iff.1 g2).1];exact g2⟩
     · intro σ σ' k h1 h2;split at h1
       · rename_i e;subst e;split at h2
         ·rename_i e';exact e'.symm
         ·simp at h1;subst h1;obtain⟨t',_,g2⟩:=hN.map σ' _ h2;have:=(List.getElem?_eq_some_iff.1 g2).1;omega
       · split at h2
         ·rename_i e';subst e';simp at h2;subst h2;obtain⟨t',_,g2⟩:=hN.map σ _ h1;have:=(List.getElem?_eq_some_iff.1 g2).1;omega
         ·exact hN.inj σ σ' k h1 h2
     · intro σ t' h1 h2;split at h2
       ·simp at h2
       ·rename_i e;rw[List.getElem?_set,if_neg (fun e'=>e e'.symm)];exact hN.free σ t' h1 h2
     · intro σ t' k h1 h2;split at h2
       ·rename_i e;subst e;rw[e1]at h1;cases h1;rw[List.getElem?_set,if_pos rfl,if_pos (List.getElem?_eq_some_iff.1 ho).1,hlen]
       ·rename_i e;rw[List.getElem?_set,if_neg (fun e'=>e e'.symm)];exact hN.used σ t' k h1 h2
     · intro k t' hk';rw[List.getElem?_append]at hk';split at hk'
       · rcases hN.cap k t' hk' with⟨σ,hσ⟩|hc
         · left;refine⟨σ,?_⟩;rw[if_neg]
           ·exact hσ
           ·rintro rfl;rw[hm]at hσ;simp at hσ
         ·exact .inr hc
       · rename_i hge;left;refine⟨τ,?_⟩
         have:k=tks.length:=by
           have:=(List.getElem?_eq_some_iff.1 hk').1;simp at this;omega
         simp[this]
     ·simp only[aB];refine⟨t,by simp[Gh.lV,hk],⟨by omega,e2.2⟩,e3,fun _=>e4 hlen⟩
   ·exact⟨m,tks,⟨hN,[],by simp⟩,by simp only[aB];exact e3⟩
 |_=>exact flat (by simpa[jL] using hx) rfl
theorem o_:∀{xs:List AV} {vs:List Value} {aI ts:aG} {m:Nat→Option Nat} {tks:List Tk},NS G aI ts m tks→fM xs=true→aw (num ns) G xs vs →
   ∃m' tks',GM ns G m tks (cD aI ts xs).2.1 (cD aI ts xs).2.2 m' tks'∧aw (num ns) (G.lV m' tks') (cD aI ts xs).1 vs
 |[],vs,aI,ts,m,tks,hN,_,h=>⟨m,tks,⟨hN,[],by simp⟩,by simpa only[cD,aw] using h⟩
 |x::xs,vs,aI,ts,m,tks,hN,hl,h=>by
   simp only[fM,Bool.and_eq_true]at hl;simp only[aw]at h;obtain⟨v,r,e,e1,e2⟩:=h;subst e;obtain⟨m1,t1,g1,g2⟩:=rB hN hl.1 e1;obtain⟨m2,t2,k1,k2⟩:=o_ g1.z5 hl.2 e2;refine⟨m2,t2,⟨k1.z5,?_⟩,?_⟩
   ·obtain⟨a,ha⟩:=g1.ext;obtain⟨b,hb⟩:=k1.ext;exact⟨a++b,by rw[hb,ha,List.append_assoc]⟩
   ·simp only[cD,aw];exact⟨v,r,rfl,g2.mono k1.le,k2⟩
theorem l9{aI ts:aG}{m:Nat→Option Nat}{tks:List Tk}(hN:NS G aI ts m tks){x:AV}{v:Value}(hx:lI x=true)(h:aB (num ns) G x v) :
   ∃m' tks',GM ns G m tks (bF aI ts x).2.1 (bF aI ts x).2.2 m' tks'∧aB (num ns) (G.lV m' tks') (bF aI ts x).1 v:=by
 have flat:bE x=true→bF aI ts x=(x,aI,ts)→∃m' tks',GM ns G m tks (bF aI ts x).2.1 (bF aI ts x).2.2 m' tks'∧aB (num ns) (G.lV m' tks') (bF aI ts x).1 v:=by
   intro hf e;rw[e];exact⟨m,tks,⟨hN,[],by simp⟩,z4 hf h⟩
 cases x with
 |own l τ=>exact rB (x:=.own l τ) hN rfl h
 |dH l=>
   simp only[aB]at h;obtain⟨base,len,rfl,hsl⟩:=h;have hk:ts.length=tks.length:=by rw[hN.ts];simp
   have hlen:=hsl.1
   obtain⟨sz,hrow⟩:∃sz,l=[]∨∃b o,base=some ⟨b,o,none⟩∧Row G.K b o sz l:=by
     rcases hsl.2 with h1|⟨b,o,sz,e,hr⟩
     ·exact⟨0,.inl h1⟩
     ·exact⟨sz,.inr ⟨b,o,e,hr⟩⟩
   let t:Tk:=⟨base,len,len,sz,false⟩
   refine⟨m,tks++[t],⟨⟨?_,?_,hN.inj,hN.free,hN.used,?_⟩,[t],rfl⟩,?_⟩
   ·simp only[bF];rw[hN.ts];simp[t,hlen]
   ·intro σ k hk';obtain⟨t',g1,g2⟩:=hN.map σ k hk';exact⟨t',g1,by rw[List.getElem?_append_left (List.getElem?_eq_some_iff.1 g2).1];exact g2⟩
   · intro k t' hk';rw[List.getElem?_append]at hk';split at hk'
     ·exact hN.cap k t' hk'
     · right
       have:t'=t:=by
         have h1:=List.mem_of_getElem? hk';simpa using h1
       rw[this];exact⟨rfl,rfl⟩
   ·simp only[bF,aB];refine⟨t,by simp[Gh.lV,hk],⟨by simp[t,hlen],t.sA⟩,cd.2 ⟨_,_,_,rfl,Nat.le_refl _,hsl⟩,fun _=>⟨rfl,hrow⟩⟩
 |az d o=>
   simp only[bF];exact⟨m,tks,⟨hN,[],by simp⟩,by simp only[aB]at h⊢;exact h⟩
 |jH d o=>
   simp only[bF];exact⟨m,tks,⟨hN,[],by simp⟩,by simp only[aB]at h⊢;exact h⟩
 |pv p=>exact flat rfl rfl
 |un=>exact flat rfl rfl
 |aW _ _=>exact flat rfl rfl
 |aP _ _ _ _=>exact flat rfl rfl
 |gf _=>exact flat rfl rfl
 |kr=>exact flat rfl rfl
 |fn _ _=>exact flat (by simpa[lI] using hx) rfl
 |agg cs=>
   by_cases hf:bE.ei cs=true
   ·exact flat (by simpa[bE] using hf) (by simp only[bF];rw[if_pos hf])
   · simp only[aB]at h;obtain⟨vs,rfl,r⟩:=h;obtain⟨m',tks',g1,g2⟩:=o_ hN (by simpa[lI] using hx) r;have e:bF aI ts (.agg cs)=(.agg (cD aI ts cs).1,(cD aI ts cs).2.1,(cD aI ts cs).2.2):=by simp only[bF];rw[if_neg hf]
     rw[e];exact⟨m',tks',g1,by simp only[aB];exact⟨vs,rfl,g2⟩⟩
 |qW _=>exact flat (by simpa[lI] using hx) rfl
 |ku _=>exact flat rfl rfl
 |p_ _ _ _=>exact flat rfl rfl
 |gg _=>simp only[aB]at h
theorem CJ{x:AV}(h:aT x=true):lI x=true:=by
 rcases nY h with hf|⟨l,τ,rfl⟩
 ·cases x<;>simp_all[lI,bE,aT]
 ·rfl
theorem CL{aI ts:aG}{x:AV}(h:aT x=true):aT (bF aI ts x).1=true:=by
 cases x with
 |own l τ=>simp only[bF];split<;>rfl
 |dH l=>rfl
 |agg _=>simp[aT]at h
 |_=>exact h
theorem l_:∀{xs:List AV} {vs:List Value} {aI ts:aG} {m:Nat→Option Nat} {tks:List Tk},NS G aI ts m tks→xs.all aT=true→aw (num ns) G xs vs →
   ∃m' tks',GM ns G m tks (bh aI ts xs).2.1 (bh aI ts xs).2.2 m' tks'∧aw (num ns) (G.lV m' tks') (bh aI ts xs).1 vs∧(bh aI ts xs).1.all aT=true
 |[],vs,aI,ts,m,tks,hN,_,h=>⟨m,tks,⟨hN,[],by simp⟩,by simpa only[bh,aw] using h,rfl⟩
 |x::xs,vs,aI,ts,m,tks,hN,hl,h=>by
   simp only[List.all_cons,Bool.and_eq_true]at hl;simp only[aw]at h;obtain⟨v,r,e,e1,e2⟩:=h;subst e;obtain⟨m1,t1,g1,g2⟩:=l9 hN (CJ hl.1) e1;obtain⟨m2,t2,k1,k2,k3⟩:=l_ g1.z5 hl.2 e2;refine⟨m2,t2,⟨k1.z5,?_⟩,?_,?_⟩
   ·obtain⟨a,ha⟩:=g1.ext;obtain⟨b,hb⟩:=k1.ext;exact⟨a++b,by rw[hb,ha,List.append_assoc]⟩
   ·simp only[bh,aw];exact⟨v,r,rfl,g2.mono k1.le,k2⟩
   ·simp only[bh,List.all_cons,k3,Bool.and_true];exact CL hl.1
theorem rC{a:Act}:∀{env:List (Nat×AV)} {aI ts:aG} {m:Nat→Option Nat} {tks:List Tk},NS G aI ts m tks →
   (∀p∈env,lI p.2=true∧∃v,a.tmps[p.1]?=some v∧aB (num ns) G p.2 v) →
   ∃m' tks',GM ns G m tks (df aI ts env).2.1 (df aI ts env).2.2 m' tks'∧∀p∈(df aI ts env).1,∃v,a.tmps[p.1]?=some v∧aB (num ns) (G.lV m' tks') p.2 v
 |[],aI,ts,m,tks,hN,_=>⟨m,tks,⟨hN,[],by simp⟩,by simp[df]⟩
 |(t,x)::env,aI,ts,m,tks,hN,h=>by
   obtain⟨hx,v,hv,hr⟩:=h (t,x) (by simp);obtain⟨m1,t1,g1,g2⟩:=l9 hN hx hr;obtain⟨m2,t2,k1,k2⟩:=rC (env:=env) (a:=a) g1.z5 (fun p hp=>h p (by simp[hp]));refine⟨m2,t2,⟨k1.z5,?_⟩,?_⟩
   ·obtain⟨a,ha⟩:=g1.ext;obtain⟨b,hb⟩:=k1.ext;exact⟨a++b,by rw[hb,ha,List.append_assoc]⟩
   · intro p hp;simp only[df,List.mem_cons]at hp;rcases hp with rfl|hp
     ·exact⟨v,hv,g2.mono k1.le⟩
     ·exact k2 p hp
def Q2(ns:Names)(G:Gh)(w:World)(d:Nat)(cells:List AV)(G':Gh):Prop:=
 ∃b c t,G.pm d=some b∧G.role b=.lO d∧w.heap[b]?=some (.cells c t (0,0))∧aw (num ns) G' cells c.toList∧cells.all aT=true
theorem rD:∀{mem:List (Nat×List AV)} {aI ts:aG} {m:Nat→Option Nat} {tks:List Tk},NS G aI ts m tks →
   (∀p∈mem,Q2 ns G w p.1 p.2 G) →
   ∃m' tks',GM ns G m tks (fm aI ts mem).2.1 (fm aI ts mem).2.2 m' tks'∧∀p∈(fm aI ts mem).1,Q2 ns G w p.1 p.2 (G.lV m' tks')
 |[],aI,ts,m,tks,hN,_=>⟨m,tks,⟨hN,[],by simp⟩,by simp[fm]⟩
 |(d,cells)::mem,aI,ts,m,tks,hN,h=>by
   obtain⟨b,c,t,h1,h2,h3,h4,h5⟩:=h (d,cells) (by simp);obtain⟨m1,t1,g1,g2,g3⟩:=l_ hN h5 h4;obtain⟨m2,t2,k1,k2⟩:=rD (mem:=mem) g1.z5 (fun p hp=>h p (by simp[hp]));refine⟨m2,t2,⟨k1.z5,?_⟩,?_⟩
   ·obtain⟨a,ha⟩:=g1.ext;obtain⟨b,hb⟩:=k1.ext;exact⟨a++b,by rw[hb,ha,List.append_assoc]⟩
   · intro p hp;simp only[fm,List.mem_cons]at hp;rcases hp with rfl|hp
     ·exact⟨b,c,t,h1,h2,h3,aw.mono k1.le g2,g3⟩
     ·exact k2 p hp
theorem CM{aI ts:aG}{n:Nat}{x:AV}(h:aK n x=true):aK n (eD aI ts x).1=true:=by
 unfold eD;split
 ·split<;>simp[aK]
 ·exact h
theorem rE{n:Nat}:∀{xs:List AV} {aI ts:aG},aK.cB n xs=true→aK.cB n (cD aI ts xs).1=true
 |[],_,_,_=>rfl
 |x::xs,aI,ts,h=>by
   simp only[aK.cB,Bool.and_eq_true]at h;simp only[cD,aK.cB,CM h.1,Bool.true_and];exact rE h.2
theorem CN{aI ts:aG}{n:Nat}{x:AV}(h:aK n x=true):aK n (bF aI ts x).1=true:=by
 unfold bF;split
 ·split<;>simp[aK]
 ·simp[aK]
 · split
   ·exact h
   ·simp only[aK]at h⊢;exact rE h
 ·exact h
theorem tK{n:Nat}:∀{xs:List AV} {aI ts:aG},xs.all (aK n)=true→(bh aI ts xs).1.all (aK n)=true
 |[],_,_,_=>rfl
 |x::xs,aI,ts,h=>by
   simp only[List.all_cons,Bool.and_eq_true]at h;simp only[bh,List.all_cons,CN h.1,Bool.true_and];exact tK h.2
theorem jS:∀{sh:Sh} {aI ts:aG} {m:Nat→Option Nat} {tks:List Tk} (R:Nat→Option (Obj×Nat)),NS G aI ts m tks →
   (∀s cells,sh[s]?=some (some cells)→cells.all aT=true∧∃o,R s=some o∧Holds (num ns) G o.1 o.2 cells) →
   ∃m' tks',GM ns G m tks (a9 aI ts sh).2.1 (a9 aI ts sh).2.2 m' tks'∧(a9 aI ts sh).1.length=sh.length ∧
     ∀s cells',(a9 aI ts sh).1[s]?=some (some cells')→∃cells,sh[s]?=some (some cells)∧(∃o,R s=some o∧Holds (num ns) (G.lV m' tks') o.1 o.2 cells')∧cells'.all aT=true∧∀n,cells.all (aK n)=true→cells'.all (aK n)=true
 |[],aI,ts,m,tks,R,hN,_=>⟨m,tks,⟨hN,[],by simp⟩,rfl,fun s cells' h=>by simp[a9]at h⟩
 |none::sh,aI,ts,m,tks,R,hN,h=>by
   obtain⟨m1,t1,g1,g2,g3⟩:=jS (sh:=sh) (fun s=>R (s+1)) hN (fun s cells hs=>h (s+1) cells (by simpa using hs));refine⟨m1,t1,g1,by simp[a9,g2],fun s cells' hs=>?_⟩;cases s with
   |zero=>simp[a9]at hs
   |succ s=>
     obtain⟨cells,k1,k2⟩:=g3 s cells' (by simpa[a9] using hs);exact⟨cells,by simpa using k1,k2⟩
 |some cs::sh,aI,ts,m,tks,R,hN,h=>by
   obtain⟨hl,o,hR,hr⟩:=h 0 cs rfl
   obtain⟨m1,t1,g1,g2,g3⟩:∃m' tks',GM ns G m tks (bh aI ts cs).2.1 (bh aI ts cs).2.2 m' tks'∧Holds (num ns) (G.lV m' tks') o.1 o.2 (bh aI ts cs).1∧(bh aI ts cs).1.all aT=true:=by
     rcases hr with⟨c,t,vs,suf,ho,e3,e4,hr⟩|⟨es,clock,kvs,ho,rfl,hm⟩
     ·obtain⟨m1,t1,g1,g2,g3⟩:=l_ hN hl hr;exact⟨m1,t1,g1,.inl ⟨c,t,vs,suf,ho,e3,e4,g2⟩,g3⟩
     ·exact⟨m,tks,⟨hN,[],by simp⟩,.inr ⟨es,clock,kvs,ho,rfl,hm⟩,rfl⟩
   obtain⟨m2,t2,k1,k2,k3⟩:=jS (sh:=sh) (fun s=>R (s+1)) g1.z5 (fun s cells hs=>h (s+1) cells (by simpa using hs));refine⟨m2,t2,⟨k1.z5,?_⟩,by simp[a9,k2],fun s cells' hs=>?_⟩
   ·obtain⟨a,ha⟩:=g1.ext;obtain⟨b,hb⟩:=k1.ext;exact⟨a++b,by rw[hb,ha,List.append_assoc]⟩
   · cases s with
     |zero=>
       simp only[a9,List.getElem?_cons_zero,Option.some.injEq]at hs;subst hs;exact⟨cs,rfl,⟨o,hR,g2.mono k1.le⟩,g3,fun n hn=>tK hn⟩
     |succ s=>
       obtain⟨cells,q1,q2⟩:=k3 s cells' (by simpa[a9] using hs);exact⟨cells,by simpa using q1,q2⟩
def k_(G:Gh)(w:World)(s:Nat):Option (Obj×Nat):=(G.sm s).bind fun b=>(w.heap[b.1]?).map fun o=>(o,b.2)
theorem Inv.k_{mem:List (Nat×List AV)}{sh:Sh}{aa:aG}(hi:Inv (num ns) G w mem sh aa):∀s cells,sh[s]?=some (some cells)→cells.all aT=true∧∃o,Go.Ab.k_ G w s=some o∧Holds (num ns) G o.1 o.2 cells:=by
 intro s cells hs;obtain⟨b,e1,e2,e3,e4⟩:=hi.dq s cells hs;obtain⟨hr,o,hh,hrel⟩:=e2;exact⟨e3,(o,b.2),by simp[Go.Ab.k_,e1,hh],hrel⟩
theorem Inv.PZ{mem:List (Nat×List AV)}{sh:Sh}{aa:aG}(hi:Inv (num ns) G w mem sh aa){sh':Sh}{G':Gh}(hsm:∀s,G'.sm s=G.sm s)(hrole:∀b s,G.role b=.shr s→G'.role b=.shr s)
   (h:∀s cells',sh'[s]?=some (some cells')→∃cells,sh[s]?=some (some cells)∧(∃o,Go.Ab.k_ G w s=some o∧Holds (num ns) G' o.1 o.2 cells')∧cells'.all aT=true∧∀n,cells.all (aK n)=true→cells'.all (aK n)=true) :
   ∀s cells,sh'[s]?=some (some cells)→∃b,G'.sm s=some b∧xy (num ns) G' w b (.shr s) cells∧cells.all cN=true∧cells.all (aK (s+1))=true:=by
 intro s cells' hs;obtain⟨cells,h1,⟨o,h2,h2'⟩,h3,h4⟩:=h s cells' hs;obtain⟨b,e1,e2,e3,e4⟩:=hi.dq s cells h1;simp only[Go.Ab.k_,e1,Option.bind_some,Option.map_eq_some_iff]at h2;obtain⟨o',h5,rfl⟩:=h2;exact⟨b,by rw[hsm];exact e1,⟨hrole b.1 s e2.role,o',h5,h2'⟩,h3,h4 _ e4⟩
theorem tL{α:Type}:∀{l:List (Nat×α)} {t:Nat} {x:α},look l t=some x→(t,x)∈l
 |[],_,_,h=>by simp[look]at h
 |(s,y)::l,t,x,h=>by
   simp only[look]at h;split at h
   ·rename_i e;subst e;cases h;simp
   ·exact List.mem_cons_of_mem _ (tL h)
theorem tM:∀{mem:List (Nat×List AV)} {aI ts:aG} {d:Nat},(look mem d).isSome=true→(look (fm aI ts mem).1 d).isSome=true
 |[],_,_,d,h=>by simp[look]at h
 |(s,y)::mem,aI,ts,d,h=>by
   simp only[fm,look]at h⊢;split
   ·rfl
   ·rename_i hne;rw[if_neg hne]at h;exact tM h
theorem NS.start{mem:List (Nat×List AV)}{sh:Sh}{aa:aG}(hi:Inv (num ns) G w mem sh aa):NS G aa [] (fun _=>none) [] where
 ts:=rfl
 map:=by intro τ k h;simp at h
 inj:=by intro τ σ k h;simp at h
 free:=fun τ t h _=>hi.e_ τ t h
 used:=by intro τ t k _ h;simp at h
 cap:=by intro k t h;simp at h
theorem gq{live:List Nat}{env:List (Nat×AV)}:∀{l:List Nat} {p:Nat×AV},p∈bD live env l→look env p.1=some p.2∧d8 live p.2=true
 |[],p,h=>by simp[bD]at h
 |s::l,p,h=>by
   simp only[bD]at h;split at h
   · rename_i u hu;split at h
     · rename_i hk;simp only[List.mem_cons]at h;rcases h with rfl|h
       ·exact⟨hu,hk⟩
       ·exact gq h
     ·exact gq h
   ·exact gq h
theorem iR{mem:List (Nat×List AV)}:∀{l:List Nat} {p:Nat×List AV},p∈bG mem l→look mem p.1=some p.2∧p.1∈l
 |[],p,h=>by simp[bG]at h
 |s::l,p,h=>by
   simp only[bG]at h;split at h
   · rename_i u hu;simp only[List.mem_cons]at h;rcases h with rfl|h
     ·exact⟨hu,by simp⟩
     ·obtain⟨h1,h2⟩:=iR h;exact⟨h1,by simp[h2]⟩
   ·obtain⟨h1,h2⟩:=iR h;exact⟨h1,by simp[h2]⟩
theorem gV.head{n0 N:Nat}{st:St}{a:Act}(h:gV (num ns) n0 N G st a w)(live:List Nat):∃G',gV (num ns) n0 N G' (norm (Go.Ab.restrict live st)) a w∧bK G w G' w:=by
 have h0:=h.restrict live;have hi:=h0.inv
 have hE:∀p∈(Go.Ab.restrict live st).env,lI p.2=true∧∃v,a.tmps[p.1]?=some v∧aB (num ns) (G.aU live) p.2 v:=by
   intro p hp;obtain⟨h1,h2⟩:=gq hp;obtain⟨v,h3,h4⟩:=h.env.env p.1 p.2 h1;refine⟨?_,v,h3,zZ h2 h4⟩;cases hpx:p.2<;>rw[hpx]at h2<;>simp_all[lI,d8,bE]
 have hM:∀p∈(Go.Ab.restrict live st).mem,Q2 ns (G.aU live) w p.1 p.2 (G.aU live):=by
   intro p hp;obtain⟨h1,h2⟩:=iR hp
   have h3:look (Go.Ab.restrict live st).mem p.1=some p.2:=by
     show look (bG st.mem live) p.1=some p.2;rw[dy,if_pos h2,h1]
   obtain⟨b,e1,e2,e3⟩:=hi.cT p.1 p.2 h3;obtain⟨hr,c,t,hh,hrel⟩:=e2;exact⟨b,c,t,e1,hr,hh,hrel,e3⟩
 obtain⟨m1,t1,g1,g2⟩:=rC (NS.start hi) hE;obtain⟨m3,t3,k1,k2⟩:=rD (w:=w) g1.z5 hM;obtain⟨m2,t2,q1,q2,q3⟩:=jS (k_ (G.aU live) w) k1.z5 hi.k_;have hN:=q1.z5;have hle3:=q1.le;have hle:=Gh.le_trans k1.le q1.le
 have hrole:∀b r,(G.aU live).role b=r→(∀τ,r≠.tok τ)→((G.aU live).lV m2 t2).role b=r:=by
   intro b r hr hn;show (match (G.aU live).role b with| .tok τ=>(match m2 τ with|some k=>l3.tok k|none=>.ez)|r=>r)=r;rw[hr];cases r with
   |tok τ=>exact absurd rfl (hn τ)
   |_=>rfl
 have hevo:bK G w ((G.aU live).lV m2 t2) w:={
   size:=Nat.le_refl _,os:=rfl,tape:=rfl,output:=rfl,K:=bl.le_refl G.K,sm:=fun _ _ h=>h,
   ez:=fun b _ hr=>⟨hrole b _ hr (by simp),rfl⟩
   iQ:=fun b τ _ hr=>by
     have hr':(G.aU live).role b=.tok τ:=hr;rw[kZ hr'];cases m2 τ with
     |none=>exact .inl rfl
     |some k=>exact .inr ⟨k,rfl⟩
   gN:=fun _ _ _ _ _ h=>h }
 refine⟨(G.aU live).lV m2 t2,⟨⟨h.env.size,fun t x hx=>?_⟩,?_,h.marks.q_ hevo rfl⟩,hevo⟩
 ·obtain⟨v,h1,h2⟩:=g2 (t,x) (tL hx);exact⟨v,h1,h2.mono hle⟩
 · constructor
   ·exact hi.known
   · intro b o v hk;rcases hi.aZ b o v hk with h1|⟨τ,h1⟩
     ·exact .inl (hrole b _ h1 (by simp))
     · rw[kZ h1];cases m2 τ with
       |none=>exact .inl rfl
       |some k=>exact .inr ⟨k,rfl⟩
   ·intro b hb;exact hrole b _ (hi.fresh b hb) (by simp)
   ·intro d cells hd;obtain⟨b,c,t,h1,h2,h3,h4,h5⟩:=k2 (d,cells) (tL hd);exact⟨b,h1,⟨hrole b _ h2 (by simp),c,t,h3,aw.mono hle3 h4⟩,h5⟩
   ·intro d b hd;exact tM (hi.gM d b hd)
   ·exact hi.PZ (G':=(G.aU live).lV m2 t2) (fun _=>rfl) (fun b s hr=>hrole b _ hr (by simp)) q3
   ·intro s b hs;have:=hi.eF s b hs;have e:(norm (Go.Ab.restrict live st)).sh.length=(Go.Ab.restrict live st).sh.length:=q2;omega
   · intro k n hn;have hts:(norm (Go.Ab.restrict live st)).aa=t2.map (·.len):=hN.ts;rw[hts,List.getElem?_map,Option.map_eq_some_iff]at hn;obtain⟨t,ht,rfl⟩:=hn;refine⟨t,ht,rfl,?_⟩;rcases hN.cap k t ht with⟨τ,hτ⟩|hc
     ·obtain⟨t',h1,h2⟩:=hN.map τ k hτ;rw[ht]at h2;cases h2;obtain⟨t'',e1,e2,e3⟩:=hi.dh τ _ (hi.e_ τ t h1);rw[h1]at e1;cases e1;refine⟨e3.cap,e3.zero,fun hlt=>?_⟩;obtain⟨b,o,c,ty,f1,f2,f3,f4,f5⟩:=e3.spare hlt;refine⟨b,o,c,ty,f1,?_,f3,f4,f5⟩;rw[kZ f2,hτ]
     ·exact⟨by omega,fun h=>by omega,fun h=>h.elim (fun h=>by omega) (fun h=>by rw[hc.2]at h;cases h)⟩
   ·intro k t ht;have hts:(norm (Go.Ab.restrict live st)).aa=t2.map (·.len):=hN.ts;rw[hts,List.getElem?_map];have ht':t2[k]?=some t:=ht;rw[ht'];rfl
   ·exact fun b c hb=>⟨hrole b _ (hi.kz b c hb).1 (by simp),(hi.kz b c hb).2⟩
end
end Go.Ab
namespace Go.Ab
section
variable {P:Program} {ns:Names} {G:Gh} {w:World}
theorem z6{x:AV}(h:ky x=true):jL x=true:=by
 cases x with
 |own _ _=>rfl
 |_=>simpa[jL,ky] using kY (by simpa[ky] using h)
theorem lf:∀{xs:List AV},fh xs=true→fM xs=true
 |[],_=>rfl
 |x::xs,h=>by
   simp only[fh,Bool.and_eq_true]at h;simp only[fM,z6 h.1,lf h.2,Bool.and_self]
theorem z7{x:AV}(h:bJ x=true):lI x=true:=by
 cases x with
 |own _ _=>rfl
 |az _ _=>rfl
 |agg cs=>simp only[lI];exact lf (by simpa[bJ] using h)
 |_=>simpa[lI,bJ] using kY (by simpa[bJ] using h)
theorem z8{aI ts:aG}{x:AV}(h:ky x=true):ky (eD aI ts x).1=true:=by
 unfold eD;split
 ·split<;>rfl
 ·exact h
theorem rG:∀{xs:List AV} {aI ts:aG},fh xs=true→fh (cD aI ts xs).1=true
 |[],_,_,_=>rfl
 |x::xs,aI,ts,h=>by
   simp only[fh,Bool.and_eq_true]at h;simp only[cD,fh,z8 h.1,Bool.true_and];exact rG h.2
theorem z9{aI ts:aG}{x:AV}(h:bJ x=true):bJ (bF aI ts x).1=true:=by
 unfold bF;split
 ·split<;>rfl
 ·rfl
 · split
   ·exact h
   ·simp only[bJ]at h⊢;exact rG h
 ·exact h
theorem iI:∀{xs:List AV} {aI ts:aG},xs.all bJ=true→(bh aI ts xs).1.all bJ=true
 |[],_,_,_=>rfl
 |x::xs,aI,ts,h=>by
   simp only[List.all_cons,Bool.and_eq_true]at h;simp only[bh,List.all_cons,z9 h.1,Bool.true_and];exact iI h.2
theorem z_{x:AV}(h:aT x=true):bJ x=true:=by
 cases x with
 |own _ _=>rfl
 |fn g cap=>simpa[aT,bJ] using h
 |pv _=>rfl
 |dH _=>rfl
 |aW _ _=>rfl
 |aP _ _ _ _=>rfl
 |kr=>rfl
 |ku _=>rfl
 |gg _=>rfl
 |_=>simp[aT]at h
theorem jd{xs:List AV}(h:xs.all aT=true):xs.all bJ=true:=by
 rw[List.all_eq_true]at *;exact fun x hx=>z_ (h x hx)
theorem pc:∀{xs:List AV} {vs:List Value} {aI ts:aG} {m:Nat→Option Nat} {tks:List Tk},NS G aI ts m tks→xs.all bJ=true→aw (num ns) G xs vs →
   ∃m' tks',GM ns G m tks (bh aI ts xs).2.1 (bh aI ts xs).2.2 m' tks'∧aw (num ns) (G.lV m' tks') (bh aI ts xs).1 vs
 |[],vs,aI,ts,m,tks,hN,_,h=>⟨m,tks,⟨hN,[],by simp[bh]⟩,by simpa only[bh,aw] using h⟩
 |x::xs,vs,aI,ts,m,tks,hN,hp,h=>by
   simp only[List.all_cons,Bool.and_eq_true]at hp;simp only[aw]at h;obtain⟨v,r,e,e1,e2⟩:=h;subst e;obtain⟨m1,t1,g1,g2⟩:=l9 hN (z7 hp.1) e1;obtain⟨m2,t2,k1,k2⟩:=pc g1.z5 hp.2 e2;refine⟨m2,t2,⟨k1.z5,?_⟩,?_⟩
   ·obtain⟨a,ha⟩:=g1.ext;obtain⟨b,hb⟩:=k1.ext;exact⟨a++b,by rw[hb,ha,List.append_assoc]⟩
   ·simp only[bh,aw];exact⟨v,r,rfl,g2.mono k1.le,k2⟩
theorem GN{aI ts:aG}{x:AV}:(eD aI ts x).2.1.length=aI.length:=by
 unfold eD;split
 ·split<;>simp
 ·rfl
theorem tN:∀{xs:List AV} {aI ts:aG},(cD aI ts xs).2.1.length=aI.length
 |[],_,_=>rfl
 |x::xs,aI,ts=>by simp only[cD];rw[tN,GN]
theorem GO{aI ts:aG}{x:AV}:(bF aI ts x).2.1.length=aI.length:=by
 unfold bF;split
 ·split<;>simp
 ·rfl
 · split
   ·rfl
   ·exact tN
 ·rfl
theorem qk:∀{xs:List AV} {aI ts:aG},(bh aI ts xs).2.1.length=aI.length
 |[],_,_=>rfl
 |x::xs,aI,ts=>by simp only[bh];rw[qk,GO]
theorem ql:∀{sh:Sh} {aI ts:aG},(a9 aI ts sh).2.1.length=aI.length
 |[],_,_=>rfl
 |none::sh,aI,ts=>by simp only[a9];exact ql
 |some cs::sh,aI,ts=>by simp only[a9];rw[ql,qk]
def Gh.to(G:Gh)(m:Nat→Option Nat)(tks:List Tk):Gh:=
 { K:=G.K,role:=fun b=>match G.role b with| .shr s=>.shr s| .tok τ=>(match m τ with|some k=>.tok k|none=>.ez)|_=>.ez,pm:=fun _=>none,sm:=G.sm,tk:=fun k=>tks[k]? }
theorem Q3{m:Nat→Option Nat}{tks:List Tk}{b s:Nat}(h:G.role b=.shr s):(G.to m tks).role b=.shr s:=by simp[Gh.to,h]
theorem xN{m:Nat→Option Nat}{tks:List Tk}{b τ k:Nat}(h:G.role b=.tok τ)(hm:m τ=some k):(G.to m tks).role b=.tok k:=by simp[Gh.to,h,hm]
theorem pd{m:Nat→Option Nat}{tks:List Tk}{b τ:Nat}(h:G.role b=.tok τ)(hm:m τ=none):(G.to m tks).role b=.ez:=by simp[Gh.to,h,hm]
theorem mc{m:Nat→Option Nat}{tks:List Tk}{b:Nat}(h:G.role b=.ez):(G.to m tks).role b=.ez:=by simp[Gh.to,h]
theorem xQ{m:Nat→Option Nat}{tks:List Tk}{b d:Nat}(h:G.role b=.lO d):(G.to m tks).role b=.ez:=by simp[Gh.to,h]
theorem CO{ρ:bQ}{G':Gh}(hK:G.K.le G'.K)(hs:∀s b,G.sm s=some b→G'.sm s=some b)(ht:∀τ t,G.tk τ=some t→G'.tk τ=some t){xs:List AV}{vs:List Value}(hp:fh xs=true)(h:aw ρ G xs vs):aw ρ G' xs vs:=
 jy hK hs ht (lf hp) h
theorem GP{ρ:bQ}{G':Gh}(hK:G.K.le G'.K)(hs:∀s b,G.sm s=some b→G'.sm s=some b)(ht:∀τ t,G.tk τ=some t→G'.tk τ=some t){x:AV}{v:Value}(hp:bJ x=true)(h:aB ρ G x v):aB ρ G' x v:=by
 cases x with
 |own l τ=>
   simp only[aB]at h⊢;obtain⟨t,e1,e2,e3,e4⟩:=h;exact⟨t,ht _ _ e1,e2,e3.mono hK,fun hl=>⟨(e4 hl).1,NO (e4 hl).2 fun⟨b,o,e,r⟩=>⟨b,o,e,Row.mono hK _ _ _ _ r⟩⟩⟩
 |agg cs=>
   simp only[aB]at h⊢;obtain⟨vs,e,r⟩:=h;exact⟨vs,e,CO hK hs ht (by simpa[bJ] using hp) r⟩
 |_=>exact mT hK hs (by simpa[bJ] using hp) h
theorem jz{ρ:bQ}{G':Gh}(hK:G.K.le G'.K)(hs:∀s b,G.sm s=some b→G'.sm s=some b)(ht:∀τ t,G.tk τ=some t→G'.tk τ=some t):∀{xs:List AV} {vs:List Value},xs.all bJ=true→aw ρ G xs vs→aw ρ G' xs vs
 |[],_,_,h=>by simpa only[aw] using h
 |x::xs,_,hp,h=>by
   simp only[List.all_cons,Bool.and_eq_true]at hp;simp only[aw]at h⊢;obtain⟨v,r,e,e1,e2⟩:=h;exact⟨v,r,e,GP hK hs ht hp.1 e1,jz hK hs ht hp.2 e2⟩
theorem Inv.JX{mem:List (Nat×List AV)}{sh:Sh}{aa:aG}(hi:Inv (num ns) G w mem sh aa){xs:List AV}{vs:List Value}(hp:xs.all bJ=true)(hr:aw (num ns) G xs vs) :
   ∃m tks,NS G (cS aa xs sh).2.2.1 (cS aa xs sh).2.2.2 m tks∧Inv (num ns) (G.to m tks) w [] (cS aa xs sh).2.1 (cS aa xs sh).2.2.2∧aw (num ns) (G.to m tks) (cS aa xs sh).1 vs:=by
 obtain⟨m0,tks0,hR,hrel⟩:=pc (NS.start hi) hp hr;obtain⟨m,tks,q1,q2,q3⟩:=jS (Go.Ab.k_ G w) hR.z5 hi.k_;have hN:=q1.z5;refine⟨m,tks,hN,?_,jz (G:=G.lV m tks) (G':=G.to m tks) (bl.le_refl _) (fun _ _ h=>h) (fun _ _ h=>h) (iI hp) (aw.mono q1.le hrel)⟩;constructor
 ·exact hi.known
 · intro b o v hk;rcases hi.aZ b o v hk with h|⟨τ,h⟩
   ·exact .inl (mc h)
   · cases hm:m τ with
     |none=>exact .inl (pd h hm)
     |some k=>exact .inr ⟨k,xN h hm⟩
 ·intro b hb;exact mc (hi.fresh b hb)
 ·intro d cells h;simp[look]at h
 ·intro d b h;simp[Gh.to]at h
 ·refine hi.PZ (G':=G.to m tks) (fun _=>rfl) (fun b s hr=>Q3 hr) fun s cells' hs=>?_;obtain⟨cells,h1,h2,h3,h4⟩:=q3 s cells' hs;obtain⟨o,h2,h2'⟩:=h2;exact⟨cells,h1,⟨o,h2,h2'.to (fun _ _ _ h=>h) (fun _ e=>e) (fun _ r=>jz (G:=G.lV m tks) (G':=G.to m tks) (bl.le_refl _) (fun _ _ h=>h) (fun _ _ h=>h) (jd h3) r)⟩,h3,h4⟩
 ·intro s b hs;have:=hi.eF s b hs;have e:(cS aa xs sh).2.1.length=sh.length:=q2;omega
 · intro k n hn;have hts:(cS aa xs sh).2.2.2=tks.map (·.len):=hN.ts;rw[hts,List.getElem?_map,Option.map_eq_some_iff]at hn;obtain⟨t,ht,rfl⟩:=hn;refine⟨t,ht,rfl,?_⟩;rcases hN.cap k t ht with⟨τ,hτ⟩|hc
   ·obtain⟨t',h1,h2⟩:=hN.map τ k hτ;rw[ht]at h2;cases h2;obtain⟨t'',e1,e2,e3⟩:=hi.dh τ _ (hi.e_ τ t h1);rw[h1]at e1;cases e1;refine⟨e3.cap,e3.zero,fun hlt=>?_⟩;obtain⟨b,o,c,ty,f1,f2,f3,f4,f5⟩:=e3.spare hlt;exact⟨b,o,c,ty,f1,xN f2 hτ,f3,f4,f5⟩
   ·exact⟨by omega,fun h=>by omega,fun h=>h.elim (fun h=>by omega) (fun h=>by rw[hc.2]at h;cases h)⟩
 ·intro k t ht;have hts:(cS aa xs sh).2.2.2=tks.map (·.len):=hN.ts;rw[hts,List.getElem?_map];have ht':tks[k]?=some t:=ht;rw[ht'];rfl
 ·exact fun b c hb=>⟨mc (hi.kz b c hb).1,(hi.kz b c hb).2⟩
theorem GQ{aa:aG}{xs:List AV}{sh:Sh}:(cS aa xs sh).2.2.1.length=aa.length:=by
 unfold cS;simp only[ql,qk]
theorem bK.to{G1:Gh}{w1:World}(h:bK G w G1 w1)(m:Nat→Option Nat)(tks:List Tk):bK G w (G1.to m tks) w1 where
 size:=h.size
 os:=h.os
 tape:=h.tape
 output:=h.output
 K:=h.K
 sm:=h.sm
 ez:=fun b hb hr=>⟨mc (h.ez b hb hr).1,(h.ez b hb hr).2⟩
 iQ:=fun b τ hb hr=>by
   rcases h.iQ b τ hb hr with h1|⟨τ',h1⟩
   ·exact .inl (mc h1)
   · cases hm:m τ' with
     |none=>exact .inl (pd h1 hm)
     |some k=>exact .inr ⟨k,xN h1 hm⟩
 gN:=h.gN
def nZ(N:Nat):l3→l3
 | .tok k=>.tok (k+N)
 | .shr s=>.shr s
 |_=>.ez
def Gh.back(G:Gh)(m:Nat→Option Nat)(G1:Gh)(n N:Nat):Gh:=
 { K:=G1.K,
   role:=fun b=>if b<n then (match G.role b with| .shr _=>nZ N (G1.role b)| .tok τ=>(match m τ with|some _=>nZ N (G1.role b)|none=>.tok τ)|r=>r) else nZ N (G1.role b),
   pm:=G.pm,sm:=G1.sm,
   tk:=fun τ=>if τ<N then (match G.tk τ with|some t=>(match m τ with|some _=>some { t with base:=none,len:=t.len+1,cap:=t.len+1,own:=false }|none=>some t)|none=>none) else G1.tk (τ-N) }
theorem tO{G1 G':Gh}{N:Nat}(hK:G1.K.le G'.K)(hs:∀s b,G1.sm s=some b→G'.sm s=some b)(ht:∀τ t,G1.tk τ=some t→G'.tk (τ+N)=some t){x:AV}{v:Value}(hp:ky x=true)(h:aB (num ns) G1 x v):aB (num ns) G' (jm N x) v:=by
 cases x with
 |own l τ=>
   simp only[jm,aB]at h⊢;obtain⟨t,e1,e2,e3,e4⟩:=h;exact⟨t,ht _ _ e1,e2,e3.mono hK,fun hl=>⟨(e4 hl).1,NO (e4 hl).2 fun⟨b,o,e,r⟩=>⟨b,o,e,Row.mono hK _ _ _ _ r⟩⟩⟩
 |_=>
   simp only[jm];exact mT (G:=G1) (G':=G') hK hs (by simpa[ky] using hp) h
theorem rH{G1 G':Gh}{N:Nat}(hK:G1.K.le G'.K)(hs:∀s b,G1.sm s=some b→G'.sm s=some b)(ht:∀τ t,G1.tk τ=some t→G'.tk (τ+N)=some t):∀{xs:List AV} {vs:List Value},fh xs=true→aw (num ns) G1 xs vs→aw (num ns) G' (xs.map (jm N)) vs
 |[],_,_,h=>by simpa only[List.map_nil,aw] using h
 |x::xs,_,hp,h=>by
   simp only[fh,Bool.and_eq_true]at hp;simp only[List.map_cons,aw]at h⊢;obtain⟨v,r,e,e1,e2⟩:=h;exact⟨v,r,e,tO hK hs ht hp.1 e1,rH hK hs ht hp.2 e2⟩
theorem v_{G1 G':Gh}{N:Nat}(hK:G1.K.le G'.K)(hs:∀s b,G1.sm s=some b→G'.sm s=some b)(ht:∀τ t,G1.tk τ=some t→G'.tk (τ+N)=some t){x:AV}{v:Value}(hp:bJ x=true)(h:aB (num ns) G1 x v):aB (num ns) G' (da N x) v:=by
 cases x with
 |own l τ=>exact tO (x:=.own l τ) hK hs ht rfl h
 |agg cs=>
   simp only[da];split
   ·rename_i hf;exact jh (G:=G1) (G':=G') hK hs (by simpa[bE] using hf) h
   ·simp only[aB]at h⊢;obtain⟨vs,e,r⟩:=h;exact⟨vs,e,rH hK hs ht (by simpa[bJ] using hp) r⟩
 |_=>
   simp only[da];exact mT (G:=G1) (G':=G') hK hs (by simpa[bJ] using hp) h
theorem n_{G1 G':Gh}{N:Nat}(hK:G1.K.le G'.K)(hs:∀s b,G1.sm s=some b→G'.sm s=some b)(ht:∀τ t,G1.tk τ=some t→G'.tk (τ+N)=some t):∀{xs:List AV} {vs:List Value},xs.all bJ=true→aw (num ns) G1 xs vs→aw (num ns) G' (xs.map (da N)) vs
 |[],_,_,h=>by simpa only[List.map_nil,aw] using h
 |x::xs,_,hp,h=>by
   simp only[List.all_cons,Bool.and_eq_true]at hp;simp only[List.map_cons,aw]at h⊢;obtain⟨v,r,e,e1,e2⟩:=h;exact⟨v,r,e,v_ hK hs ht hp.1 e1,n_ hK hs ht hp.2 e2⟩
theorem Fz{m:Nat→Option Nat}{G1:Gh}{n N:Nat}:∀τ t,G1.tk τ=some t→(G.back m G1 n N).tk (τ+N)=some t:=by
 intro τ t h;simp only[Gh.back];rw[if_neg (by omega),Nat.add_sub_cancel];exact h
theorem GR{m:Nat→Option Nat}{G1:Gh}{n N:Nat}{xs:List AV}{vs:List Value}(hp:xs.all bJ=true)(h:aw (num ns) G1 xs vs):aw (num ns) (G.back m G1 n N) (xs.map (da N)) vs:=
 n_ (G1:=G1) (G':=G.back m G1 n N) (N:=N) (bl.le_refl G1.K) (fun _ _ h=>h) Fz hp h
theorem Aa{N n:Nat}{x:AV}(h:aK n x=true):aK n (jm N x)=true:=by
 cases x with
 |own _ _=>rfl
 |_=>exact h
theorem pe{N n:Nat}:∀{xs:List AV},aK.cB n xs=true→aK.cB n (xs.map (jm N))=true
 |[],_=>rfl
 |x::xs,h=>by
   simp only[aK.cB,Bool.and_eq_true]at h;simp only[List.map_cons,aK.cB,Aa h.1,pe h.2,Bool.and_self]
theorem Ac{N n:Nat}{x:AV}(h:aK n x=true):aK n (da N x)=true:=by
 cases x with
 |own _ _=>rfl
 |agg cs=>
   simp only[da];split
   ·exact h
   ·simp only[aK]at h⊢;exact pe h
 |_=>exact h
theorem Ad{N:Nat}{x:AV}(h:aT x=true):aT (da N x)=true:=by
 cases x with
 |own _ _=>rfl
 |agg _=>simp[aT]at h
 |_=>exact h
theorem Inv.back{G1:Gh}{w1:World}{mem:List (Nat×List AV)}{sh sh':Sh}{aa aI ts ts':aG}{m:Nat→Option Nat}{tks:List Tk}(hi:Inv (num ns) G w mem sh aa)(hN:NS G aI ts m tks)(hol:aI.length=aa.length)
   (h1:Inv (num ns) G1 w1 [] sh' ts') (he:bK (G.to m tks) w G1 w1) :
   Inv (num ns) (G.back m G1 w.heap.size aa.length) w1 mem (ej aa.length sh') (aI++ts')∧G.le (G.back m G1 w.heap.size aa.length)∧bK G w (G.back m G1 w.heap.size aa.length) w1:=by
 have htl:∀τ t,G.tk τ=some t→τ<aa.length:=fun τ t h=>(List.getElem?_eq_some_iff.1 (hi.e_ τ t h)).1
 have tkNone:∀τ t,G.tk τ=some t→m τ=none→(G.back m G1 w.heap.size aa.length).tk τ=some t:=by
   intro τ t h hm;simp only[Gh.back,if_pos (htl τ t h),h,hm]
 have tkSome:∀τ t k,G.tk τ=some t→m τ=some k→(G.back m G1 w.heap.size aa.length).tk τ=some { t with base:=none,len:=t.len+1,cap:=t.len+1,own:=false }:=by
   intro τ t k h hm;simp only[Gh.back,if_pos (htl τ t h),h,hm]
 have hle:G.le (G.back m G1 w.heap.size aa.length):=⟨he.K,fun _ _ h=>h,he.sm,fun τ t h=>by
   cases hm:m τ with
   |none=>exact⟨t,tkNone τ t h hm,⟨Nat.le_refl _,Tk.gL _⟩,fun _=>rfl⟩
   |some k=>exact⟨_,tkSome τ t k h hm,⟨by simp,fun _=>⟨rfl,by simp⟩,.inl ⟨rfl,by simp⟩⟩,fun e=>by simp at e⟩⟩
 have rImm:∀b,b<w.heap.size→G.role b=.ez→(G.back m G1 w.heap.size aa.length).role b=.ez:=by intro b hb hr;simp only[Gh.back,if_pos hb,hr]
 have rPriv:∀b d,b<w.heap.size→G.role b=.lO d→(G.back m G1 w.heap.size aa.length).role b=.lO d:=by intro b d hb hr;simp only[Gh.back,if_pos hb,hr]
 have rFree:∀b τ,b<w.heap.size→G.role b=.tok τ→m τ=none→(G.back m G1 w.heap.size aa.length).role b=.tok τ:=by intro b τ hb hr hm;simp only[Gh.back,if_pos hb,hr,hm]
 have rTok:∀b τ k,b<w.heap.size→G.role b=.tok τ→m τ=some k→(G.back m G1 w.heap.size aa.length).role b=nZ aa.length (G1.role b):=by intro b τ k hb hr hm;simp only[Gh.back,if_pos hb,hr,hm]
 have rShr:∀b s,b<w.heap.size→G.role b=.shr s→(G.back m G1 w.heap.size aa.length).role b=nZ aa.length (G1.role b):=by intro b s hb hr;simp only[Gh.back,if_pos hb,hr]
 have rNew:∀b,¬b<w.heap.size→(G.back m G1 w.heap.size aa.length).role b=nZ aa.length (G1.role b):=by intro b hb;simp only[Gh.back,if_neg hb]
 have rOut:∀b,G1.role b≠.ez→(G.back m G1 w.heap.size aa.length).role b=nZ aa.length (G1.role b):=by
   intro b hn;by_cases hb:b<w.heap.size
   · cases hr:G.role b with
     |shr s=>exact rShr b s hb hr
     |ez=>exact absurd (he.ez b hb (mc hr)).1 hn
     |lO d=>exact absurd (he.ez b hb (xQ hr)).1 hn
     |tok τ=>
       cases hm:m τ with
       |none=>exact absurd (he.ez b hb (pd hr hm)).1 hn
       |some k=>exact rTok b τ k hb hr hm
   ·exact rNew b hb
 have shKnown:∀b o v,G1.K b o=some v→nZ aa.length (G1.role b)=.ez∨∃τ,nZ aa.length (G1.role b)=.tok τ:=by
   intro b o v hk;rcases h1.aZ b o v hk with h|⟨τ,h⟩
   ·left;rw[h];rfl
   ·right;exact⟨τ+aa.length,by rw[h];rfl⟩
 have hevo:bK G w (G.back m G1 w.heap.size aa.length) w1:={
           size:=he.size,os:=he.os,tape:=he.tape,output:=he.output,K:=he.K,sm:=he.sm,
           ez:=fun b hb hr=>⟨rImm b hb hr,(he.ez b hb (mc hr)).2⟩
           iQ:=fun b τ hb hr=>by
             cases hm:m τ with
             |none=>exact .inr ⟨τ,rFree b τ hb hr hm⟩
             |some k=>
               rw[rTok b τ k hb hr hm];rcases he.iQ b k hb (xN hr hm) with h|⟨τ',h⟩
               ·left;rw[h];rfl
               ·right;exact⟨τ'+aa.length,by rw[h];rfl⟩
           gN:=fun b o v hb hr hk=>he.gN b o v hb (mc hr) hk }
 refine⟨⟨h1.known,?_,?_,?_,hi.gM,?_,?_,?_,?_,hi.ic hevo⟩,hle,hevo⟩
 · intro b o v hk;have hk1:G1.K b o=some v:=hk;by_cases hb:b<w.heap.size
   · cases hr:G.role b with
     |shr s=>rw[rShr b s hb hr];exact shKnown b o v hk1
     |ez=>exact .inl (rImm b hb hr)
     |tok τ=>
       cases hm:m τ with
       |none=>exact .inr ⟨τ,rFree b τ hb hr hm⟩
       |some k=>rw[rTok b τ k hb hr hm];exact shKnown b o v hk1
     |lO d=>
       exfalso;have hk0:G.K b o=some v:=he.gN b o v hb (xQ hr) hk1;rcases hi.aZ b o v hk0 with h|⟨τ,h⟩<;>rw[hr]at h<;>simp at h
   ·rw[rNew b hb];exact shKnown b o v hk1
 ·intro b hb;have:=he.size;rw[rNew b (by omega),h1.fresh b hb];rfl
 ·intro d cs hd;obtain⟨b,e1,e2,e3⟩:=hi.cT d cs hd;obtain⟨hr,c,t,hh,hrel⟩:=e2;have hb:=cr hh;exact⟨b,e1,⟨rPriv b d hb hr,c,t,((he.ez b hb (xQ hr)).2).trans hh,aw.mono hle hrel⟩,e3⟩
 · intro s cs0 hs0;simp only[ej,List.getElem?_map,Option.map_eq_some_iff]at hs0;obtain⟨o,hs,ho⟩:=hs0;cases o with
   |none=>simp at ho
   |some cs=>
     simp at ho;subst ho;obtain⟨b,e1,e2,e3,e4⟩:=h1.dq s cs hs;obtain⟨hr,o,hh,hrel⟩:=e2;refine⟨b,e1,⟨?_,o,hh,hrel.to (fun _ _ _ h=>h) (fun kvs e=>by subst e;rfl) (fun _ r=>GR (jd e3) r)⟩,?_,?_⟩
     ·rw[rOut b.1 (by rw[hr];simp),hr];rfl
     ·rw[List.all_eq_true];intro x hx;obtain⟨y,hy,rfl⟩:=List.mem_map.1 hx;exact Ad (List.all_eq_true.1 e3 y hy)
     ·rw[List.all_eq_true];intro x hx;obtain⟨y,hy,rfl⟩:=List.mem_map.1 hx;exact Ac (List.all_eq_true.1 e4 y hy)
 ·intro s b h;have:=h1.eF s b h;simp only[ej,List.length_map];exact this
 · intro τ n hn;by_cases hτ:τ<aa.length
   · rw[List.getElem?_append_left (by omega)]at hn;obtain⟨t,e1,e2,e3⟩:=hi.dh τ _ (List.getElem?_eq_getElem hτ);cases hm:m τ with
     |none=>
       have:=hN.free τ t e1 hm;rw[hn]at this;simp at this;refine⟨t,tkNone τ t e1 hm,this.symm,e3.cap,e3.zero,fun hlt=>?_⟩;obtain⟨b,o,c,ty,f1,f2,f3,f4,f5⟩:=e3.spare hlt;have hb:=cr f3;exact⟨b,o,c,ty,f1,rFree b τ hb f2 hm,((he.ez b hb (pd f2 hm)).2).trans f3,f4,fun j v hk=>f5 j v (he.gN b j v hb (pd f2 hm) hk)⟩
     |some k=>
       have:=hN.used τ t k e1 hm;rw[hn]at this;simp at this;exact⟨_,tkSome τ t k e1 hm,this.symm,⟨Nat.le_refl _,fun h=>by simp at h,fun h=>by simp at h⟩⟩
   ·rw[List.getElem?_append_right (by omega),hol]at hn;obtain⟨t,e1,e2,e3⟩:=h1.dh _ n hn;refine⟨t,by simp only[Gh.back,if_neg hτ];exact e1,e2,e3.cap,e3.zero,fun hlt=>?_⟩;obtain⟨b,o,c,ty,f1,f2,f3,f4,f5⟩:=e3.spare hlt;refine⟨b,o,c,ty,f1,?_,f3,f4,f5⟩;rw[rOut b (by rw[f2];simp),f2];simp only[nZ];rw[Nat.sub_add_cancel (by omega)]
 · intro τ t ht;simp only[Gh.back]at ht;split at ht
   · rename_i hτ;rw[List.getElem?_append_left (by omega)];split at ht
     · rename_i t0 h0;split at ht
       ·rename_i k hm;simp at ht;subst ht;exact hN.used τ t0 k h0 hm
       ·rename_i hm;simp at ht;subst ht;exact hN.free τ t0 h0 hm
     ·simp at ht
   ·rename_i hτ;rw[List.getElem?_append_right (by omega),hol];exact h1.e_ _ t ht
theorem pg{G1 G':Gh}{N:Nat}(hK:G1.K.le G'.K)(hs:∀s b,G1.sm s=some b→G'.sm s=some b)(ht:∀τ t,G1.tk τ=some t→G'.tk (τ+N)=some t){rs:List AV}{v:Value}(hp:rs.all bJ=true)(h:cU (num ns) G1 rs v):cU (num ns) G' (rs.map (da N)) v:=by
 unfold cU at h;split at h
 ·rename_i r;simp only[List.all_cons,List.all_nil,Bool.and_true]at hp;simp only[List.map_cons,List.map_nil,cU];exact v_ hK hs ht hp h
 · rename_i hn;obtain⟨vs,e,h⟩:=h;unfold cU;split
   · rename_i r he;cases rs with
     |nil=>simp at he
     |cons a rs=>
       cases rs with
       |nil=>exact absurd rfl (hn a)
       |cons _ _=>simp at he
   ·exact⟨vs,e,n_ hK hs ht hp h⟩
theorem Ae{m:Nat→Option Nat}{G1:Gh}{n N:Nat}{rs:List AV}{v:Value}(hp:rs.all bJ=true)(h:cU (num ns) G1 rs v):cU (num ns) (G.back m G1 n N) (rs.map (da N)) v:=
 pg (G1:=G1) (G':=G.back m G1 n N) (N:=N) (bl.le_refl G1.K) (fun _ _ h=>h) Fz hp h
def Wm(N:Nat):l3→l3
 | .tok k=>.tok (k+N)
 |_=>.ez
def Gh.FA(G:Gh):Gh:={ K:=G.K,role:=fun _=>.ez,pm:=fun _=>none,sm:=fun _=>none,tk:=fun _=>none }
theorem Inv.FA{mem:List (Nat×List AV)}{sh:Sh}{aa:aG}(hi:Inv (num ns) G w mem sh aa):Inv (num ns) G.FA w [] [] [] where
 known:=hi.known
 aZ:=fun _ _ _ _=>.inl rfl
 fresh:=fun _ _=>rfl
 cT:=fun d c h=>by simp[look]at h
 gM:=fun d b h=>by simp[Gh.FA]at h
 dq:=fun s c h=>by simp at h
 eF:=fun s b h=>by simp[Gh.FA]at h
 dh:=fun τ n h=>by simp at h
 e_:=fun τ t h=>by simp[Gh.FA]at h
 kz:=fun b c hb=>⟨rfl,(hi.kz b c hb).2⟩
def Gh.h_(G:Gh)(G1:Gh)(n N:Nat):Gh:=
 { K:=G1.K,role:=fun b=>if b<n then G.role b else Wm N (G1.role b),pm:=G.pm,sm:=G.sm,tk:=fun τ=>if τ<N then G.tk τ else G1.tk (τ-N) }
theorem Inv.h_{G1:Gh}{w1:World}{mem:List (Nat×List AV)}{sh:Sh}{aa ts':aG}(hi:Inv (num ns) G w mem sh aa)
   (h1:Inv (num ns) G1 w1 [] [] ts') (he:bK G.FA w G1 w1) :
   Inv (num ns) (G.h_ G1 w.heap.size aa.length) w1 mem sh (aa++ts')∧G.le (G.h_ G1 w.heap.size aa.length)∧bK G w (G.h_ G1 w.heap.size aa.length) w1:=by
 have htl:∀τ t,G.tk τ=some t→τ<aa.length:=fun τ t h=>(List.getElem?_eq_some_iff.1 (hi.e_ τ t h)).1;have hK:G.K.le G1.K:=he.K
 have rOld:∀b,b<w.heap.size→(G.h_ G1 w.heap.size aa.length).role b=G.role b:=fun b hb=>by simp only[Gh.h_,if_pos hb]
 have rNew:∀b,¬b<w.heap.size→(G.h_ G1 w.heap.size aa.length).role b=Wm aa.length (G1.role b):=fun b hb=>by simp only[Gh.h_,if_neg hb]
 have same:∀b,b<w.heap.size→w1.heap[b]?=w.heap[b]?:=fun b hb=>(he.ez b hb rfl).2;have Kold:∀b o v,b<w.heap.size→G1.K b o=some v→G.K b o=some v:=fun b o v hb hk=>he.gN b o v hb rfl hk
 have hle:G.le (G.h_ G1 w.heap.size aa.length):=⟨hK,fun _ _ h=>h,fun _ _ h=>h,fun τ t h=>⟨t,by simp only[Gh.h_,if_pos (htl τ t h)];exact h,⟨Nat.le_refl _,Tk.gL _⟩,fun _=>rfl⟩⟩
 have hevo:bK G w (G.h_ G1 w.heap.size aa.length) w1:={
           size:=he.size,os:=he.os,tape:=he.tape,output:=he.output,K:=hK,sm:=fun _ _ h=>h,
           ez:=fun b hb hr=>⟨(rOld b hb).trans hr,same b hb⟩
           iQ:=fun b τ hb hr=>.inr ⟨τ,(rOld b hb).trans hr⟩
           gN:=fun b o v hb _ hk=>Kold b o v hb hk }
 refine⟨⟨h1.known,?_,?_,?_,hi.gM,?_,hi.eF,?_,?_,hi.ic hevo⟩,hle,hevo⟩
 · intro b o v hk;by_cases hb:b<w.heap.size
   ·rw[rOld b hb];exact hi.aZ b o v (Kold b o v hb hk)
   · rw[rNew b hb];rcases h1.aZ b o v hk with h|⟨τ,h⟩
     ·left;rw[h];rfl
     ·right;exact⟨τ+aa.length,by rw[h];rfl⟩
 ·intro b hb;have:=he.size;rw[rNew b (by omega),h1.fresh b hb];rfl
 · intro d cs hd;obtain⟨b,e1,e2,e3⟩:=hi.cT d cs hd;have hlt:b<w.heap.size:=by obtain⟨_,_,_,hh,_⟩:=e2;exact cr hh
   exact⟨b,e1,e2.mono hle (rOld b hlt) (same b hlt),e3⟩
 ·intro s cs hs;obtain⟨b,e1,e2,e3⟩:=hi.dq s cs hs;have hlt:b.1<w.heap.size:=e2.lt;exact⟨b,e1,e2.mono hle (rOld b.1 hlt) (same b.1 hlt),e3⟩
 · intro τ n hn;by_cases hτ:τ<aa.length
   ·rw[List.getElem?_append_left hτ]at hn;obtain⟨t,e1,e2,e3⟩:=hi.dh τ n hn;refine⟨t,by simp only[Gh.h_,if_pos hτ];exact e1,e2,e3.cap,e3.zero,fun hlt=>?_⟩;obtain⟨b,o,c,ty,f1,f2,f3,f4,f5⟩:=e3.spare hlt;have hlt':=cr f3;exact⟨b,o,c,ty,f1,(rOld b hlt').trans f2,(same b hlt').trans f3,f4,fun j v hkk=>f5 j v (Kold b j v hlt' hkk)⟩
   · rw[List.getElem?_append_right (by omega)]at hn;obtain⟨t,e1,e2,e3⟩:=h1.dh _ n hn;refine⟨t,by simp only[Gh.h_,if_neg hτ];exact e1,e2,e3.cap,e3.zero,fun hlt=>?_⟩;obtain⟨b,o,c,ty,f1,f2,f3,f4,f5⟩:=e3.spare hlt
     have hb:¬b<w.heap.size:=fun hb=>by
       have:=(he.ez b hb rfl).1;rw[f2]at this;cases this
     refine⟨b,o,c,ty,f1,?_,f3,f4,f5⟩;rw[rNew b hb,f2];simp only[Wm];rw[Nat.sub_add_cancel (by omega)]
 · intro τ t ht;simp only[Gh.h_]at ht;split at ht
   ·rename_i hτ;rw[List.getElem?_append_left hτ];exact hi.e_ τ t ht
   ·rename_i hτ;rw[List.getElem?_append_right (by omega)];exact h1.e_ _ t ht
theorem GS{G1:Gh}{w1:World}{ts':aG}{n N:Nat}(h1:Inv (num ns) G1 w1 [] [] ts'){rs:List AV}{v:Value}(hp:rs.all bJ=true)(h:cU (num ns) G1 rs v):cU (num ns) (G.h_ G1 n N) (rs.map (da N)) v:=
 pg (G1:=G1) (G':=G.h_ G1 n N) (N:=N) (bl.le_refl G1.K) (fun s b h=>by have:=h1.eF s b h;simp at this) (fun τ t h=>by simp only[Gh.h_];rw[if_neg (by omega),Nat.add_sub_cancel];exact h) hp h
end
end Go.Ab
namespace Go.Ab
section
variable {P:Program} {ns:Names} {G:Gh} {w:World}
theorem wc{rs:List PV}{v:Value}(h:ik G.K rs v):aB (num ns) G (tc rs) v:=by
 match rs,h with
 |[r],h=>simp only[ik]at h;simp only[tc,aB];exact h
 |[],h=>simp only[ik]at h;simp only[tc,aB];obtain⟨vs,e,h⟩:=h;exact⟨vs,e,gj h⟩
 |_::_::_,h=>simp only[ik]at h;simp only[tc,aB];obtain⟨vs,e,h⟩:=h;exact⟨vs,e,gj h⟩
theorem we{rs:List AV}{v:Value}(h:cU (num ns) G rs v):aB (num ns) G (th rs) v:=by
 match rs,h with
 |[r],h=>simp only[cU]at h;simp only[th];exact h
 |[],h=>simp only[cU]at h;simp only[th,aB];exact h
 |_::_::_,h=>simp only[cU]at h;simp only[th,aB];exact h
theorem GU{v:AV}{rv:Value}(h:aB (num ns) G v rv):aB (num ns) G (lG v) rv:=by
 unfold lG;split
 ·rename_i p hp;simp only[aB];exact xB hp h
 ·exact h
theorem tP{own:List Nat}:∀{i:Nat} {xs:List AV} {vs:List Value},aw (num ns) G xs vs→aw (num ns) G (dX own i xs) vs
 |_,[],_,h=>by simpa[dX,aw] using h
 |i,x::xs,_,h=>by
   simp only[aw]at h;obtain⟨v,r,rfl,e1,e2⟩:=h;simp only[dX,aw];refine⟨v,r,rfl,?_,tP e2⟩;split
   ·exact e1
   ·exact GU e1
theorem J_{A:ko}{dst:Option Nat}{c:Call}{k:AK}{args:List Operand}(h:bH P ns A dst (.call c)=some (k,args))(hk:k.calls=true) :
   (∃f g,c.callee=.value (.func f)∧ns.of f=some g∧args=c.args.toList∧(k=.aJ g∨k=.eE g∨(∃own,k=.bA g own)∨(∃sz by_,(k=.clone sz by_∨∃ag,k=.gJ sz by_ ag)∧look ns.cl g=some (sz,by_))∨k=.lX g)) ∨
   (∃t,c.callee=.value (.tmp t)∧args=.tmp t::c.args.toList∧(k=.fJ∨k=.ff)):=by
 obtain⟨callee,cargs,ctypes⟩:=c;simp only[bH]at h;split at h
 ·split at h<;>simp at h<;>(obtain⟨rfl,_⟩:=h;simp[AK.calls]at hk)
 ·split at h<;>simp at h;obtain⟨rfl,_⟩:=h;simp[AK.calls]at hk
 ·split at h<;>simp at h;obtain⟨rfl,_⟩:=h;simp[AK.calls]at hk
 · split at h
   · split at h
     · rw[Option.ite_none_right_eq_some]at h;obtain⟨_,h⟩:=h;split at h
       ·simp only[Option.map_eq_some_iff,Prod.mk.injEq]at h;obtain⟨_,_,rfl,_⟩:=h;simp[AK.calls]at hk
       ·split at h<;>(simp at h;obtain⟨rfl,_⟩:=h;simp[AK.calls]at hk)
     ·simp at h
   ·simp at h
 · split at h
   · split at h
     · split at h<;>simp at h
       obtain⟨rfl,_⟩:=h;simp[AK.calls]at hk
     ·simp at h
   ·simp at h
 · split at h
   · split at h<;>simp at h
     obtain⟨rfl,_⟩:=h;simp[AK.calls]at hk
   ·simp at h
 · rename_i f;left;split at h
   · rename_i g hg;split at h
     · rename_i sz by_ hcl;rw[Option.ite_none_right_eq_some]at h;obtain⟨_,h⟩:=h;split at h
       · split at h
         ·simp only[Option.map_eq_some_iff,Prod.mk.injEq]at h;obtain⟨ag,_,h1,h2⟩:=h;exact⟨f,g,rfl,hg,h2.symm,.inr (.inr (.inr (.inl ⟨sz,by_,.inr ⟨ag,h1.symm⟩,hcl⟩)))⟩
         ·simp at h
       ·simp only[Option.some.injEq,Prod.mk.injEq]at h;exact⟨f,g,rfl,hg,h.2.symm,.inr (.inr (.inr (.inl ⟨sz,by_,.inl h.1.symm,hcl⟩)))⟩
     · split at h
       ·simp at h;exact⟨f,g,rfl,hg,h.2.symm,.inr (.inr (.inr (.inr h.1.symm)))⟩
       · split at h
         ·simp at h;exact⟨f,g,rfl,hg,h.2.symm,.inr (.inr (.inl ⟨_,h.1.symm⟩))⟩
         · split at h
           ·simp at h;exact⟨f,g,rfl,hg,h.2.symm,.inr (.inl h.1.symm)⟩
           ·simp at h;exact⟨f,g,rfl,hg,h.2.symm,.inl h.1.symm⟩
   ·simp at h
 · rename_i t;right;split at h
   ·simp at h;exact⟨t,rfl,h.2.symm,.inr h.1.symm⟩
   ·simp at h;exact⟨t,rfl,h.2.symm,.inl h.1.symm⟩
 ·simp at h
mutual
theorem FB:∀{a b:PV},nA a b=true→a=b
 | .bool a,b,h=>by cases b<;>simp[nA]at h;rw[h]
 | .int k n,b,h=>by cases b<;>simp[nA]at h;rw[h.1,h.2]
 | .str s,b,h=>by cases b<;>simp[nA]at h;rw[h]
 | .agg l,b,h=>by
   cases b with
   |agg q=>simp only[nA]at h;rw[tQ h]
   |_=>simp[nA]at h
 | .au l,b,h=>by
   cases b with
   |au q=>simp only[nA]at h;rw[tQ h]
   |_=>simp[nA]at h
theorem tQ:∀{a b:List PV},oT a b=true→a=b
 |[],b,h=>by cases b with|nil=>rfl|cons _ _=>simp[oT]at h
 |x::r,b,h=>by
   cases b with
   |nil=>simp[oT]at h
   |cons y q=>
     simp only[oT,Bool.and_eq_true]at h;rw[FB h.1,tQ h.2]
end
theorem FC:∀{a b:List AV},Gw a b=true→a=b
 |[],b,h=>by cases b with|nil=>rfl|cons _ _=>simp[Gw]at h
 |x::r,b,h=>by
   cases b with
   |nil=>simp[Gw]at h
   |cons y q=>
     simp only[Gw,Bool.and_eq_true]at h;rw[FC h.2];have h1:=h.1;cases x with
     |pv p=>cases y with
       |pv p'=>simp only[Tb]at h1;rw[FB h1]
       |_=>simp[Tb]at h1
     |_=>simp[Tb]at h1
theorem xR:∀{a b:Sh},r5 a b=true→a=b
 |[],b,h=>by cases b with|nil=>rfl|cons _ _=>simp[r5]at h
 |none::r,b,h=>by
   cases b with
   |nil=>simp[r5]at h
   |cons y q=>cases y with
     |none=>simp only[r5]at h;rw[xR h]
     |some _=>simp[r5]at h
 |some x::r,b,h=>by
   cases b with
   |nil=>simp[r5]at h
   |cons y q=>cases y with
     |none=>simp[r5]at h
     |some y=>
       simp only[r5,Bool.and_eq_true]at h;rw[FC h.1,xR h.2]
theorem vF{orc:d9}{vals:List AV}{cells:Option (List AV)}{sh:Sh}{aa:aG}{out:Out}(h:exec orc .ff vals cells sh aa=some out):exec orc .fJ vals cells sh aa=some out:=by
 cases vals with
 |nil=>simp[exec]at h
 |cons f vals=>
   cases f with
   |fn g cap=>
     simp only[exec,Option.bind_eq_some_iff]at h;obtain⟨⟨v,sh',ts⟩,h1,h2⟩:=h;simp only[Wi,Option.ite_none_right_eq_some,Option.some.injEq]at h2;obtain⟨h3,rfl⟩:=h2;have:=xR h3;subst this;simp[exec,h1]
   |_=>simp[exec]at h
theorem me{orc:d9}(horc:gD P ns orc){f g:Nat}{own:List Nat}(hg:ns.of f=some g){vals:List AV}{vs:List Value}{x:AV}{mem:List (Nat×List AV)}{sh sh':Sh}{aa toks':aG}
   (hr:aw (num ns) G vals vs) (hi:Inv (num ns) G w mem sh aa) (h:dU orc g own vals sh aa=some (x,sh',toks')) :
   Calls P f vs.toArray w fun e w'=>∃v G',e=.returned v∧aB (num ns) G' x v∧Inv (num ns) G' w' mem sh' toks'∧G.le G'∧bK G w G' w':=by
 unfold dU at h;simp only[Option.ite_none_right_eq_some,Option.map_eq_some_iff]at h;obtain⟨hp,⟨rs,sh1,ts1⟩,h1,h2⟩:=h;simp only[Prod.mk.injEq]at h2;obtain⟨rfl,rfl,rfl⟩:=h2;obtain⟨hC,hpr⟩:=horc.i g f _ _ rs _ sh1 ts1 hg (iI hp) h1;obtain⟨m,tks,hN,hto,hargs⟩:=hi.JX hp (tP (own:=own) (i:=0) hr);refine (hC (G.to m tks) w vs hto hargs).mono ?_
 rintro e w' ⟨v,G1,rfl,ie,hi1,hevo⟩
 obtain⟨g1,g2,g3⟩:=hi.back hN GQ hi1 hevo;exact⟨v,_,rfl,we (Ae hpr ie),g1,g2,g3⟩
theorem Af{orc:d9}(horc:gD P ns orc){f g:Nat}(hg:ns.of f=some g){cW:List PV}{vs:List Value}{rs:List AV}{ts1:aG}{mem:List (Nat×List AV)}{sh:Sh}{aa:aG}
   (hr:jo G.K cW vs) (hi:Inv (num ns) G w mem sh aa) (h:orc.i g (cW.map .pv) [] []=some (rs,[],ts1)) :
   Calls P f vs.toArray w fun e w'=>∃v G',e=.returned v∧aB (num ns) G' (th (rs.map (da aa.length))) v∧Inv (num ns) G' w' mem sh (aa++ts1)∧G.le G'∧bK G w G' w':=by
 have hpass:(cW.map AV.pv).all bJ=true:=by
   rw[List.all_eq_true];intro x hx;obtain⟨p,_,rfl⟩:=List.mem_map.1 hx;rfl
 obtain⟨hC,hpr⟩:=horc.i g f _ _ rs _ _ ts1 hg hpass h;refine (hC G.FA w vs hi.FA (gj (ρ:=num ns) (G:=G.FA) hr)).mono ?_
 rintro e w' ⟨v,G1,rfl,ie,hi1,hevo⟩
 obtain⟨g1,g2,g3⟩:=hi.h_ hi1 hevo;exact⟨v,_,rfl,we (GS hi1 hpr ie),g1,g2,g3⟩
theorem NX(hB:eU P ns){orc:d9}(horc:gD P ns orc){A:ko}{o:Oper}{k:AK}{args:List Operand}(hc:bH P ns A o.dst o.op=some (k,args)){a:Act}{vals:List AV}{out:Out}
   {mem:List (Nat×List AV)} {sh:Sh} {aa:aG} (hr:aw (num ns) G vals (args.map a.eval)) (hi:Inv (num ns) G w mem sh aa)
   (h:exec orc k vals (k.key.bind (look mem)) sh aa=some out) {next:Act→World→Prop} {Q:Exit→Act→World→Prop}
   (hn:∀v w' G',aB (num ns) G' out.val v→Inv (num ns) G' w' (e8 mem k.key out.cells) out.sh out.aa→G.le G'→bK G w G' w'→next (a.put o.dst v) w'):o.wp P a w next Q:=by
 cases hk:k.calls with
 |false=>
   obtain⟨n,v,w',G',g1,g2,g3,g4,g5,g6⟩:=ry hc hk hr hi h;unfold Oper.wp;rw[g1];rcases g2 with rfl|⟨rfl,rfl⟩
   ·exact hn v w' G' g3 g4 g5 g6
   ·exact hn undef w' G' g3 g4 g5 g6
 |true=>
   obtain⟨dst,op,type,pos,after,guard⟩:=o;have hcall:∃c,op=.call c:=CI (k:=k) (by cases k<;>simp_all[AK.calls]) hc;obtain⟨c,rfl⟩:=hcall;rcases J_ hc hk with⟨f,g,hcal,hg,rfl,hk'⟩|⟨t,hcal,rfl,hkv⟩
   · have hrun:(execOp a.eval ⟨dst,.call c,type,pos,after,guard⟩).run P w=.ok (.enter f ((c.args.toList.map a.eval).toArray)) w:=by
       obtain⟨callee,cargs,ctypes⟩:=c;simp only at hcal;subst hcal;simp only[execOp,resolve,Sem.run_bind,Act.eval,Deferred.ofValue,Sem.run_pure,Result.andThen_ok,invoke];rw[oZ hB hg];congr 2;apply Array.ext';simp
     rcases hk' with rfl|rfl|⟨own,rfl⟩|⟨sz,by_,hkc,hcl⟩|rfl
     · -- for pure data
       simp only[exec]at h;split at h
       · rename_i cW hp;simp only[Option.map_eq_some_iff]at h;obtain⟨rs,h1,rfl⟩:=h;have hC:=horc.p g f cW rs hg h1 G.K w _ (fun b c hb=>(hi.kz b c hb).2) hi.known (kN hp hr);unfold Oper.wp;rw[hrun];refine hC.mono ?_
         rintro e w' ⟨v,K',rfl,ie,hK,hold,hkk,hb⟩
         obtain⟨g1,g2,g3⟩:=hi.pure hK hold hkk hb;exact hn v w' _ (wc ie) (by simpa[AK.key,e8] using g1) g2 g3
       ·simp at h
     · -- for pure data,arrays frozen
       simp only[exec]at h;split at h
       · rename_i cW hp;simp only[Option.map_eq_some_iff]at h;obtain⟨rs,h1,rfl⟩:=h;obtain⟨G1,k1,k2,k3,k4,k5⟩:=Inv.kill (vals.flatMap eB) hi;have hC:=horc.p g f cW rs hg h1 G1.K w _ (fun b c hb=>(k1.kz b c hb).2) k1.known (rz k2 k4 hi.tJ (fun s hs=>hs) hp hr);unfold Oper.wp;rw[hrun];refine hC.mono ?_
         rintro e w' ⟨v,K',rfl,ie,hK,hold,hkk,hb⟩
         obtain⟨g1,g2,g3⟩:=k1.pure hK hold hkk hb;exact hn v w' _ (wc ie) (by simpa[AK.key,e8,cA] using g1) (Gh.le_trans k2 g2) (k3.trans g3)
       ·simp at h
     · -- with the shared memory
       simp only[exec,Option.map_eq_some_iff]at h;obtain⟨⟨x,sh',ts'⟩,h1,rfl⟩:=h;have hC:=me horc hg hr hi h1;unfold Oper.wp;rw[hrun];refine hC.mono ?_
       rintro e w' ⟨v,G',rfl,g1,g2,g3,g4⟩
       exact hn v w' G' g1 (by simpa[AK.key,e8] using g2) g3 g4
     · -- slices.Clone
       have hkey:k.key=none:=by rcases hkc with rfl|⟨ag,rfl⟩<;>rfl
       rw[hkey]at hn;rcases vals with _|⟨x,_|⟨_,_⟩⟩
       ·rcases hkc with rfl|⟨ag,rfl⟩<;>simp[exec]at h
       · obtain⟨oc,y,sh',ts',h1,rfl⟩:∃oc y sh' ts',fR oc sz by_ x sh aa=some (y,sh',ts')∧out=⟨y,none,sh',ts'⟩:=by
           rcases hkc with rfl|⟨ag,rfl⟩
           ·simp only[exec,Option.map_eq_some_iff]at h;obtain⟨⟨y,ts'⟩,h1,rfl⟩:=h;exact⟨none,y,sh,ts',by simp[fR,h1],rfl⟩
           ·simp only[exec,Option.map_eq_some_iff]at h;obtain⟨⟨y,sh',ts'⟩,h1,rfl⟩:=h;exact⟨some ag,y,sh',ts',h1,rfl⟩
         have hl:=hr.length;obtain⟨v,hv⟩:∃v,c.args.toList.map a.eval=[v]:=List.length_eq_one_iff.1 (by simpa using hl);rw[hv]at hr;simp only[aw]at hr;obtain⟨v',r,e,hx,rfl⟩:=hr;cases e;have hC:=horc.c g sz by_ f hcl hg oc G w mem sh sh' aa ts' x y v hi hx h1;unfold Oper.wp;rw[hrun,hv];refine hC.mono ?_
         rintro e w' ⟨u,G',rfl,g1,g2,g3,g4⟩
         exact hn u w' G' g1 (by simpa[e8] using g2) g3 g4
       ·rcases hkc with rfl|⟨ag,rfl⟩<;>simp[exec]at h
     · -- without the shared memory
       simp only[exec]at h;split at h
       · rename_i cW hp;split at h
         · rename_i rs ts1 h1;cases h;have hC:=Af horc hg (kN hp hr) hi h1;unfold Oper.wp;rw[hrun];refine hC.mono ?_
           rintro e w' ⟨v,G',rfl,g1,g2,g3,g4⟩
           exact hn v w' G' g1 (by simpa[AK.key,e8] using g2) g3 g4
         ·simp at h
       ·simp at h
   · -- a function value
     have hkey:k.key=none:=by rcases hkv with rfl|rfl<;>rfl
     replace h:exec orc .fJ vals none sh aa=some out:=by
       rcases hkv with rfl|rfl
       ·exact h
       ·exact vF h
     rw[hkey]at hn;cases vals with
     |nil=>simp[aw]at hr
     |cons x0 vals=>
       simp only[List.map_cons,aw]at hr;obtain⟨fv,r,e,hf,hr⟩:=hr;simp only[List.cons.injEq]at e;obtain⟨rfl,rfl⟩:=e;cases x0 with
       |fn g cap=>
         simp only[exec,Option.map_eq_some_iff]at h;obtain⟨⟨x,sh',ts'⟩,h1,rfl⟩:=h;simp only[aB]at hf;obtain⟨f,vs,hg,hv,hcap⟩:=hf
         have hrun:(execOp a.eval ⟨dst,.call c,type,pos,after,guard⟩).run P w=.ok (.enter f ((c.args.toList.map a.eval++vs).toArray)) w:=by
           obtain⟨callee,cargs,ctypes⟩:=c;simp only at hcal;subst hcal;simp only[execOp,resolve,Sem.run_bind];rw[hv];simp only[Deferred.ofValue,Sem.run_pure,Result.andThen_ok,invoke];rw[oZ hB hg];congr 2;apply Array.ext';simp
         have hC:=me horc hg (aw.append hr hcap) hi h1;unfold Oper.wp;rw[hrun];refine hC.mono ?_
         rintro e w' ⟨v,G',rfl,g1,g2,g3,g4⟩
         exact hn v w' G' g1 (by simpa[AK.key,e8] using g2) g3 g4
       |_=>simp[exec]at h
end
end Go.Ab
namespace Go.Ab
section
variable {n0:Nat} {P:Program} {ns:Names} {G:Gh} {w:World}
theorem l4.mono{G':Gh}{N:Nat}{env:List (Nat×AV)}{a:Act}(h:l4 (num ns) G N env a)(hle:G.le G'):l4 (num ns) G' N env a:=
 ⟨h.size,fun t x hx=>let ⟨v,h1,h2⟩:=h.env t x hx;⟨v,h1,h2.mono hle⟩⟩
theorem l4.put{N:Nat}{env:List (Nat×AV)}{a:Act}(h:l4 (num ns) G N env a){dst:Option Nat}(hd:(dst.map (fun d=>decide (d<N))).getD true=true){x:AV}{v:Value}(hx:aB (num ns) G x v) :
   l4 (num ns) G N (fU env dst x) (a.put dst v):=by
 cases dst with
 |none=>exact h
 |some d=>
   simp at hd;refine⟨by simp[Act.put,h.size],fun t y hy=>?_⟩;simp only[fU]at hy;by_cases ht:d=t
   ·subst ht;rw[bu]at hy;cases hy;exact⟨v,by simp[Act.put,h.size,hd],hx⟩
   ·rw[bL _ _ _ _ ht]at hy;obtain⟨u,h1,h2⟩:=h.env t y hy;exact⟨u,by simp only[Act.put];rw[Array.getElem?_setIfInBounds_ne ht];exact h1,h2⟩
theorem put_defers(a:Act)(dst:Option Nat)(v:Value):(a.put dst v).defers=a.defers:=by cases dst<;>rfl
theorem lg{A:ko}{N:Nat}{ops:Array Oper}{o:Oper}{ao:dN}(h:cK P ns A N ops o=some ao) :
   ∃args,bH P ns A o.dst o.op=some (ao.op,args)∧cf (iZ ns) args=some ao.args∧ao.dst=o.dst∧(o.dst.map (fun d=>decide (d<N))).getD true=true ∧
     ((o.guard=none∧ao.guard=none)∨∃j b t,o.guard=some (j,b)∧(ops[j]?).bind (·.dst)=some t∧ao.guard=some (t,b)):=by
 unfold cK at h;split at h
 · rename_i k args hk;split at h
   · rename_i as ha;simp only[Option.ite_none_right_eq_some]at h;obtain⟨hd,h⟩:=h;split at h
     ·rename_i hg;simp at h;subst h;exact⟨args,hk,ha,rfl,hd,.inl ⟨hg,rfl⟩⟩
     · rename_i j b hg;split at h
       ·rename_i t ht;simp at h;subst h;exact⟨args,hk,ha,rfl,hd,.inr ⟨j,b,t,hg,ht,rfl⟩⟩
       ·simp at h
   ·simp at h
 ·simp at h
theorem ph{A:ko}{N:Nat}{ops:Array Oper}{o:Oper}{ao:dN}{env:List (Nat×AV)}{a:Act}(h:cK P ns A N ops o=some ao)(he:l4 (num ns) G N env a){r:Bool}
   (hw:fD env ao.guard=some r):Region.wanted o (yielded ops a.tmps)=r:=by
 obtain⟨_,_,_,_,_,hg⟩:=lg h;rcases hg with⟨h1,h2⟩|⟨j,b,t,h1,h2,h3⟩
 ·rw[h2]at hw;simp[fD]at hw;simp[Region.wanted,h1,hw]
 · rw[h3]at hw;simp only[fD]at hw;split at hw
   ·rename_i c hc;obtain⟨v,e1,e2⟩:=he.env t _ hc;simp only[aB,jq]at e2;simp at hw;simp[Region.wanted,h1,yielded,h2,e1,e2,hw]
   ·rename_i hc;obtain⟨v,e1,e2⟩:=he.env t _ hc;simp only[aB]at e2;simp at hw;simp[Region.wanted,h1,yielded,h2,e1,e2,undef,←hw]
   ·simp at hw
theorem CP(hB:eU P ns){orc:d9}(horc:gD P ns orc){A:ko}{N:Nat}{ops:Array Oper}{o:Oper}{ao:dN}(hc:cK P ns A N ops o=some ao)
   {st st':St} {a:Act} (hs:gV (num ns) n0 N G st a w) (hev:dV orc ao st=some st') {next:Act→World→Prop} {Q:Exit→Act→World→Prop}
   (hn:∀G' v w',gV (num ns) n0 N G' st' (a.put o.dst v) w'→bK G w G' w'→next (a.put o.dst v) w') :
   (Region.wanted o (yielded ops a.tmps)=true∧o.wp P a w next Q)∨(Region.wanted o (yielded ops a.tmps)=false∧next (a.put o.dst undef) w):=by
 obtain⟨args,h1,h2,h3,h4,_⟩:=lg hc;unfold dV at hev;split at hev
 ·simp at hev
 ·rename_i hw;right;refine⟨ph hc hs.env hw,?_⟩;simp at hev;subst hev;refine hn G _ w ⟨?_,hs.inv,hs.marks.q_ (bK.refl G w) (put_defers _ _ _)⟩ (bK.refl G w);simp only[h3];exact hs.env.put h4 (by simp[aB])
 · rename_i hw;left;refine⟨ph hc hs.env hw,?_⟩;split at hev
   ·simp at hev
   · rename_i vals hv;split at hev
     ·simp at hev
     ·rename_i out ho;simp at hev;subst hev;have hr:=zn hs.env h2 hv;refine NX hB horc h1 hr hs.inv ho ?_;intro v w' G' g1 g2 g3 g4;refine hn G' _ w' ⟨?_,g2,hs.marks.q_ g4 (put_defers _ _ _)⟩ g4;simp only[h3];exact (hs.env.mono g3).put h4 g1
end
end Go.Ab
namespace Go.Ab
section
variable {orc:d9}
def J'(E:Nat→Option AV):eT→Option AV
 | .t n=>E n
 | .c v=>some v
def kC(E:Nat→Option AV):List eT→Option (List AV)
 |[]=>some []
 |x::r=>match J' E x,kC E r with
   |some v,some vs=>some (v::vs)
   |_,_=>none
def mV(E:Nat→Option AV):Option (Nat×Bool)→Option Bool
 |none=>some true
 |some (t,b)=>match E t with
   |some (.pv (.bool c))=>some (c == b)
   |some .un=>some false
   |_=>none
def cQ(orc:d9)(o:dN)(E:Nat→Option AV)(M:Nat→Option (List AV))(sh:Sh)(aa:aG):Option Out:=
 match mV E o.guard with
 |none=>none
 |some false=>some ⟨.un,none,sh,aa⟩
 |some true=>match kC E o.args with
   |none=>none
   |some vals=>exec orc o.op vals (o.op.key.bind M) sh aa
theorem tR(env:List (Nat×AV)):∀l,dY env l=kC (look env) l
 |[]=>rfl
 |x::l=>by
   have:hU env x=J' (look env) x:=by cases x<;>rfl
   simp only[dY,kC,this,tR env l];rfl
theorem ep(o:dN)(st:St):dV orc o st=(cQ orc o (look st.env) (look st.mem) st.sh st.aa).map
   fun r=>{ env:=fU st.env o.dst r.val,mem:=e8 st.mem o.op.key r.cells,sh:=r.sh,aa:=r.aa }:=by
 unfold dV cQ
 have hw:fD st.env o.guard=mV (look st.env) o.guard:=by
   cases o.guard with
   |none=>rfl
   |some g=>rfl
 rw[hw];cases mV (look st.env) o.guard with
 |none=>rfl
 |some b=>cases b with
   |false=>simp[fF]
   |true=>
     simp only[tR];cases kC (look st.env) o.args with
     |none=>rfl
     |some vals=>
       simp only;cases exec orc o.op vals (o.op.key.bind (look st.mem)) st.sh st.aa<;>rfl
theorem mf{E E':Nat→Option AV}:∀{l:List eT},(∀t∈l.filterMap (fun| .t n=>some n|_=>none),E t=E' t)→kC E l=kC E' l
 |[],_=>rfl
 | .c v::l,h=>by
   simp only[kC,J'];rw[mf (l:=l) (fun t ht=>h t (by simpa using ht))]
 | .t n::l,h=>by
   simp only[kC,J'];rw[mf (l:=l) (fun t ht=>h t (by simp only[List.filterMap_cons,List.mem_cons];exact .inr ht)),h n (by simp)]
theorem gO{o:dN}{E E':Nat→Option AV}{M M':Nat→Option (List AV)}{sh:Sh}{aa:aG}(hE:∀t∈o.looks,E t=E' t)(hM:∀k,o.op.key=some k→M k=M' k) :
   cQ orc o E M sh aa=cQ orc o E' M' sh aa:=by
 have h1:mV E o.guard=mV E' o.guard:=by
   cases hg:o.guard with
   |none=>rfl
   |some g=>
     obtain⟨t,b⟩:=g;simp only[mV];rw[hE t (by simp[dN.looks,hg])]
 have h2:kC E o.args=kC E' o.args:=mf fun t ht=>hE t (by simp only[dN.looks,List.mem_append];exact .inl ht)
 have h3:o.op.key.bind M=o.op.key.bind M':=by
   cases hk:o.op.key with
   |none=>rfl
   |some k=>exact hM k hk
 unfold cQ;rw[h1,h2,h3]
theorem Q4{op:AK}{vals:List AV}{cells:Option (List AV)}{sh:Sh}{aa:aG}{r:Out}(ht:op.iP=false)(h:exec orc op vals cells sh aa=some r) :
   r.sh=sh∧∀sh',exec orc op vals cells sh' aa=some { r with sh:=sh' }:=by
 cases op with
 |v vo=>
   simp only[exec,Option.map_eq_some_iff]at h⊢;obtain⟨x,h1,rfl⟩:=h;exact⟨rfl,fun sh'=>⟨x,h1,rfl⟩⟩
 |bY k o s ag=>
   obtain⟨cs,x,rfl,rfl,hx,rfl⟩:=ij h;exact⟨rfl,fun sh'=>by simp[exec,hx]⟩
 |bC k o s=>
   obtain⟨cs,v,rfl,rfl,h1,h2,h3,rfl⟩:=iG h;exact⟨rfl,fun sh'=>by simp[exec,h1,h2,h3]⟩
 |alloc k z=>
   obtain⟨rfl,rfl,rfl⟩:=jw h;exact⟨rfl,fun sh'=>by simp[exec]⟩
 |box k s=>
   obtain⟨v,rfl,rfl,h1,h2,rfl⟩:=l7 h;exact⟨rfl,fun sh'=>by simp only[exec];rw[if_pos ⟨h1,h2⟩]⟩
 |iC d s b z=>
   obtain⟨k,k',n,rfl,h1,h2,h3,h4,rfl,rfl⟩:=jx h;exact⟨rfl,fun sh'=>by simp[exec,h1,h2,h3,h4]⟩
 |append s b=>
   obtain⟨s,x,y,ts,rfl,h1,rfl⟩:=jR h;exact⟨rfl,fun sh'=>by simp[exec,h1]⟩
 |dI s b ag=>simp[AK.iP]at ht
 |oR s b=>first|(simp[exec]at h;done)|(simp[exec]at e;done)|(simp[exec];done)
 |gK s z=>simp[AK.iP]at ht
 |jK s=>simp[AK.iP]at ht
 |clone s b=>
   obtain⟨x,y,ts,rfl,h1,rfl⟩:=nV h;exact⟨rfl,fun sh'=>by simp[exec,h1]⟩
 |aJ g=>
   simp only[exec]at h⊢;split at h
   ·rename_i cW hp;simp only[Option.map_eq_some_iff]at h;obtain⟨rs,h1,rfl⟩:=h;exact⟨rfl,fun sh'=>by simp[h1]⟩
   ·simp at h
 |lX g=>
   simp only[exec]at h⊢;split at h
   · rename_i cW hp;split at h
     ·rename_i rs ts1 h1;cases h;exact⟨rfl,fun sh'=>by simp[h1]⟩
     ·simp at h
   ·simp at h
 |_=>simp[AK.iP]at ht
theorem Q5{op:AK}{vals:List AV}{cells:Option (List AV)}{sh:Sh}{aa:aG}{r:Out}(ht:op.gv=false)(h:exec orc op vals cells sh aa=some r) :
   r.aa=aa∧∀ts,exec orc op vals cells sh ts=some { r with aa:=ts }:=by
 cases op with
 |v vo=>
   simp only[exec,Option.map_eq_some_iff]at h⊢;obtain⟨x,h1,rfl⟩:=h;exact⟨rfl,fun ts=>⟨x,h1,rfl⟩⟩
 |bY k o s ag=>
   obtain⟨cs,x,rfl,rfl,hx,rfl⟩:=ij h;exact⟨rfl,fun ts=>by simp[exec,hx]⟩
 |bC k o s=>
   obtain⟨cs,v,rfl,rfl,h1,h2,h3,rfl⟩:=iG h;exact⟨rfl,fun ts=>by simp[exec,h1,h2,h3]⟩
 |alloc k z=>
   obtain⟨rfl,rfl,rfl⟩:=jw h;exact⟨rfl,fun ts=>by simp[exec]⟩
 |box k s=>
   obtain⟨v,rfl,rfl,h1,h2,rfl⟩:=l7 h;exact⟨rfl,fun ts=>by simp only[exec];rw[if_pos ⟨h1,h2⟩]⟩
 |iC d s b z=>
   obtain⟨k,k',n,rfl,h1,h2,h3,h4,rfl,rfl⟩:=jx h;exact⟨rfl,fun ts=>by simp[exec,h1,h2,h3,h4]⟩
 |append s b=>simp[AK.gv]at ht
 |dI s b ag=>simp[AK.gv]at ht
 |oR s b=>first|(simp[exec]at h;done)|(simp[exec]at e;done)|(simp[exec];done)
 |clone s b=>simp[AK.gv]at ht
 |gJ s b ag=>
   rcases vals with _|⟨x,_|⟨_,_⟩⟩
   ·simp[exec]at h
   · simp only[exec,fR]at h⊢;split at h
     · rename_i xs hx;split at h
       ·rename_i hh;simp only[Option.map_map,Option.map_eq_some_iff]at h;obtain⟨⟨y,sh'⟩,h1,rfl⟩:=h;refine⟨rfl,fun ts=>?_⟩;simp[hx,hh,h1]
       ·simp at h
     ·simp at h
   ·simp[exec]at h
 |gK s z=>
   obtain⟨x,sh',rfl,h1,rfl⟩:=rq h;exact⟨rfl,fun ts=>by simp[exec,h1]⟩
 |jK s=>
   obtain⟨x,y,xs,k,sh',rfl,h0,h1,rfl⟩:=kV h;exact⟨rfl,fun ts=>by simp[exec,h0,h1]⟩
 |Fu=>first|(simp[exec]at h;done)|(simp[exec]at e;done)|(simp[exec];done)
 |s9 c ok z=>first|(simp[exec]at h;done)|(simp[exec]at e;done)|(simp[exec];done)
 |NM c=>first|(simp[exec]at h;done)|(simp[exec]at e;done)|(simp[exec];done)
 |aJ g=>
   simp only[exec]at h⊢;split at h
   ·rename_i cW hp;simp only[Option.map_eq_some_iff]at h;obtain⟨rs,h1,rfl⟩:=h;exact⟨rfl,fun ts=>by simp[h1]⟩
   ·simp at h
 |eE g=>
   simp only[exec]at h⊢;split at h
   ·rename_i cW hp;simp only[Option.map_eq_some_iff]at h;obtain⟨rs,h1,rfl⟩:=h;exact⟨rfl,fun ts=>by simp[h1]⟩
   ·simp at h
 |bA g own=>simp[AK.gv]at ht
 |lX g=>simp[AK.gv]at ht
 |fJ=>simp[AK.gv]at ht
 |ff=>simp[AK.gv]at ht
 |d7 s ag=>
   obtain⟨p,x,rfl,rfl,hor⟩:=kT h;refine⟨rfl,fun ts=>?_⟩;rcases hor with⟨cs,rfl,hx⟩|⟨b,off,cs,rfl,hcs,hm,hx⟩
   ·simp[exec,hx]
   ·simp[exec,hcs,hm,hx]
 |fK s=>
   obtain⟨b,off,v,cs,rfl,hcs,h0,h1,h2,h3,h4,rfl⟩:=iH h;refine⟨rfl,fun ts=>?_⟩;simp only[exec,hcs];rw[if_pos ⟨h0,h1,h2,h3,h4⟩]
 |xt s=>first|(simp[exec]at h;done)|(simp[exec]at e;done)|(simp[exec];done)
 |oQ s=>
   obtain⟨v,rfl,h1,h2,h3,rfl⟩:=mS h;refine⟨rfl,fun ts=>?_⟩;simp only[exec];rw[if_pos ⟨h1,h2,h3⟩]
 |NL s=>first|(simp[exec]at h;done)|(simp[exec]at e;done)|(simp[exec];done)
 |jk z=>
   obtain⟨rfl,rfl⟩:=jQ h;exact⟨rfl,fun ts=>by simp[exec]⟩
 |jl s b ag z=>
   obtain⟨k,k',n,rfl,h1,h2,h3,h4,rfl⟩:=kU h;exact⟨rfl,fun ts=>by simp[exec,h1,h2,h3,h4]⟩
theorem Q6{op:AK}{vals:List AV}{cells:Option (List AV)}{sh:Sh}{aa:aG}{r:Out}(ht:op.iy=false)(hk:op.key≠none)(h:exec orc op vals cells sh aa=some r):r.cells=none:=by
 cases op with
 |bY k o s ag=>
   obtain⟨cs,x,rfl,rfl,hx,rfl⟩:=ij h;rfl
 |bC k o s=>simp[AK.iy]at ht
 |alloc k z=>simp[AK.iy]at ht
 |box k s=>simp[AK.iy]at ht
 |iC d s b z=>simp[AK.iy]at ht
 |_=>simp[AK.key]at hk
theorem vG{sz:Nat}{ag:Bool}{vals:List AV}{cells:Option (List AV)}{sh:Sh}{aa:aG}{r:Out}(h:exec orc (.d7 sz ag) vals cells sh aa=some r):r.sh=sh:=by
 obtain⟨p,x,rfl,rfl,_⟩:=kT h;rfl
theorem vH{c:CK}{ok:Bool}{z:PV}{vals:List AV}{cells:Option (List AV)}{sh:Sh}{aa:aG}{r:Out}(h:exec orc (.s9 c ok z) vals cells sh aa=some r):r.sh=sh:=by simp[exec]at h
theorem tS{vals:List AV}{cells:Option (List AV)}{sh:Sh}{aa:aG}{r:Out}(h:exec orc .ff vals cells sh aa=some r):r.sh=sh:=by
 cases vals with
 |nil=>simp[exec]at h
 |cons f vals=>
   cases f with
   |fn g cap=>
     simp only[exec,Option.bind_eq_some_iff]at h;obtain⟨⟨v,sh',ts⟩,_,h2⟩:=h;simp only[Wi,Option.ite_none_right_eq_some,Option.some.injEq]at h2;rw[←h2.2]
   |_=>simp[exec]at h
theorem tT{o:dN}{E:Nat→Option AV}{M:Nat→Option (List AV)}{sh:Sh}{aa:aG}{r:Out}(ht:o.op.iP=false)(h:cQ orc o E M sh aa=some r) :
   r.sh=sh∧∀sh',cQ orc o E M sh' aa=some { r with sh:=sh' }:=by
 unfold cQ at *;split at h
 ·simp at h
 ·simp at h;subst h;exact⟨rfl,fun _=>rfl⟩
 · split at h
   ·simp at h
   ·exact Q4 ht h
theorem Ag{o:dN}{E:Nat→Option AV}{M:Nat→Option (List AV)}{sh:Sh}{aa:aG}{r:Out}(ht:o.op.vV=true)(h:cQ orc o E M sh aa=some r):r.sh=sh:=by
 unfold cQ at *;split at h
 ·simp at h
 ·simp at h;subst h;rfl
 · split at h
   ·simp at h
   · rename_i vals _;cases ho:o.op with
     |d7 sz ag=>
       rw[ho]at h;have hl:=vG h;exact hl
     |s9 c ok z=>
       rw[ho]at h;exact vH h
     |ff=>
       rw[ho]at h;exact tS h
     |_=>rw[ho]at ht;simp[AK.vV]at ht
theorem pj{o:dN}{E:Nat→Option AV}{M:Nat→Option (List AV)}{sh:Sh}{aa:aG}{r:Out}(ht:o.op.gv=false)(h:cQ orc o E M sh aa=some r) :
   r.aa=aa∧∀ts,cQ orc o E M sh ts=some { r with aa:=ts }:=by
 unfold cQ at *;split at h
 ·simp at h
 ·simp at h;subst h;exact⟨rfl,fun _=>rfl⟩
 · split at h
   ·simp at h
   ·exact Q5 ht h
theorem pk{o:dN}{E:Nat→Option AV}{M:Nat→Option (List AV)}{sh:Sh}{aa:aG}{r:Out}(ht:o.op.iy=false)(hk:o.op.key≠none)(h:cQ orc o E M sh aa=some r):r.cells=none:=by
 unfold cQ at h;split at h
 ·simp at h
 ·simp at h;subst h;rfl
 · split at h
   ·simp at h
   ·exact Q6 ht hk h
structure jZ(x y:St):Prop where
 env:∀t,look x.env t=look y.env t
 mem:∀t,look x.mem t=look y.mem t
 sh:x.sh=y.sh
 aa:x.aa=y.aa
theorem jZ.refl(x:St):jZ x x:=⟨fun _=>rfl,fun _=>rfl,rfl,rfl⟩
theorem jZ.symm{x y:St}(h:jZ x y):jZ y x:=⟨fun t=>(h.env t).symm,fun t=>(h.mem t).symm,h.sh.symm,h.aa.symm⟩
theorem jZ.trans{x y z:St}(h:jZ x y)(k:jZ y z):jZ x z:=⟨fun t=>(h.env t).trans (k.env t),fun t=>(h.mem t).trans (k.mem t),h.sh.trans k.sh,h.aa.trans k.aa⟩
theorem eO(env:List (Nat×AV))(d:Option Nat)(v:AV)(t:Nat):look (fU env d v) t=if d=some t then some v else look env t:=by
 cases d with
 |none=>simp[fU]
 |some d=>
   simp only[fU,Option.some.injEq];by_cases h:d=t
   ·subst h;rw[if_pos rfl,bu]
   ·rw[if_neg h,bL _ _ _ _ h]
theorem mW(mem:List (Nat×List AV))(k:Option Nat)(c:Option (List AV))(t:Nat):look (e8 mem k c) t=if k=some t then (match c with|some cs=>some cs|none=>look mem t) else look mem t:=by
 cases c with
 |none=>rw[fF];split<;>rfl
 |some cs=>
   cases k with
   |none=>simp[e8]
   |some k=>
     simp only[e8,Option.some.injEq];by_cases h:k=t
     ·subst h;rw[if_pos rfl,bu]
     ·rw[if_neg h,bL _ _ _ _ h]
theorem GV{o:dN}{x y x':St}(h:jZ x y)(he:dV orc o x=some x'):∃y',dV orc o y=some y'∧jZ x' y':=by
 rw[ep,Option.map_eq_some_iff]at he;obtain⟨r,hr,rfl⟩:=he
 have:cQ orc o (look y.env) (look y.mem) y.sh y.aa=some r:=by
   rw[←h.sh,←h.aa,←hr];exact (gO (fun t _=>h.env t) (fun t _=>h.mem t)).symm
 refine⟨{ env:=fU y.env o.dst r.val,mem:=e8 y.mem o.op.key r.cells,sh:=r.sh,aa:=r.aa },by rw[ep,this];rfl,⟨fun t=>?_,fun t=>?_,rfl,rfl⟩⟩
 ·simp only[eO,h.env]
 ·simp only[mW,h.mem]
end
end Go.Ab
namespace Go.Ab
section
variable {orc:d9}
theorem qm{x y:dN}(h:indep x y=true) :
   (∀d,x.dst=some d→d∉y.looks∧y.dst≠some d)∧(∀d,y.dst=some d→d∉x.looks)∧(x.op.iP=false∨y.op.iP=false∨(x.op.vV=true∧y.op.vV=true))∧(x.op.gv=false∨y.op.gv=false) ∧
   (∀k,x.op.key=some k→y.op.key=some k→x.op.iy=false∧y.op.iy=false):=by
 simp only[indep,Bool.and_eq_true,Bool.or_eq_true,Bool.not_eq_true',Bool.and_eq_false_iff]at h;obtain⟨⟨⟨⟨h1,h2⟩,h3⟩,h4⟩,h5⟩:=h;refine⟨fun d hd=>?_,fun d hd=>?_,h3.elim (fun h=>h.elim .inl fun h=>.inr (.inl h)) fun h=>.inr (.inr h),h4,fun k hx hy=>?_⟩
 ·rw[hd]at h1;simp at h1;exact h1
 ·rw[hd]at h2;simpa using h2
 ·rw[hx,hy]at h5;simp at h5;exact h5
theorem NY{x y:dN}(h:indep x y=true){st st1 st2:St}(h1:dV orc x st=some st1)(h2:dV orc y st1=some st2) :
   ∃st1' st2',dV orc y st=some st1'∧dV orc x st1'=some st2'∧jZ st2' st2:=by
 obtain⟨hd1,hd2,hS,hT,hK⟩:=qm h;rw[ep,Option.map_eq_some_iff]at h1 h2;obtain⟨r1,hr1,rfl⟩:=h1;obtain⟨r2,hr2,rfl⟩:=h2;simp only at hr2
 have hr2':cQ orc y (look st.env) (look st.mem) r1.sh r1.aa=some r2:=by
   rw[←hr2];refine gO (fun t ht=>?_) (fun k hk=>?_)
   ·rw[eO,if_neg];intro e;exact (hd1 t e).1 ht
   · rw[mW];split
     ·rename_i e;have:=pk (hK k e hk).1 (by rw[e];simp) hr1;rw[this]
     ·rfl
 obtain⟨sh',ts',hy,hsh,hts⟩:∃sh' ts',cQ orc y (look st.env) (look st.mem) st.sh st.aa=some { r2 with sh:=sh',aa:=ts' } ∧
     ((x.op.iP=false∧sh'=r2.sh∧r1.sh=st.sh)∨(sh'=st.sh∧r2.sh=r1.sh)) ∧
     ((x.op.gv=false∧ts'=r2.aa∧r1.aa=st.aa)∨(y.op.gv=false∧ts'=st.aa∧r2.aa=r1.aa)):=by
   have stepS:∃sh',cQ orc y (look st.env) (look st.mem) st.sh r1.aa=some { r2 with sh:=sh' }∧((x.op.iP=false∧sh'=r2.sh∧r1.sh=st.sh)∨(sh'=st.sh∧r2.sh=r1.sh)):=by
     rcases hS with hS|hS|⟨hS,hS'⟩
     ·have e:=(tT hS hr1).1;exact⟨r2.sh,by rw[←e];exact hr2',.inl ⟨hS,rfl,e⟩⟩
     ·obtain⟨e,f⟩:=tT hS hr2';exact⟨st.sh,f st.sh,.inr ⟨rfl,e⟩⟩
     ·have e:=Ag hS hr1;have e2:=Ag hS' hr2';exact⟨r2.sh,by rw[←e];exact hr2',.inr ⟨e2.trans e,e2⟩⟩
   obtain⟨sh',hy1,hsh⟩:=stepS;rcases hT with hT|hT
   ·have e:=(pj hT hr1).1;exact⟨sh',r2.aa,by rw[←e];exact hy1,hsh,.inl ⟨hT,rfl,e⟩⟩
   ·obtain⟨_,f⟩:=pj hT hy1;have e:=(pj hT hr2').1;exact⟨sh',st.aa,f st.aa,hsh,.inr ⟨hT,rfl,e⟩⟩
 refine⟨{ env:=fU st.env y.dst r2.val,mem:=e8 st.mem y.op.key r2.cells,sh:=sh',aa:=ts' },?_⟩
 have hx:cQ orc x (look (fU st.env y.dst r2.val)) (look (e8 st.mem y.op.key r2.cells)) st.sh st.aa=some r1:=by
   rw[←hr1];refine gO (fun t ht=>?_) (fun k hk=>?_)
   ·rw[eO,if_neg];intro e;exact hd2 t e ht
   · rw[mW];split
     ·rename_i e;have:=pk (hK k hk e).2 (by rw[e];simp) hr2';rw[this]
     ·rfl
 obtain⟨r1',hx',hval,hcells,hsh2,hts2⟩:∃r1',cQ orc x (look (fU st.env y.dst r2.val)) (look (e8 st.mem y.op.key r2.cells)) sh' ts'=some r1'∧r1'.val=r1.val∧r1'.cells=r1.cells∧r1'.sh=r2.sh∧r1'.aa=r2.aa:=by
   have stepS:∃r1',cQ orc x (look (fU st.env y.dst r2.val)) (look (e8 st.mem y.op.key r2.cells)) sh' st.aa=some r1'∧r1'.val=r1.val∧r1'.cells=r1.cells∧r1'.sh=r2.sh∧r1'.aa=r1.aa:=by
     rcases hsh with⟨hS,rfl,_⟩|⟨rfl,e⟩
     ·exact⟨_,(tT hS hx).2 r2.sh,rfl,rfl,rfl,rfl⟩
     ·exact⟨r1,hx,rfl,rfl,e.symm,rfl⟩
   obtain⟨ra,ha,a1,a2,a3,a4⟩:=stepS;rcases hts with⟨hT,rfl,_⟩|⟨_,rfl,e⟩
   ·exact⟨_,(pj hT ha).2 r2.aa,a1,a2,a3,rfl⟩
   ·exact⟨ra,ha,a1,a2,a3,a4.trans e.symm⟩
 refine⟨{ env:=fU (fU st.env y.dst r2.val) x.dst r1'.val,mem:=e8 (e8 st.mem y.op.key r2.cells) x.op.key r1'.cells,sh:=r1'.sh,aa:=r1'.aa },?_,?_,?_⟩
 ·rw[ep,hy];rfl
 ·rw[ep,hx'];rfl
 · refine⟨fun t=>?_,fun t=>?_,hsh2,hts2⟩
   · simp only[eO,hval];by_cases hx:x.dst=some t
     ·rw[if_pos hx,if_neg (hd1 t hx).2,if_pos hx]
     ·rw[if_neg hx,if_neg hx]
   · simp only[mW,hcells];by_cases hx:x.op.key=some t
     · rw[if_pos hx,if_pos hx];by_cases hy:y.op.key=some t
       ·rw[if_pos hy,if_pos hy];have e1:=pk (hK t hx hy).1 (by rw[hx];simp) hr1;have e2:=pk (hK t hx hy).2 (by rw[hy];simp) hr2';rw[e1,e2]
       ·rw[if_neg hy,if_neg hy]
     ·rw[if_neg hx,if_neg hx]
theorem xS{o:dN}{a:Nat}(h:o.addr=some a):∃r,o.args=.t a::r∧((∃sz ag,o.op=.d7 sz ag)∨∃sz,o.op=.fK sz):=by
 unfold dN.addr at h;split at h
 ·rename_i sz ag a' r h1 h2;cases h;exact⟨r,h2,.inl ⟨sz,ag,h1⟩⟩
 ·rename_i sz a' r h1 h2;cases h;exact⟨r,h2,.inr ⟨sz,h1⟩⟩
 ·cases h
theorem tU{o:dN}{a:Nat}(h:o.addr=some a):a∈o.looks:=by
 obtain⟨r,h1,_⟩:=xS h;simp[dN.looks,h1]
theorem Ah{o:dN}{a:Nat}(h:o.addr=some a):o.op.key=none:=by
 obtain⟨r,_,h|h⟩:=xS h
 ·obtain⟨_,_,h⟩:=h;rw[h];rfl
 ·obtain⟨_,h⟩:=h;rw[h];rfl
def GW(b:Nat)(g:Sh→Sh):Prop:=g=id∨∃x,g=fun s=>s.set b x
theorem GW.other{b b':Nat}{g:Sh→Sh}(h:GW b g)(hb:b≠b')(s:Sh):(g s)[b']?=s[b']?:=by
 rcases h with rfl|⟨x,rfl⟩
 ·rfl
 ·exact List.getElem?_set_ne hb
theorem GW.comm{b b':Nat}{g g':Sh→Sh}(h:GW b g)(h':GW b' g')(hb:b≠b')(s:Sh):g (g' s)=g' (g s):=by
 rcases h with rfl|⟨x,rfl⟩
 ·rfl
 · rcases h' with rfl|⟨y,rfl⟩
   ·rfl
   ·exact (List.set_comm _ _ hb.symm)
theorem rJ{o:dN}{a:Nat}(h:o.addr=some a){E:Nat→Option AV}{M:Nat→Option (List AV)}{sh:Sh}{aa:aG}{r:Out}{b off:Nat}(hE:E a=some (.aW b off))
   (hr:cQ orc o E M sh aa=some r):r.cells=none∧r.aa=aa∧∃g,GW b g∧r.sh=g sh∧∀sh',sh'[b]?=sh[b]?→cQ orc o E M sh' aa=some { r with sh:=g sh' }:=by
 obtain⟨rest,h1,h2⟩:=xS h;unfold cQ at hr⊢;split at hr
 ·simp at hr
 ·simp at hr;subst hr;exact⟨rfl,rfl,id,.inl rfl,rfl,fun sh' _=>rfl⟩
 · rw[h1]at hr⊢;simp only[kC,J',hE]at hr⊢;cases hv:kC E rest with
   |none=>rw[hv]at hr;simp at hr
   |some vs=>
     rw[hv]at hr;simp only at hr⊢;rcases h2 with⟨sz,ag,h2⟩|⟨sz,h2⟩
     · rw[h2]at hr⊢;obtain⟨p,x,hp,rfl,hor⟩:=kT hr;refine⟨rfl,rfl,id,.inl rfl,rfl,fun sh' hs=>?_⟩;cases vs with
       |cons _ _=>simp at hp
       |nil=>
         simp at hp;rcases hor with⟨cs,rfl,hx⟩|⟨b',off',cs,rfl,hcs,hm,hx⟩
         ·simp at hp
         ·simp at hp;obtain⟨rfl,rfl⟩:=hp;simp[exec,hs,hcs,hm,hx]
     ·rw[h2]at hr⊢;obtain⟨b',off',v,cs,hp,hcs,h0,h1',h2',h3,h4,rfl⟩:=iH hr;simp at hp;obtain⟨⟨rfl,rfl⟩,rfl⟩:=hp;refine⟨rfl,rfl,fun s=>s.set b (some (aQ cs off (cv v))),.inr ⟨_,rfl⟩,rfl,fun sh' hs=>?_⟩;simp only[exec,hs,hcs];rw[if_pos ⟨h0,h1',h2',h3,h4⟩]
def Tg(F:Nat→Option AV)(x y:dN):Prop:=indep x y=true ∨
 ((∀d,x.dst=some d→d∉y.looks∧y.dst≠some d)∧(∀d,y.dst=some d→d∉x.looks)∧∃a b,x.addr=some a∧y.addr=some b∧apart (F a) (F b)=true)
theorem wg{x y:Option AV}(h:apart x y=true):∃b o b' o',x=some (.aW b o)∧y=some (.aW b' o')∧b≠b':=by
 unfold apart at h;split at h
 ·rename_i b o b' o';exact⟨b,o,b',o',rfl,rfl,by simpa using h⟩
 ·cases h
theorem Ka{F:Nat→Option AV}{x y:dN}(h:Tg F x y){st st1 st2:St}(hx:∀a,x.addr=some a→look st.env a=F a)(hy:∀a,y.addr=some a→look st1.env a=F a)
   (h1:dV orc x st=some st1) (h2:dV orc y st1=some st2) :
   ∃st1' st2',dV orc y st=some st1'∧dV orc x st1'=some st2'∧jZ st2' st2∧(∀a,y.addr=some a→look st.env a=F a)∧(∀a,x.addr=some a→look st1'.env a=F a):=by
 have hside:(∀d,x.dst=some d→d∉y.looks∧y.dst≠some d)∧(∀d,y.dst=some d→d∉x.looks):=by
   rcases h with h|h
   ·exact⟨(qm h).1,(qm h).2.1⟩
   ·exact⟨h.1,h.2.1⟩
 have hyst:∀a,y.addr=some a→look st.env a=F a:=by
   intro a ha;have h3:=hy a ha;rw[ep,Option.map_eq_some_iff]at h1;obtain⟨r1,_,rfl⟩:=h1;rw[←h3];simp only[eO];rw[if_neg];intro e;exact (hside.1 a e).1 (tU ha)
 have hxst:∀st1',dV orc y st=some st1'→∀a,x.addr=some a→look st1'.env a=F a:=by
   intro st1' h3 a ha;rw[ep,Option.map_eq_some_iff]at h3;obtain⟨r1,_,rfl⟩:=h3;rw[←hx a ha];simp only[eO];rw[if_neg];intro e;exact hside.2 a e (tU ha)
 rcases h with h|⟨hd1,hd2,a,b,ha,hb,hap⟩
 ·obtain⟨st1',st2',g1,g2,g3⟩:=NY h h1 h2;exact⟨st1',st2',g1,g2,g3,hyst,hxst st1' g1⟩
 · obtain⟨ba,oa,bb,ob,fa,fb,hne⟩:=wg hap;have hE1:look st.env a=some (.aW ba oa):=(hx a ha).trans fa;have hE2:look st.env b=some (.aW bb ob):=(hyst b hb).trans fb;have h1':=h1;rw[ep,Option.map_eq_some_iff]at h1 h2;obtain⟨r1,hr1,rfl⟩:=h1;obtain⟨r2,hr2,rfl⟩:=h2;obtain⟨c1,t1,gx,tx,s1,k1⟩:=rJ ha hE1 hr1;simp only at hr2
   have hr2':cQ orc y (look st.env) (look st.mem) (gx st.sh) st.aa=some r2:=by
     rw[←hr2,s1,t1];refine gO (fun t ht=>?_) (fun k hk=>?_)
     ·rw[eO,if_neg];intro e;exact (hd1 t e).1 ht
     ·rw[Ah hb]at hk;cases hk
   obtain⟨c2,t2,gy,ty,s2,k2⟩:=rJ hb hE2 hr2';have hy0:=k2 st.sh (tx.other hne st.sh).symm
   have hy1:dV orc y st=some { env:=fU st.env y.dst r2.val,mem:=e8 st.mem y.op.key r2.cells,sh:=gy st.sh,aa:=r2.aa }:=by
     rw[ep,hy0];rfl
   have hx0:cQ orc x (look (fU st.env y.dst r2.val)) (look (e8 st.mem y.op.key r2.cells)) (gy st.sh) r2.aa=some { r1 with sh:=gx (gy st.sh) }:=by
     rw[←k1 (gy st.sh) (ty.other (Ne.symm hne) st.sh),t2];refine gO (fun t ht=>?_) (fun k hk=>?_)
     ·rw[eO,if_neg];intro e;exact hd2 t e ht
     ·rw[Ah ha]at hk;cases hk
   refine⟨_,{ env:=fU (fU st.env y.dst r2.val) x.dst r1.val,mem:=e8 (e8 st.mem y.op.key r2.cells) x.op.key r1.cells,sh:=gx (gy st.sh),aa:=r1.aa },hy1,?_,?_,hyst,hxst _ hy1⟩
   ·rw[ep,hx0];rfl
   · refine⟨fun t=>?_,fun t=>?_,?_,?_⟩
     · simp only[eO];by_cases hx:x.dst=some t
       ·rw[if_pos hx,if_neg (hd1 t hx).2,if_pos hx]
       ·rw[if_neg hx,if_neg hx]
     ·simp only[c1,c2,fF]
     ·simp only[s2];exact tx.comm ty hne st.sh
     ·simp only[t1,t2]
variable {ops:Array Oper} {as:List dN} {R:St→Prop} {F:Nat→Option AV}
def Ai(orc:d9)(ops:Array Oper)(as:List dN)(F:Nat→Option AV)(R:St→Prop):Nat→Array Bool→St→Prop
 |0,listed,st=>Region.ready .any ops listed=[]∧R st
 |fuel+1,listed,st=>(Region.ready .any ops listed=[]→R st) ∧
   ∀i∈Region.ready .any ops listed,∃ao st',as[i]?=some ao∧(∀a,ao.addr=some a→look st.env a=F a)∧dV orc ao st=some st'∧Ai orc ops as F R fuel (listed.setIfInBounds i true) st'
theorem wh(hR:∀x y,jZ x y→R x→R y):∀{fuel:Nat} {listed:Array Bool} {x y:St},jZ x y→Ai orc ops as F R fuel listed x→Ai orc ops as F R fuel listed y
 |0,_,_,_,hl,h=>⟨h.1,hR _ _ hl h.2⟩
 |fuel+1,_,_,_,hl,h=>⟨fun h0=>hR _ _ hl (h.1 h0),fun i hi=>by
     obtain⟨ao,st',h1,h6,h2,h3⟩:=h.2 i hi;obtain⟨y',h4,h5⟩:=GV hl h2;exact⟨ao,y',h1,fun a ha=>(hl.env a).symm.trans (h6 a ha),h4,wh hR h5 h3⟩⟩
def Down(ops:Array Oper)(listed:Array Bool):Prop:=∀k o,ops[k]?=some o→listed.getD k false=true→∀e∈o.after,Region.binds .any e=true→listed.getD e.on false=true
theorem Down.step{listed:Array Bool}(h:Down ops listed){i:Nat}(hi:i∈Region.ready .any ops listed):Down ops (listed.setIfInBounds i true):=by
 intro k o ho hk e he hb;by_cases hik:i=k
 ·subst hik;obtain⟨_,o',ho',hall⟩:=mem_ready.1 hi;rw[ho]at ho';cases ho';exact getD_set_true (hall e he hb)
 ·rw[getD_set_ne false hik]at hk;exact getD_set_true (h k o ho hk e he hb)
theorem CQ(hR:∀x y,jZ x y→R x→R y){i:Nat}{ai:dN}(hai:as[i]?=some ai){waits:Nat→Bool}
   (hwait:∀(listed:Array Bool),Down ops listed→∀j∈Region.ready .any ops listed,waits j=true→listed.getD i false=true) :
   ∀(fuel:Nat) (listed:Array Bool) (st st1:St),Down ops listed →
     (∀j aj,as[j]?=some aj→j≠i→listed.getD j true=false→waits j=false→Tg F ai aj)→(∀a,ai.addr=some a→look st.env a=F a) →
     i∈Region.ready .any ops listed→dV orc ai st=some st1→Ai orc ops as F R fuel (listed.setIfInBounds i true) st1→Ai orc ops as F R (fuel+1) listed st:=by
 intro fuel;induction fuel with
 |zero=>
   intro listed st st1 hdown hfree haddr hi hev H;refine⟨fun h=>(by rw[h]at hi;cases hi),fun j hj=>?_⟩;by_cases hji:j=i
   ·subst hji;exact⟨ai,st1,hai,haddr,hev,H⟩
   ·have:=ready_mono hj hji;rw[H.1]at this;cases this
 |succ fuel ih=>
   intro listed st st1 hdown hfree haddr hi hev H;refine⟨fun h=>(by rw[h]at hi;cases hi),fun j hj=>?_⟩;by_cases hji:j=i
   ·subst hji;exact⟨ai,st1,hai,haddr,hev,H⟩
   · obtain⟨aj,st2,h1,h6,h2,h3⟩:=H.2 j (ready_mono hj hji);obtain⟨hun,_⟩:=mem_ready.1 hj
     have hw:waits j=false:=by
       cases hw:waits j with
       |false=>rfl
       |true=>
         have h1:=hwait listed hdown j hj hw;have h0:=(mem_ready.1 hi).1;rcases Nat.lt_or_ge i listed.size with h'|h'
         ·simp[h']at h0 h1;rw[h0]at h1;cases h1
         ·simp[Array.getElem?_eq_none h']at h1
     obtain⟨st1',st2',g1,g2,g3,g4,g5⟩:=Ka (hfree j aj h1 hji hun hw) haddr h6 hev h2;refine⟨aj,st1',h1,g4,g1,ih (listed.setIfInBounds j true) st1' st2' (hdown.step hj) ?_ g5 (ready_mono hi (Ne.symm hji)) g2 ?_⟩
     · intro k ak hk hki hun' hwk;refine hfree k ak hk hki ?_ hwk;by_cases hjk:j=k
       ·subst hjk;exact hun
       ·rw[getD_set_ne true hjk]at hun';exact hun'
     ·rw[Array.setIfInBounds_comm _ _ hji];exact wh hR g3.symm h3
theorem pn(acc:List Nat)(i:Nat):∀(l:List Edge) (s:Nat),
   (l.foldl (fun s e=>if Region.binds .any e then s ||| 2 ^ e.on ||| acc.getD e.on 0 else s) s).testBit i=true →
   s.testBit i=true∨∃e∈l,Region.binds .any e=true∧(e.on=i∨(acc.getD e.on 0).testBit i=true)
 |[],s,h=>.inl h
 |e::l,s,h=>by
   simp only[List.foldl_cons]at h;rcases pn acc i l _ h with h1|⟨e',h2,h3⟩
   · split at h1
     · rename_i hb;rw[Nat.testBit_or,Nat.testBit_or,Bool.or_eq_true,Bool.or_eq_true]at h1;rcases h1 with (h1|h1)|h1
       ·exact .inl h1
       ·refine .inr ⟨e,by simp,hb,.inl ?_⟩;rw[Nat.testBit_two_pow]at h1;simpa using h1
       ·exact .inr ⟨e,by simp,hb,.inr h1⟩
     ·exact .inl h1
   ·exact .inr ⟨e',by simp[h2],h3⟩
theorem tV:∀(l:List Oper) (acc:List Nat),(lZ l acc).length=acc.length+l.length∧(∀j,j<acc.length→(lZ l acc).getD j 0=acc.getD j 0) ∧
   ∀k o,l[k]?=some o→∀i,((lZ l acc).getD (acc.length+k) 0).testBit i=true→∃e∈o.after.toList,Region.binds .any e=true∧(e.on=i∨((lZ l acc).getD e.on 0).testBit i=true)
 |[],acc=>⟨by simp[lZ],fun j _=>rfl,fun k o h=>by simp at h⟩
 |o::l,acc=>by
   simp only[lZ];obtain⟨h1,h2,h3⟩:=tV l (acc++[o.after.toList.foldl (fun s e=>if Region.binds .any e then s ||| 2 ^ e.on ||| acc.getD e.on 0 else s) 0]);refine⟨by rw[h1];simp;omega,fun j hj=>?_,fun k o' ho i hi=>?_⟩
   ·rw[h2 j (by simp;omega)];simp[List.getD,List.getElem?_append_left hj]
   · cases k with
     |zero=>
       simp at ho;subst ho;rw[Nat.add_zero,h2 acc.length (by simp)]at hi
       have:(acc++[o.after.toList.foldl (fun s e=>if Region.binds .any e then s ||| 2 ^ e.on ||| acc.getD e.on 0 else s) 0]).getD acc.length 0 =
           o.after.toList.foldl (fun s e=>if Region.binds .any e then s ||| 2 ^ e.on ||| acc.getD e.on 0 else s) 0:=by
         simp[List.getD]
       rw[this]at hi;rcases pn acc i _ _ hi with h|⟨e,h4,h5,h6⟩
       ·simp at h
       · refine⟨e,h4,h5,NO h6 fun h=>?_⟩
         have hlt:e.on<acc.length:=by
           rcases Nat.lt_or_ge e.on acc.length with h'|h'
           ·exact h'
           ·simp[List.getD,List.getElem?_eq_none h']at h
         rw[h2 e.on (by simp;omega)];simpa[List.getD,List.getElem?_append_left hlt] using h
     |succ k=>
       have:=h3 k o' (by simpa using ho) i (by simpa[Nat.add_assoc,Nat.add_comm 1 k] using hi);exact this
theorem jA:∀(l:List Oper) (i:Nat),ib i l=true→∀k o,l[k]?=some o→∀e∈o.after,Region.binds .any e=true→e.on<i+k
 |[],_,_,k,o,h,_,_,_=>by simp at h
 |o::l,i,hd,k,o',ho,e,he,hb=>by
   simp only[ib,Bool.and_eq_true,List.all_eq_true]at hd;cases k with
   |zero=>
     simp at ho;subst ho;have:=hd.1 e (by simpa using he);simpa[hb] using this
   |succ k=>
     have:=jA l (i+1) hd.2 k o' (by simpa using ho) e he hb;omega
theorem xT{l:List Oper}(hl:ops.toList=l)(hd:ib 0 l=true){listed:Array Bool}(hdown:Down ops listed)(i:Nat):∀(j:Nat) (o:Oper),ops[j]?=some o →
   (∀e∈o.after,Region.binds .any e=true→listed.getD e.on false=true)→((lZ l []).getD j 0).testBit i=true→listed.getD i false=true:=by
 intro j;induction j using Nat.strongRecOn with
 |_ j ih=>
   intro o ho hall hbit;have hlo:l[j]?=some o:=by rw[←hl];simpa using ho
   obtain⟨e,h1,h2,h3⟩:=(tV l []).2.2 j o hlo i (by simpa using hbit);have he:e∈o.after:=by simpa using h1
   rcases h3 with h3|h3
   ·rw[←h3];exact hall e he h2
   ·have hlt:=jA l 0 hd j o hlo e he h2;have hlt':e.on<j:=(by omega);have hjs:j<ops.size:=(Array.getElem?_eq_some_iff.1 ho).1;have hoo:ops[e.on]?=some (ops[e.on]'(by omega)):=Array.getElem?_eq_getElem (by omega);exact ih e.on hlt' _ hoo (fun e' he' hb'=>hdown e.on _ hoo (hall e he h2) e' he' hb') h3
theorem po{ds:List (Nat×Nat)}{ms:List Nat}{i:Nat}{x:dN}:∀(l:List dN) (j:Nat),su ds ms i x j l=true→∀k y,l[k]?=some y→(ms.getD (j+k) 0).testBit i=true∨(indep x y || zm ds x y)=true
 |[],_,_,k,y,h=>by simp at h
 |z::l,j,hp,k,y,hy=>by
   simp only[su,Bool.and_eq_true,Bool.or_eq_true]at hp;cases k with
   |zero=>simp at hy;subst hy;simpa[or_assoc] using hp.1
   |succ k=>
     have:=po l (j+1) hp.2 k y (by simpa using hy)
     rwa [show j+1+k=j+(k+1) from by omega]at this
theorem nG{ds:List (Nat×Nat)}{ms:List Nat}:∀(l:List dN) (i:Nat),l0 ds ms i l=true→∀k m x y,k<m→l[k]?=some x→l[m]?=some y→(ms.getD (i+m) 0).testBit (i+k)=true∨(indep x y || zm ds x y)=true
 |[],_,_,k,m,x,y,_,h,_=>by simp at h
 |z::l,i,hp,k,m,x,y,hkm,hx,hy=>by
   simp only[l0,Bool.and_eq_true]at hp;cases m with
   |zero=>omega
   |succ m=>
     cases k with
     |zero=>
       simp at hx;subst hx;have:=po l (i+1) hp.1 m y (by simpa using hy)
       rwa [show i+1+m=i+(m+1) from by omega]at this
     |succ k=>
       have:=nG l (i+1) hp.2 k m x y (by omega) (by simpa using hx) (by simpa using hy)
       rwa [show i+1+m=i+(m+1) from by omega,show i+1+k=i+(k+1) from by omega]at this
theorem se{n:Nat}(hd:ib 0 ops.toList=true){k:Nat}{o:Oper}{listed:Array Bool}(hs:listed.size=n)(hl:∀j,j<n→listed[j]?=some (decide (j<k)))(hn:ops.size=n)(ho:ops[k]?=some o) :
   k∈Region.ready .any ops listed:=by
 have hk:k<ops.size:=(Array.getElem?_eq_some_iff.1 ho).1;rw[mem_ready];refine⟨by simp[hl k (by omega)],o,ho,fun e he hb=>?_⟩;have:=jA _ 0 hd k o (by simpa using ho) e he hb;simp[hl e.on (by omega)];omega
theorem GX{ds:List (Nat×Nat)}{x y:dN}(h:zm ds x y=true) :
   (∀d,x.dst=some d→d∉y.looks∧y.dst≠some d)∧(∀d,y.dst=some d→d∉x.looks)∧∃a b,x.addr=some a∧y.addr=some b∧(a,b)∈ds:=by
 simp only[zm,Bool.and_eq_true]at h;obtain⟨⟨h1,h2⟩,h3⟩:=h;refine⟨fun d hd=>?_,fun d hd=>?_,?_⟩
 ·rw[hd]at h1;simp at h1;exact h1
 ·rw[hd]at h2;simpa using h2
 · split at h3
   ·rename_i a b ha hb;exact⟨a,b,ha,hb,by simpa using h3⟩
   ·cases h3
theorem tW{env:List (Nat×AV)}:∀{ds:List (Nat×Nat)},iO env ds=true→∀a b,(a,b)∈ds→apart (look env a) (look env b)=true
 |[],_,a,b,h=>by simp at h
 |(a',b')::r,h,a,b,hm=>by
   simp only[iO,Bool.and_eq_true]at h;simp only[List.mem_cons,Prod.mk.injEq]at hm;rcases hm with⟨rfl,rfl⟩|hm
   ·exact h.1
   ·exact tW h.2 a b hm
theorem tX{t:Nat}:∀{l:List dN} {st st':St},l.all (fun o=>o.dst != some t)=true→bp orc l st=some st'→look st'.env t=look st.env t
 |[],st,st',_,h=>by simp[bp]at h;subst h;rfl
 |o::l,st,st',hl,h=>by
   simp only[List.all_cons,Bool.and_eq_true,bne_iff_ne,ne_eq]at hl;simp only[bp]at h;split at h
   ·simp at h
   ·rename_i st1 h1;rw[tX (by simpa using hl.2) h];rw[ep,Option.map_eq_some_iff]at h1;obtain⟨r1,_,rfl⟩:=h1;simp only[eO];rw[if_neg hl.1]
theorem Aj{ds:List (Nat×Nat)}(hR:∀x y,jZ x y→R x→R y)(hd:ib 0 ops.toList=true)(hp:l0 ds (lZ ops.toList []) 0 as=true)(hlen:as.length=ops.size)
   (hF:∀a b,(a,b)∈ds→apart (F a) (F b)=true) :
   ∀(l:List dN) (k:Nat) (listed:Array Bool) (st st':St),(∀j,l[j]?=as[k+j]?)→l.length+k=ops.size→listed.size=ops.size→(∀j,j<ops.size→listed[j]?=some (decide (j<k)))→Down ops listed →
     xv l=true→(∀a,F a=look st'.env a)→bp orc l st=some st'→R st'→Ai orc ops as F R l.length listed st
 |[],k,listed,st,st',_,hk,hs,hl,_,_,_,hev,hr=>by
   simp[bp]at hev;subst hev;refine⟨?_,hr⟩;rw[List.eq_nil_iff_forall_not_mem];intro i hi;obtain⟨h1,o,ho,_⟩:=mem_ready.1 hi;have hi':i<ops.size:=(Array.getElem?_eq_some_iff.1 ho).1;simp at hk;simp[hl i hi']at h1;omega
 |x::l,k,listed,st,st',hlk,hk,hs,hl,hdown,hlt,hFe,hev,hr=>by
   have hev0:=hev;simp only[xv,Bool.and_eq_true]at hlt;simp only[bp]at hev;split at hev
   ·simp at hev
   · rename_i st1 hst1;simp only[List.length_cons]at hk⊢;have hx:as[k]?=some x:=by simpa using (hlk 0).symm
     have hks:k<ops.size:=(by omega);have ho:ops[k]?=some ops[k]:=Array.getElem?_eq_getElem hks;have hready:=se hd hs hl rfl ho;refine CQ hR hx (waits:=fun j=>((lZ ops.toList []).getD j 0).testBit k) ?_ l.length listed st st1 hdown ?_ (fun a ha=>?_) hready hst1 ?_
     ·intro listed' hdown' j hj hw;obtain⟨_,o,hoj,hall⟩:=mem_ready.1 hj;exact xT rfl hd hdown' k j o hoj hall hw
     · intro j aj hj hjk hun hw;have hj':j<ops.size:=by rw[←hlen];exact (List.getElem?_eq_some_iff.1 hj).1
       have hkj:k<j:=by
         simp[hl j hj']at hun;omega
       have:=nG as 0 hp k j x aj hkj hx hj;simp only[Nat.zero_add]at this;rcases this with h|h
       ·rw[h]at hw;simp at hw
       · rcases Bool.or_eq_true _ _ |>.mp h with h|h
         ·exact .inl h
         ·obtain⟨f1,f2,a,b,f3,f4,f5⟩:=GX h;exact .inr ⟨f1,f2,a,b,f3,f4,hF a b f5⟩
     ·have h1:=hlt.1;rw[ha]at h1;rw[hFe a];exact (tX h1 hev0).symm
     · refine Aj hR hd hp hlen hF l (k+1) (listed.setIfInBounds k true) st1 st' (fun j=>?_) (by omega) (by simp[hs]) (fun j hj=>?_) (hdown.step hready) hlt.2 hFe hev hr
       ·have:=hlk (j+1);rw[show k+(j+1)=k+1+j from by omega]at this;simpa using this
       · by_cases hkj:k=j
         ·subst hkj;simp[hs,hks]
         ·rw[Array.getElem?_setIfInBounds_ne hkj,hl j hj];congr 1;simp;omega
end
section
variable {n0:Nat} {P:Program} {ns:Names}
theorem gV.Q7{n0 N:Nat}{G:Gh}{x y:St}{a:Act}{w:World}(h:gV (num ns) n0 N G x a w)(hl:jZ x y):gV (num ns) n0 N G y a w:=by
 refine⟨⟨h.env.size,fun t v ht=>h.env.env t v (by rw[hl.env];exact ht)⟩,?_,h.marks⟩;have hi:=h.inv;rw[hl.sh,hl.aa]at hi
 exact { hi with
   cT:=fun d cells hd=>hi.cT d cells (by rw[hl.mem];exact hd)
   gM:=fun d b hd=>by rw[←hl.mem];exact hi.gM d b hd }
theorem gV.drew{n0 N:Nat}{G:Gh}{x:St}{a:Act}{w:World}(h:gV (num ns) n0 N G x a w):gV (num ns) n0 N G x a w.drew:=⟨h.env,h.inv.drew,h.marks.q_ (bK.drew G w) rfl⟩
end
end Go.Ab
namespace Go.Ab
section
variable {n0:Nat} {P:Program} {ns:Names} {ro:Option Nat} {n:Nat}
def vz(ro:Option Nat):Fence:={ Fence.wide with round:=ro }
theorem GY{f:FuncId}{args:Array Value}{w:World}{R:Ending→World→Prop}(h:Calls P f args w R):CallsIn (vz ro) n P f args w R:=by
 have h0:=callsIn_wide (n:=n).2 h;cases ro with
 |none=>exact h0
 |some l=>exact h0.inRound l
theorem Kb{row:String}{args:Array Value}{w:World}{R:Value→World→Prop}(h:Rows P row args w R):RowsIn (vz ro) n P row args w R:=by
 intro c cs _;obtain⟨v,w',r,s⟩:=h c cs;have h0:=stepsIn_wide.2 s;exact⟨v,w',r,h0⟩
theorem sD{o:Oper}(hd:∀c,o.op≠.defer c){a:Act}{w:World}{next:Act→World→Prop}{Q:Exit→Act→World→Prop}
   (h:o.wp P a w next (fun _ _ _=>False)):o.wpIn (vz ro) n P a w next Q:=by
 refine⟨fun _ _=>trivial,?_⟩;rw[Oper.semAt_eq _ _ _ hd];unfold Oper.wp at h;generalize (execOp a.eval o).run P w=r at h⊢;cases r with
 |ok x w'=>
   cases x<;>simp only[Oper.upon,Oper.uponIn]at h⊢<;>try exact h
   · refine⟨fun e=>by simp[vz,Fence.wide]at e,GY (h.mono ?_)⟩;intro e w'' he;cases e with
     |returned v=>exact he
     |panicked c=>exact he.elim
     |outgrown=>obtain⟨_,_,hf⟩:=he;exact hf.elim
   ·exact⟨fun e=>by simp[vz,Fence.wide]at e,Kb h⟩
 |halt x w'=>cases x<;>simp only[Oper.upon,Oper.uponIn]at h⊢<;>exact h.elim
theorem xU{A:ko}{N:Nat}{ops:Array Oper}{o:Oper}{ao:dN}(hc:cK P ns A N ops o=some ao):∀c,o.op≠.defer c:=by
 intro c e;obtain⟨args,h1,_⟩:=lg hc;rw[e]at h1;simp[bH]at h1
theorem xW{G:Gh}{w:World}(hB:eU P ns){orc:d9}(horc:gD P ns orc){A:ko}{N:Nat}{ops:Array Oper}{o:Oper}{ao:dN}(hc:cK P ns A N ops o=some ao)
   {st st':St} {a:Act} (hs:gV (num ns) n0 N G st a w) (hev:dV orc ao st=some st') {next:Act→World→Prop} {Q:Exit→Act→World→Prop}
   (hn:∀G' v w',gV (num ns) n0 N G' st' (a.put o.dst v) w'→bK G w G' w'→next (a.put o.dst v) w') :
   if Region.wanted o (yielded ops a.tmps) then o.wpIn (vz ro) n P a w next Q else (∀f,o.about P w a.eval=some f→(vz ro).fn f)∧next (a.put o.dst undef) w:=by
 rcases CP (Q:=fun _ _ _=>False) hB horc hc hs hev hn with⟨h1,h2⟩|⟨h1,h2⟩
 ·rw[if_pos h1];exact sD (xU hc) h2
 ·rw[h1,if_neg (by simp)];exact⟨fun _ _=>trivial,h2⟩
theorem Ao(hB:eU P ns){orc:d9}(horc:gD P ns orc){A:ko}{N:Nat}{ops:Array Oper}{Q:Exit→Act→World→Prop}:∀{l:List Oper} {as:List dN} {st st':St} {G:Gh} {a:Act} {w:World},
   cf (cK P ns A N ops) l=some as→gV (num ns) n0 N G st a w→bp orc as st=some st' →
   (∀G' a' w',gV (num ns) n0 N G' st' a' w'→bK G w G' w'→Q .normal a' w')→wpListIn (vz ro) n P ops Q l a w
 |[],as,st,st',G,a,w,hc,hs,hev,hq=>by
   simp[cf]at hc;subst hc;simp[bp]at hev;subst hev;exact hq G a w hs (bK.refl G w)
 |o::l,as,st,st',G,a,w,hc,hs,hev,hq=>by
   simp only[cf]at hc;split at hc
   · rename_i ao aos h1 h2;simp at hc;subst hc;simp only[bp]at hev;split at hev
     ·simp at hev
     ·rename_i st1 hst1;unfold wpListIn;exact xW hB horc h1 hs hst1 (fun G' a' w' hs' he=>Ao hB horc h2 hs' hev (fun G'' a'' w'' hs'' he'=>hq G'' a'' w'' hs'' (he.trans he')))
   ·simp at hc
theorem FD(hB:eU P ns){orc:d9}(horc:gD P ns orc){A:ko}{N:Nat}{ops:Array Oper}{as:List dN}(hc:cf (cK P ns A N ops) ops.toList=some as){F:Nat→Option AV}{R:St→Prop}{Q:Exit→Act→World→Prop} :
   ∀{fuel:Nat} {listed:Array Bool} {st:St} {G:Gh} {a:Act} {w:World},gV (num ns) n0 N G st a w→Ai orc ops as F R fuel listed st →
     (∀st' G' a' w',R st'→gV (num ns) n0 N G' st' a' w'→bK G w G' w'→Q .normal a' w')→wpAnyIn (vz ro) n P .any ops Q fuel listed a w
 |0,_,st,G,a,w,hs,h,hq=>⟨h.1,hq st G a w h.2 hs (bK.refl G w)⟩
 |fuel+1,listed,st,G,a,w,hs,h,hq=>by
   refine⟨fun h0=>hq st G a w (h.1 h0) hs (bK.refl G w),fun i hi=>?_⟩;obtain⟨ao,st',h1,_,h2,h3⟩:=h.2 i hi;obtain⟨_,o,ho,_⟩:=mem_ready.1 hi
   have hco:cK P ns A N ops o=some ao:=by
     obtain⟨y,g1,g2⟩:=zx hc (i:=i) (x:=o) (by simpa using ho);rw[h1]at g1;cases g1;exact g2
   unfold wpOpIn;simp only[ho];exact xW hB horc hco hs h2 (fun G' a' w' hs' he=>FD hB horc hc hs' h3 (fun st'' G'' a'' w'' hr hs'' he'=>hq st'' G'' a'' w'' hr hs'' (he.trans he')))
theorem wi(hm:P.follows .mixedOrders=true)(hB:eU P ns){orc:d9}(horc:gD P ns orc){A:ko}{N id:Nat}{ops:Array Oper}{draw:Bool}{as:List dN}
   (hc:cf (cK P ns A N ops) ops.toList=some as) {ds:List (Nat×Nat)} (hd:draw=true→xx ds ops.toList as=true) {st st':St} {G:Gh} {a:Act} {w:World} (hs:gV (num ns) n0 N G st a w) (hev:bp orc as st=some st') (hfar:iO st'.env ds=true)
   {Q:Exit→Act→World→Prop} (hq:∀G' a' w',gV (num ns) n0 N G' st' a' w'→bK G w G' w'→Q .normal a' w'):(Code.region id ops draw).wpIn (vz ro) n P Q a w:=by
 cases draw with
 |false=>exact wpIn_region_list (Ao hB horc hc hs hev hq)
 |true=>
   have hd':=hd rfl;simp only[xx,Bool.and_eq_true]at hd';have hlen:as.length=ops.size:=by have:=gB hc;simpa using this
   refine wpIn_region_any hm ?_
   have hany:Ai orc ops as (look st'.env) (fun s=>jZ s st') ops.size (Array.replicate ops.size false) st:=by
     have:=Aj (orc:=orc) (ops:=ops) (as:=as) (F:=look st'.env) (R:=fun s=>jZ s st') (fun x y hl hr=>hl.symm.trans hr) hd'.1 hd'.2.1 hlen (fun a b=>tW hfar a b) as 0 (Array.replicate ops.size false) st st' (fun j=>by simp) (by simp[hlen]) (by simp)
       (fun j hj=>by simp[hj]) (fun k o ho hk=>by
         exfalso;have hk':k<ops.size:=(Array.getElem?_eq_some_iff.1 ho).1;simp[hk']at hk) hd'.2.2 (fun _=>rfl) hev (jZ.refl _)
     rwa [hlen]at this
   exact FD hB horc hc hs.drew hany fun s G' a' w' hl hs' he=>hq G' a' w' (hs'.Q7 hl) ((bK.drew G w).trans he)
end
end Go.Ab
namespace Go.Ab
def Ap{α:Type}(f:Nat→Option α):Prop:=∀k k' r,k≤k'→f k=some r→f k'=some r
open Classical in
noncomputable def JS{α:Type}(f:Nat→Option α):Option α:=if h:∃r k,f k=some r then some h.choose else none
theorem tY{α:Type}{f:Nat→Option α}(hf:Ap f){k:Nat}{r:α}(h:f k=some r):JS f=some r:=by
 have hex:∃r k,f k=some r:=⟨r,k,h⟩;unfold JS;rw[dif_pos hex];obtain⟨k',h'⟩:=hex.choose_spec;have h1:=hf _ (max k k') _ (Nat.le_max_right _ _) h';have h2:=hf _ (max k k') _ (Nat.le_max_left _ _) h;rw[h1]at h2;exact h2
theorem gP{α:Type}{f:Nat→Option α}{r:α}(h:JS f=some r):∃k,f k=some r:=by
 unfold JS at h;split at h
 ·rename_i hex;obtain⟨k,hk⟩:=hex.choose_spec;cases h;exact⟨k,hk⟩
 ·simp at h
theorem tZ{α:Type}{f:Nat→Option α}(h:∀k,f k=none):JS f=none:=by
 cases hl:JS f with
 |none=>rfl
 |some r=>obtain⟨k,hk⟩:=gP hl;rw[h k]at hk;simp at hk
theorem mX{α:Type}{f:Nat→Option α}(hf:Ap f){o:Option α}(h1:∀k r,f k=some r→o=some r)(h2:∀r,o=some r→∃k,f k=some r):JS f=o:=by
 cases ho:o with
 |none=>exact tZ fun k=>by cases hk:f k with|none=>rfl|some r=>rw[h1 k r hk]at ho;simp at ho
 |some r=>obtain⟨k,hk⟩:=h2 r ho;exact tY hf hk
structure d9.le(a b:d9):Prop where
 p:∀g x r,a.p g x=some r→b.p g x=some r
 i:∀g x s t r,a.i g x s t=some r→b.i g x s t=some r
theorem d9.le_refl(a:d9):a.le a:=⟨fun _ _ _ h=>h,fun _ _ _ _ _ h=>h⟩
theorem j8{a b:d9}(h:a.le b){g:Nat}{own:List Nat}{vals:List AV}{sh:Sh}{aa:aG}{r:AV×Sh×aG}(e:dU a g own vals sh aa=some r):dU b g own vals sh aa=some r:=by
 unfold dU at *;split at e
 ·rename_i hp;rw[if_pos hp];simp only[Option.map_eq_some_iff]at e⊢;obtain⟨x,h1,h2⟩:=e;exact⟨x,h.i _ _ _ _ _ h1,h2⟩
 ·simp at e
theorem GZ{a b:d9}(h:a.le b){op:AK}{vals:List AV}{cells:Option (List AV)}{sh:Sh}{aa:aG}{r:Out}(e:exec a op vals cells sh aa=some r):exec b op vals cells sh aa=some r:=by
 cases op with
 |aJ g=>
   simp only[exec]at e⊢;split at e
   ·simp only[Option.map_eq_some_iff]at e⊢;obtain⟨x,h1,h2⟩:=e;exact⟨x,h.p _ _ _ h1,h2⟩
   ·simp at e
 |eE g=>
   simp only[exec]at e⊢;split at e
   ·simp only[Option.map_eq_some_iff]at e⊢;obtain⟨x,h1,h2⟩:=e;exact⟨x,h.p _ _ _ h1,h2⟩
   ·simp at e
 |bA g own=>
   simp only[exec,Option.map_eq_some_iff]at e⊢;obtain⟨x,h1,h2⟩:=e;exact⟨x,j8 h h1,h2⟩
 |lX g=>
   simp only[exec]at e⊢;split at e
   · split at e
     ·rename_i rs ts h1;rw[h.i _ _ _ _ _ h1];exact e
     ·simp at e
   ·simp at e
 |ff=>
   cases vals with
   |nil=>simp[exec]at e
   |cons f vals=>
     cases f with
     |fn g cap=>
       simp only[exec,Option.bind_eq_some_iff]at e⊢;obtain⟨x,h1,h2⟩:=e;exact⟨x,j8 h h1,h2⟩
     |_=>simp[exec]at e
 |fJ=>
   cases vals with
   |nil=>simp[exec]at e
   |cons f vals=>
     cases f with
     |fn g cap=>
       simp only[exec,Option.map_eq_some_iff]at e⊢;obtain⟨x,h1,h2⟩:=e;exact⟨x,j8 h h1,h2⟩
     |_=>simp[exec]at e
 |_=>rw[←e];unfold exec;split<;>first|rfl|(rename_i heq;cases heq;done)|(simp at *;done)
theorem wj{a b:d9}(h:a.le b){o:dN}{st r:St}(e:dV a o st=some r):dV b o st=some r:=by
 unfold dV at *;cases hw:fD st.env o.guard with
 |none=>rw[hw]at e;simp at e
 |some t=>
   cases t with
   |false=>rw[hw]at e;exact e
   |true=>
     rw[hw]at e;dsimp only at e⊢;cases hv:dY st.env o.args with
     |none=>rw[hv]at e;simp at e
     |some vals=>
       rw[hv]at e;dsimp only at e⊢;cases ho:exec a o.op vals (o.op.key.bind (look st.mem)) st.sh st.aa with
       |none=>rw[ho]at e;simp at e
       |some out=>
         rw[ho]at e;rw[GZ h ho];exact e
theorem oe{a b:d9}(h:a.le b):∀{l:List dN} {st r:St},bp a l st=some r→bp b l st=some r
 |[],_,_,e=>e
 |o::l,st,r,e=>by
   simp only[bp]at e⊢;split at e
   ·simp at e
   ·rename_i st' ho;rw[wj h ho];exact oe h e
theorem jB{f f':St→Option (bg×St)}{pre:St→St}(h:∀s r,f s=some r→f' s=some r):∀{n n':Nat} {st:St} {r:bg×St},n≤n'→fo f pre n st=some r→fo f' pre n' st=some r
 |0,_,_,_,_,e=>by simp[fo]at e
 |n+1,0,_,_,hn,_=>by omega
 |n+1,n'+1,st,r,hn,e=>by
   simp only[fo]at e⊢;cases hf:f (pre st) with
   |none=>rw[hf]at e;simp at e
   |some q=>
     rw[h _ _ hf];rw[hf]at e;obtain⟨x,s⟩:=q;cases x with
     |normal=>exact jB h (by omega) e
     |ret=>exact e
     |exit id=>exact e
theorem og{f f':St→Option (bg×St)}(h:∀s r,f s=some r→f' s=some r){live:List Nat}{pi px sz:Nat}{ag:Bool}{env:List (Nat×AV)}:∀{l:List (PV×Nat)} {st:St} {r:bg×St},
   qY f live pi px sz ag env l st=some r→qY f' live pi px sz ag env l st=some r
 |[],_,_,e=>e
 |(el,i)::l,st,r,e=>by
   simp only[qY]at e⊢;cases hv:QW sz ag el with
   |none=>rw[hv]at e;simp at e
   |some v=>
     rw[hv]at e;simp only at e⊢;cases hf:f (norm (restrict live { st with env:=cX (cX env pi (.pv (.int .i64 i))) px v })) with
     |none=>rw[hf]at e;simp at e
     |some q=>
       rw[h _ _ hf];rw[hf]at e;obtain⟨x,s⟩:=q;cases x with
       |normal=>exact og h e
       |ret=>exact e
       |exit id=>exact e
theorem vJ{f f':St→Option (bg×St)}(h:∀s r,f s=some r→f' s=some r){v:Option AV}{gb pi px sz:Nat}{ag:Bool}{live:List Nat}{st:St}{r:bg×St}
   (e:lY f v gb pi px sz ag live st=some r):lY f' v gb pi px sz ag live st=some r:=by
 unfold lY at e⊢;split at e
 · split at e
   · rename_i hg;rw[if_pos hg];split at e
     · split at e
       ·rename_i hl;rw[if_pos hl];exact og h e
       ·simp at e
     ·simp at e
   ·simp at e
 ·simp at e
theorem pq{f g f' g':St→Option (bg×St)}(h:∀s r,f s=some r→f' s=some r)(k:∀s r,g s=some r→g' s=some r):∀s r,andThen f g s=some r→andThen f' g' s=some r:=by
 intro s r e;unfold andThen at e⊢;cases hf:f s with
 |none=>rw[hf]at e;simp at e
 |some q=>
   rw[h _ _ hf];rw[hf]at e;obtain⟨x,t⟩:=q;cases x with
   |normal=>exact k _ _ e
   |ret=>simp at e
   |exit id=>simp at e
theorem cp{a b:d9}(h:a.le b){k k':Nat}(hk:k≤k'):∀{c:aq} {st:St} {r:bg×St},cM a k c st=some r→cM b k' c st=some r
 | .skip,_,_,e=>e
 | .dd _,_,_,e=>e
 | .PU _,_,_,e=>e
 | .lN _,_,_,e=>e
 | .lV _,_,_,e=>e
 | .PW _,_,_,e=>e
 | .iN ops live,st,r,e=>by
   simp only[cM]at e⊢;split at e
   ·rename_i st' ho;rw[oe h ho];exact e
   ·simp at e
 | .seq x y,st,r,e=>by
   simp only[cM]at e⊢;cases hx:cM a k x st with
   |none=>rw[hx]at e;simp at e
   |some q=>
     rw[cp h hk hx];rw[hx]at e;obtain⟨ex,s⟩:=q;cases ex with
     |normal=>exact cp h hk e
     |ret=>exact e
     |exit id=>exact e
 | .cond c x y,st,r,e=>by
   simp only[cM]at e⊢;split at e
   · rename_i t hc;split at e
     ·rename_i ht;rw[if_pos ht];exact cp h hk e
     ·rename_i ht;rw[if_neg ht];exact cp h hk e
   ·simp at e
 | .block id x,st,r,e=>by
   simp only[cM]at e⊢;cases hx:cM a k x st with
   |none=>rw[hx]at e;simp at e
   |some q=>
     rw[cp h hk hx];rw[hx]at e;exact e
 | .loop live x,st,r,e=>by
   simp only[cM]at e⊢;exact jB (fun s r hs=>cp h hk hs) hk e
 | .exit id,_,_,e=>e
 | .ret,_,_,e=>e
 | .back c gb pi px sz ag live x y,st,r,e=>by
   simp only[cM]at e⊢;exact vJ (pq (fun s r hs=>cp h hk hs) (fun s r hs=>cp h hk hs)) e
theorem eP{a b:d9}(h:a.le b){k k':Nat}(hk:k≤k'){aU:Bool}{af:aA}{args:List AV}{sh:Sh}{ts:aG}{r:List AV×Sh×aG}(e:b_ a k aU af args sh ts=some r):b_ b k' aU af args sh ts=some r:=by
 unfold b_ at *;cases hc:cM a k af.body { env:=bZ 0 args,mem:=[],sh,aa:=ts } with
 |none=>rw[hc]at e;simp at e
 |some q=>rw[cp h hk hc];rw[hc]at e;exact e
variable {AP:Nat→Option aA}
theorem cH:∀{n n' k k':Nat},n≤n'→k≤k'→(run AP k n).le (run AP k' n')
 |0,_,_,_,_,_=>⟨fun g x r e=>by simp[run]at e,fun g x s t r e=>by simp[run]at e⟩
 |n+1,0,_,_,h,_=>by omega
 |n+1,n'+1,k,k',h,hk=>by
   have ih:(run AP k n).le (run AP k' n'):=cH (by omega) hk;refine⟨fun g x r e=>?_,fun g x s t r e=>?_⟩
   · simp only[run]at e⊢;cases hg:AP g with
     |none=>rw[hg]at e;simp at e
     |some af=>
       rw[hg]at e;dsimp only at e⊢;cases hp:af.qc with
       |some f=>rw[hp]at e;exact f.mono ih.p e
       |none=>
         rw[hp]at e;dsimp only at e⊢;split at e
         · rename_i hc;rw[if_pos hc];cases hb:b_ (run AP k n) k false af (x.map .pv) [] [] with
           |none=>rw[hb]at e;simp at e
           |some q=>rw[eP ih hk hb];rw[hb]at e;exact e
         ·simp at e
   · simp only[run]at e⊢;cases hg:AP g with
     |none=>rw[hg]at e;simp at e
     |some af=>
       rw[hg]at e;dsimp only at e⊢;split at e
       ·rename_i hc;rw[if_pos hc];exact eP ih hk e
       ·simp at e
noncomputable def aC(AP:Nat→Option aA):d9 where
 p:=fun g x=>JS fun n=>(run AP n n).p g x
 i:=fun g x s t=>JS fun n=>(run AP n n).i g x s t
theorem sE(g:Nat)(x:List PV):Ap fun n=>(run AP n n).p g x:=fun _ _ _ h e=>(cH h h).p _ _ _ e
theorem FE(g:Nat)(x:List AV)(s:Sh)(t:aG):Ap fun n=>(run AP n n).i g x s t:=fun _ _ _ h e=>(cH h h).i _ _ _ _ _ e
theorem Kc(n:Nat):(run AP n n).le (aC AP):=⟨fun g x _ e=>tY (sE g x) e,fun g x s t _ e=>tY (FE g x s t) e⟩
theorem sF{g:Nat}{x:List PV}{r:List PV}(h:(aC AP).p g x=some r):∃n,(run AP n n).p g x=some r:=gP h
theorem FF{g:Nat}{x:List AV}{s:Sh}{t:aG}{r:List AV×Sh×aG}(h:(aC AP).i g x s t=some r):∃n,(run AP n n).i g x s t=some r:=gP h
theorem oh{g:Nat}{own:List Nat}{vals:List AV}{sh:Sh}{aa:aG}{r:AV×Sh×aG}(e:dU (aC AP) g own vals sh aa=some r):∃n,dU (run AP n n) g own vals sh aa=some r:=by
 unfold dU at *;split at e
 ·rename_i hp;simp only[Option.map_eq_some_iff]at e;obtain⟨x,h1,h2⟩:=e;obtain⟨n,hn⟩:=FF h1;exact⟨n,by rw[if_pos hp,hn];simp only[Option.map_some,h2]⟩
 ·simp at e
theorem CR{op:AK}{vals:List AV}{cells:Option (List AV)}{sh:Sh}{aa:aG}{r:Out}(e:exec (aC AP) op vals cells sh aa=some r):∃n,exec (run AP n n) op vals cells sh aa=some r:=by
 cases op with
 |aJ g=>
   simp only[exec]at e⊢;split at e
   ·rename_i cW hp;simp only[Option.map_eq_some_iff]at e;obtain⟨x,h1,h2⟩:=e;obtain⟨n,hn⟩:=sF h1;exact⟨n,by rw[hn];simp only[Option.map_some,h2]⟩
   ·simp at e
 |eE g=>
   simp only[exec]at e⊢;split at e
   ·rename_i cW hp;simp only[Option.map_eq_some_iff]at e;obtain⟨x,h1,h2⟩:=e;obtain⟨n,hn⟩:=sF h1;exact⟨n,by rw[hn];simp only[Option.map_some,h2]⟩
   ·simp at e
 |bA g own=>
   simp only[exec,Option.map_eq_some_iff]at e⊢;obtain⟨x,h1,h2⟩:=e;obtain⟨n,hn⟩:=oh h1;exact⟨n,x,hn,h2⟩
 |lX g=>
   simp only[exec]at e⊢;split at e
   · split at e
     ·rename_i rs ts h1;obtain⟨n,hn⟩:=FF h1;exact⟨n,by rw[hn];exact e⟩
     ·simp at e
   ·simp at e
 |ff=>
   cases vals with
   |nil=>simp[exec]at e
   |cons f vals=>
     cases f with
     |fn g cap=>
       simp only[exec,Option.bind_eq_some_iff]at e⊢;obtain⟨x,h1,h2⟩:=e;obtain⟨n,hn⟩:=oh h1;exact⟨n,x,hn,h2⟩
     |_=>simp[exec]at e
 |fJ=>
   cases vals with
   |nil=>simp[exec]at e
   |cons f vals=>
     cases f with
     |fn g cap=>
       simp only[exec,Option.map_eq_some_iff]at e⊢;obtain⟨x,h1,h2⟩:=e;obtain⟨n,hn⟩:=oh h1;exact⟨n,x,hn,h2⟩
     |_=>simp[exec]at e
 |_=>exact⟨0,by rw[←e];unfold exec;split<;>first|rfl|(rename_i heq;cases heq;done)|(simp at *;done)⟩
theorem Kd{o:dN}{st r:St}(e:dV (aC AP) o st=some r):∃n,dV (run AP n n) o st=some r:=by
 unfold dV at *;cases hw:fD st.env o.guard with
 |none=>rw[hw]at e;simp at e
 |some t=>
   cases t with
   |false=>rw[hw]at e;exact⟨0,e⟩
   |true=>
     rw[hw]at e;dsimp only at e⊢;cases hv:dY st.env o.args with
     |none=>rw[hv]at e;simp at e
     |some vals=>
       rw[hv]at e;dsimp only at e⊢;cases ho:exec (aC AP) o.op vals (o.op.key.bind (look st.mem)) st.sh st.aa with
       |none=>rw[ho]at e;simp at e
       |some out=>
         obtain⟨n,hn⟩:=CR ho;rw[ho]at e;exact⟨n,by rw[hn];exact e⟩
theorem wm:∀{l:List dN} {st r:St},bp (aC AP) l st=some r→∃n,bp (run AP n n) l st=some r
 |[],_,_,e=>⟨0,e⟩
 |o::l,st,r,e=>by
   simp only[bp]at e⊢;cases ho:dV (aC AP) o st with
   |none=>rw[ho]at e;simp at e
   |some s=>
     rw[ho]at e;obtain⟨n,hn⟩:=Kd ho;obtain⟨m,hm⟩:=wm (l:=l) e;refine⟨max n m,?_⟩;rw[wj (cH (Nat.le_max_left n m) (Nat.le_max_left n m)) hn];exact oe (cH (Nat.le_max_right n m) (Nat.le_max_right n m)) hm
theorem t6{k:Nat}{c:aq}{pre:St→St}(ih:∀{st:St} {r:bg×St},cM (aC AP) k c st=some r→∃n,cM (run AP n n) n c st=some r) :
   ∀{j:Nat} {st:St} {r:bg×St},fo (cM (aC AP) k c) pre j st=some r→∃n,fo (cM (run AP n n) n c) pre n st=some r
 |0,_,_,e=>by simp[fo]at e
 |j+1,st,r,e=>by
   simp only[fo]at e;cases hf:cM (aC AP) k c (pre st) with
   |none=>rw[hf]at e;simp at e
   |some q=>
     obtain⟨n,hn⟩:=ih hf;rw[hf]at e;obtain⟨x,s⟩:=q;cases x with
     |normal=>
       obtain⟨m,hm⟩:=t6 ih e;refine⟨max n m+1,?_⟩;simp only[fo];rw[cp (cH (n:=n) (n':=max n m+1) (by omega) (by omega)) (k:=n) (k':=max n m+1) (by omega) hn];exact jB (fun s r hs=>cp (cH (n:=m) (by omega) (by omega)) (k:=m) (by omega) hs) (n:=m) (by omega) hm
     |ret=>
       refine⟨n+1,?_⟩;simp only[fo];rw[cp (cH (n:=n) (n':=n+1) (by omega) (by omega)) (k:=n) (k':=n+1) (by omega) hn];exact e
     |exit id=>
       refine⟨n+1,?_⟩;simp only[fo];rw[cp (cH (n:=n) (n':=n+1) (by omega) (by omega)) (k:=n) (k':=n+1) (by omega) hn];exact e
theorem qn{n m:Nat}(h:n≤m){c:aq}{st:St}{r:bg×St}(e:cM (run AP n n) n c st=some r):cM (run AP m m) m c st=some r:=cp (cH h h) h e
theorem vK{k:Nat}{x y:aq}(ihx:∀{st:St} {r:bg×St},cM (aC AP) k x st=some r→∃n,cM (run AP n n) n x st=some r)(ihy:∀{st:St} {r:bg×St},cM (aC AP) k y st=some r→∃n,cM (run AP n n) n y st=some r)
   {st:St} {r:bg×St} (e:andThen (cM (aC AP) k x) (cM (aC AP) k y) st=some r):∃n,andThen (cM (run AP n n) n x) (cM (run AP n n) n y) st=some r:=by
 unfold andThen at e⊢;cases hx:cM (aC AP) k x st with
 |none=>rw[hx]at e;simp at e
 |some q=>
   obtain⟨n,hn⟩:=ihx hx;rw[hx]at e;obtain⟨ex,s⟩:=q;cases ex with
   |normal=>
     obtain⟨m,hm⟩:=ihy e;exact⟨max n m,by rw[qn (Nat.le_max_left n m) hn];exact qn (Nat.le_max_right n m) hm⟩
   |ret=>simp at e
   |exit id=>simp at e
theorem t7{F:St→Option (bg×St)}{f:Nat→St→Option (bg×St)}(hm:∀{n m:Nat},n≤m→∀s r,f n s=some r→f m s=some r)(ih:∀{st:St} {r:bg×St},F st=some r→∃n,f n st=some r)
   {live:List Nat} {pi px sz:Nat} {ag:Bool} {env:List (Nat×AV)}:∀{l:List (PV×Nat)} {st:St} {r:bg×St},qY F live pi px sz ag env l st=some r→∃n,qY (f n) live pi px sz ag env l st=some r
 |[],_,_,e=>⟨0,e⟩
 |(el,i)::l,st,r,e=>by
   simp only[qY]at e⊢;cases hv:QW sz ag el with
   |none=>rw[hv]at e;simp at e
   |some v=>
     rw[hv]at e;simp only at e⊢;cases hf:F (norm (restrict live { st with env:=cX (cX env pi (.pv (.int .i64 i))) px v })) with
     |none=>rw[hf]at e;simp at e
     |some q=>
       obtain⟨n,hn⟩:=ih hf;rw[hf]at e;obtain⟨x,s⟩:=q;cases x with
       |normal=>
         obtain⟨m,hm'⟩:=t7 hm ih e;exact⟨max n m,by rw[hm (Nat.le_max_left n m) _ _ hn];exact og (hm (Nat.le_max_right n m)) hm'⟩
       |ret=>exact⟨n,by rw[hn];exact e⟩
       |exit id=>exact⟨n,by rw[hn];exact e⟩
theorem je{k:Nat}:∀{c:aq} {st:St} {r:bg×St},cM (aC AP) k c st=some r→∃n,cM (run AP n n) n c st=some r
 | .skip,_,_,e=>⟨0,e⟩
 | .dd _,_,_,e=>⟨0,e⟩
 | .PU _,_,_,e=>⟨0,e⟩
 | .lN _,_,_,e=>⟨0,e⟩
 | .lV _,_,_,e=>⟨0,e⟩
 | .PW _,_,_,e=>⟨0,e⟩
 | .iN ops live,st,r,e=>by
   simp only[cM]at e⊢;cases ho:bp (aC AP) ops st with
   |none=>rw[ho]at e;simp at e
   |some s=>obtain⟨n,hn⟩:=wm ho;rw[ho]at e;exact⟨n,by rw[hn];exact e⟩
 | .seq x y,st,r,e=>by
   simp only[cM]at e⊢;cases hx:cM (aC AP) k x st with
   |none=>rw[hx]at e;simp at e
   |some q=>
     obtain⟨n,hn⟩:=je hx;rw[hx]at e;obtain⟨ex,s⟩:=q;cases ex with
     |normal=>
       obtain⟨m,hm⟩:=je (c:=y) e;exact⟨max n m,by rw[qn (Nat.le_max_left n m) hn];exact qn (Nat.le_max_right n m) hm⟩
     |ret=>exact⟨n,by rw[hn];exact e⟩
     |exit id=>exact⟨n,by rw[hn];exact e⟩
 | .cond c x y,st,r,e=>by
   simp only[cM]at e⊢;split at e
   · rename_i t hc;split at e
     ·rename_i ht;obtain⟨n,hn⟩:=je e;exact⟨n,by rw[if_pos ht];exact hn⟩
     ·rename_i ht;obtain⟨n,hn⟩:=je e;exact⟨n,by rw[if_neg ht];exact hn⟩
   ·simp at e
 | .block id x,st,r,e=>by
   simp only[cM]at e⊢;cases hx:cM (aC AP) k x st with
   |none=>rw[hx]at e;simp at e
   |some q=>
     obtain⟨n,hn⟩:=je hx;rw[hx]at e;exact⟨n,by rw[hn];exact e⟩
 | .loop live x,st,r,e=>by
   simp only[cM]at e⊢;exact t6 (fun h=>je h) e
 | .exit id,_,_,e=>⟨0,e⟩
 | .ret,_,_,e=>⟨0,e⟩
 | .back c gb pi px sz ag live x y,st,r,e=>by
   simp only[cM]at e⊢;unfold lY at e⊢;split at e
   · split at e
     · rename_i hg;split at e
       · split at e
         ·rename_i hl;obtain⟨n,hn⟩:=t7 (f:=fun n=>andThen (cM (run AP n n) n x) (cM (run AP n n) n y)) (fun h=>pq (fun s r hs=>qn h hs) (fun s r hs=>qn h hs)) (vK (fun h=>je h) (fun h=>je h)) e;exact⟨n,by rw[if_pos hg,if_pos hl];exact hn⟩
         ·simp at e
       ·simp at e
     ·simp at e
   ·simp at e
noncomputable def cl(AP:Nat→Option aA)(c:aq)(st:St):Option (bg×St):=JS fun k=>cM (aC AP) k c st
theorem sG(c:aq)(st:St):Ap fun k=>cM (aC AP) k c st:=fun _ _ _ h e=>cp (d9.le_refl _) h e
theorem jC{c:aq}{st:St}{k:Nat}{r:bg×St}(h:cM (aC AP) k c st=some r):cl AP c st=some r:=tY (sG c st) h
theorem NZ{st:St}:cl AP .skip st=some (.normal,st):=jC (k:=0) rfl
theorem N0{id:Nat}{st:St}:cl AP (.exit id) st=some (.exit id,st):=jC (k:=0) rfl
theorem Q8{ts:List Nat}{st:St}:cl AP (.dd ts) st=some (.normal,nB ts st):=jC (k:=0) rfl
theorem Q9{ts:List Nat}{st:St}:cl AP (.lV ts) st=some (.normal,Cu ts st):=jC (k:=0) rfl
theorem Q_{ts:List Nat}{st:St}:cl AP (.PW ts) st=some (.normal,jn ts st):=jC (k:=0) rfl
theorem Q'{ps:List (Nat×Nat×Bool)}{st:St}:cl AP (.lN ps) st=some (.normal,xu ps st):=jC (k:=0) rfl
theorem Ra{st:St}:cl AP .ret st=some (.ret,st):=jC (k:=0) rfl
theorem Rb{ops:List dN}{live:List Nat}{st:St}:cl AP (.iN ops live) st=(bp (aC AP) ops st).map fun st'=>(.normal,restrict live st'):=by
 cases h:bp (aC AP) ops st with
 |none=>exact tZ fun k=>by simp only[cM,h]
 |some s=>exact jC (k:=0) (by simp only[cM,h])
def after(f:St→Option (bg×St)):Option (bg×St)→Option (bg×St)
 |some (.normal,st)=>f st
 |r=>r
theorem Rc{a b:aq}{st:St}:cl AP (.seq a b) st=after (cl AP b) (cl AP a st):=by
 refine mX (sG _ _) (fun k r h=>?_) fun r h=>?_
 · simp only[cM]at h;cases hx:cM (aC AP) k a st with
   |none=>rw[hx]at h;simp at h
   |some q=>
     rw[jC hx];rw[hx]at h;obtain⟨ex,s⟩:=q;cases ex with
     |normal=>exact jC h
     |ret=>exact h
     |exit id=>exact h
 · cases hx:cl AP a st with
   |none=>rw[hx]at h;simp[after]at h
   |some q=>
     obtain⟨k,hk⟩:=gP hx;rw[hx]at h;obtain⟨ex,s⟩:=q;cases ex with
     |normal=>
       obtain⟨k',hk'⟩:=gP (show JS (fun k=>cM (aC AP) k b s)=some r from h);refine⟨max k k',?_⟩;simp only[cM];rw[cp (d9.le_refl _) (Nat.le_max_left k k') hk];exact cp (d9.le_refl _) (Nat.le_max_right k k') hk'
     |ret=>exact⟨k,by simp only[cM];rw[hk];exact h⟩
     |exit id=>exact⟨k,by simp only[cM];rw[hk];exact h⟩
theorem N1{c:eT}{a b:aq}{st:St}{t:Bool}(h:hU st.env c=some (.pv (.bool t))):cl AP (.cond c a b) st=if t then cl AP a st else cl AP b st:=by
 unfold cl;simp only[cM,h];cases t<;>rfl
def leave(id:Nat):Option (bg×St)→Option (bg×St)
 |some (.exit id',st)=>if id'=id then some (.normal,st) else some (.exit id',st)
 |r=>r
theorem Ke{id:Nat}{b:aq}{st:St}:cl AP (.block id b) st=leave id (cl AP b st):=by
 refine mX (sG _ _) (fun k r h=>?_) fun r h=>?_
 · simp only[cM]at h;cases hx:cM (aC AP) k b st with
   |none=>rw[hx]at h;simp at h
   |some q=>rw[jC hx];rw[hx]at h;exact h
 · cases hx:cl AP b st with
   |none=>rw[hx]at h;simp[leave]at h
   |some q=>
     obtain⟨k,hk⟩:=gP hx;rw[hx]at h;exact⟨k,by simp only[cM];rw[hk];exact h⟩
theorem aH{live:List Nat}{b:aq}{st:St}:cl AP (.loop live b) st=after (cl AP (.loop live b)) (cl AP b (norm (restrict live st))):=by
 refine mX (sG _ _) (fun k r h=>?_) fun r h=>?_
 · simp only[cM]at h;cases k with
   |zero=>simp[fo]at h
   |succ k=>
     simp only[fo]at h;cases hx:cM (aC AP) (k+1) b (norm (restrict live st)) with
     |none=>rw[hx]at h;simp at h
     |some q=>
       rw[jC hx];rw[hx]at h;obtain⟨ex,s⟩:=q;cases ex with
       |normal=>exact jC (k:=k+1) (by simp only[cM];exact jB (fun _ _ h=>h) (Nat.le_succ k) h)
       |ret=>exact h
       |exit id=>exact h
 · cases hx:cl AP b (norm (restrict live st)) with
   |none=>rw[hx]at h;simp[after]at h
   |some q=>
     obtain⟨k,hk⟩:=gP hx;rw[hx]at h;obtain⟨ex,s⟩:=q;have up:∀m,k≤m→cM (aC AP) m b (norm (restrict live st))=some (ex,s):=fun m hm=>cp (d9.le_refl _) hm hk
     cases ex with
     |normal=>
       obtain⟨k',hk'⟩:=gP (show JS (fun k=>cM (aC AP) k (.loop live b) s)=some r from h);refine⟨max k k'+1,?_⟩;simp only[cM,fo];rw[up _ (by omega)];simp only[cM]at hk';exact jB (fun _ _ h=>cp (d9.le_refl _) (by omega) h) (by omega) hk'
     |ret=>exact⟨k+1,by simp only[cM,fo];rw[up _ (by omega)];exact h⟩
     |exit id=>exact⟨k+1,by simp only[cM,fo];rw[up _ (by omega)];exact h⟩
def finish(aU:Bool)(af:aA)(sh:Sh):Option (bg×St)→Option (List AV×Sh×aG)
 |some (e,st)=>
   if e=.ret∨e=.normal then
     match ek st af.results with
     |some vs=>
       let rs:=cq aU af.ks st.sh vs
       let sh':=if rs.all (aK sh.length)=true then (eV aU af.ks st.sh vs).take sh.length else eV aU af.ks st.sh vs
       if rs.all bJ=true then some ((cS st.aa rs sh').1,(cS st.aa rs sh').2.1,(cS st.aa rs sh').2.2.2) else none
     |none=>none
   else none
 |none=>none
theorem gr{orc:d9}{k:Nat}{aU:Bool}{af:aA}{args:List AV}{sh:Sh}{ts:aG}:b_ orc k aU af args sh ts=finish aU af sh (cM orc k af.body { env:=bZ 0 args,mem:=[],sh,aa:=ts }):=by
 unfold b_ finish;cases cM orc k af.body { env:=bZ 0 args,mem:=[],sh,aa:=ts } with
 |none=>rfl
 |some q=>obtain⟨e,st⟩:=q;rfl
noncomputable def nH(AP:Nat→Option aA)(aU:Bool)(af:aA)(args:List AV)(sh:Sh)(ts:aG):Option (List AV×Sh×aG):=
 finish aU af sh (cl AP af.body { env:=bZ 0 args,mem:=[],sh,aa:=ts })
theorem wo{aU:Bool}{af:aA}{args:List AV}{sh:Sh}{ts:aG}{r:List AV×Sh×aG}(h:nH AP aU af args sh ts=some r):∃n,b_ (run AP n n) n aU af args sh ts=some r:=by
 unfold nH at h;cases hc:cl AP af.body { env:=bZ 0 args,mem:=[],sh,aa:=ts } with
 |none=>rw[hc]at h;simp[finish]at h
 |some q=>
   obtain⟨k,hk⟩:=gP hc;obtain⟨n,hn⟩:=je hk;exact⟨n,by rw[gr,hn,←hc];exact h⟩
theorem FG{n:Nat}{aU:Bool}{af:aA}{args:List AV}{sh:Sh}{ts:aG}{r:List AV×Sh×aG}(h:b_ (run AP n n) n aU af args sh ts=some r):nH AP aU af args sh ts=some r:=by
 rw[gr]at h;unfold nH;cases hc:cM (run AP n n) n af.body { env:=bZ 0 args,mem:=[],sh,aa:=ts } with
 |none=>rw[hc]at h;simp[finish]at h
 |some q=>
   rw[jC (cp (Kc n) (Nat.le_refl n) hc)];rw[hc]at h;exact h
theorem P0{g:Nat}{af:aA}{x:List PV}(hg:AP g=some af)(hp:af.qc=none)(h1:x.length=af.nparams)(h2:x.length≤af.ntmps) :
   (aC AP).p g x=(nH AP false af (x.map .pv) [] []).bind fun r=>fW r.1:=by
 refine mX (sE g x) (fun k r h=>?_) fun r h=>?_
 · cases k with
   |zero=>simp[run]at h
   |succ k=>
     simp only[run,hg,hp]at h;rw[if_pos ⟨h1,h2⟩]at h;cases hb:b_ (run AP (k+1) k) (k+1) false af (x.map .pv) [] [] with
     |none=>rw[hb]at h;simp at h
     |some q=>
       rw[FG (n:=k+1) (eP (cH (Nat.le_succ k) (Nat.le_refl _)) (Nat.le_refl _) hb)];rw[hb]at h;exact h
 · cases hb:nH AP false af (x.map .pv) [] [] with
   |none=>rw[hb]at h;simp at h
   |some q=>
     obtain⟨n,hn⟩:=wo hb;rw[hb]at h;refine⟨n+1,?_⟩;simp only[run,hg,hp];rw[if_pos ⟨h1,h2⟩,eP (cH (n:=n) (n':=n) (k:=n) (k':=n+1) (Nat.le_refl _) (Nat.le_succ n)) (Nat.le_succ n) hn];exact h
theorem wq:∀(l:List (Nat×List PV×List PV)),(∀c∈l,(aC AP).p c.1 c.2.1=some c.2.2)→∃n,∀c∈l,(run AP n n).p c.1 c.2.1=some c.2.2
 |[],_=>⟨0,by simp⟩
 |c::l,h=>by
   obtain⟨n,hn⟩:=sF (h c (by simp));obtain⟨m,hm⟩:=wq l fun c' hc=>h c' (by simp[hc]);refine⟨max n m,fun c' hc=>?_⟩;simp only[List.mem_cons]at hc;rcases hc with rfl|hc
   ·exact (cH (Nat.le_max_left n m) (Nat.le_max_left n m)).p _ _ _ hn
   ·exact (cH (Nat.le_max_right n m) (Nat.le_max_right n m)).p _ _ _ (hm c' hc)
theorem xX{g:Nat}{af:aA}{x:List PV}{f:Prim}(hg:AP g=some af)(hp:af.qc=some f):(aC AP).p g x=f.f (aC AP).p x:=by
 refine mX (sE g x) (fun k r h=>?_) fun r h=>?_
 · cases k with
   |zero=>simp[run]at h
   |succ k=>
     simp only[run,hg,hp]at h;exact f.mono (fun g x r e=>(Kc (k+1)).p _ _ _ ((cH (Nat.le_succ k) (Nat.le_refl _)).p _ _ _ e)) h
 ·obtain⟨l,h1,h2⟩:=f.fin _ _ _ h;obtain⟨n,hn⟩:=wq l h1;refine⟨n+1,?_⟩;simp only[run,hg,hp];exact h2 _ fun c hc=>(cH (n:=n) (n':=n) (k:=n) (k':=n+1) (Nat.le_refl _) (Nat.le_succ n)).p _ _ _ (hn c hc)
theorem FH{g:Nat}{af:aA}{x:List PV}{f:List PV→Option (List PV)}(hg:AP g=some af)(hp:af.qc=some (Prim.pure f)):(aC AP).p g x=f x:=xX hg hp
theorem P1{g:Nat}{af:aA}{x:List AV}{sh:Sh}{ts:aG}(hg:AP g=some af)(h2:x.length≤af.ntmps):(aC AP).i g x sh ts=nH AP true af x sh ts:=by
 refine mX (FE g x sh ts) (fun k r h=>?_) fun r h=>?_
 · cases k with
   |zero=>simp[run]at h
   |succ k=>
     simp only[run,hg]at h;rw[if_pos h2]at h;exact FG (n:=k+1) (eP (cH (Nat.le_succ k) (Nat.le_refl _)) (Nat.le_refl _) h)
 ·obtain⟨n,hn⟩:=wo h;refine⟨n+1,?_⟩;simp only[run,hg];rw[if_pos h2];exact eP (cH (n:=n) (n':=n) (k:=n) (k':=n+1) (Nat.le_refl _) (Nat.le_succ n)) (Nat.le_succ n) hn
end Go.Ab
namespace Go.Ab.Ev
section
variable {AP:Nat→Option aA} {O:d9}
noncomputable def branch(AP:Nat→Option aA)(o:Option AV)(a b:aq)(st:St):Option (bg×St):=
 match o with
 |some (.pv (.bool t))=>if t=true then cl AP a st else cl AP b st
 |_=>none
theorem G5{c:eT}{a b:aq}{st:St}:cl AP (.cond c a b) st=branch AP (hU st.env c) a b st:=by
 unfold branch;split
 ·rename_i t h;rw[N1 h]
 ·rename_i h;unfold cl;refine tZ fun k=>?_;simp only[cM]
theorem Aq{t:Bool}{a b:aq}{st:St}:branch AP (some (.pv (.bool t))) a b st=if t=true then cl AP a st else cl AP b st:=rfl
def t8(live:List Nat):Option St→Option (bg×St)
 |some st=>some (.normal,restrict live st)
 |none=>none
theorem G8{ops:List dN}{live:List Nat}{st:St}:cl AP (.iN ops live) st=t8 live (bp (aC AP) ops st):=by
 rw[Rb];cases bp (aC AP) ops st<;>rfl
theorem Au{live:List Nat}{st:St}:t8 live (some st)=some (.normal,restrict live st):=rfl
theorem CS{live:List Nat}{c:Prop}[Decidable c]{x y:Option St}:t8 live (if c then x else y)=if c then t8 live x else t8 live y:=by split<;>rfl
theorem xY{f:St→Option (bg×St)}{st:St}:after f (some (.normal,st))=f st:=rfl
theorem G9{f:St→Option (bg×St)}{st:St}:after f (some (.ret,st))=some (.ret,st):=rfl
theorem CT{f:St→Option (bg×St)}{st:St}{id:Nat}:after f (some (.exit id,st))=some (.exit id,st):=rfl
theorem G_{f:St→Option (bg×St)}{c:Prop}[Decidable c]{x y:Option (bg×St)}:after f (if c then x else y)=if c then after f x else after f y:=by split<;>rfl
theorem xZ{id:Nat}{st:St}:leave id (some (.normal,st))=some (.normal,st):=rfl
theorem Ha{id:Nat}{st:St}:leave id (some (.ret,st))=some (.ret,st):=rfl
theorem CU{id id':Nat}{st:St}:leave id (some (.exit id',st))=if id'=id then some (.normal,st) else some (.exit id',st):=rfl
theorem Hb{id:Nat}{c:Prop}[Decidable c]{x y:Option (bg×St)}:leave id (if c then x else y)=if c then leave id x else leave id y:=by split<;>rfl
def mY(O:d9)(l:List dN):Option St→Option St
 |some st=>bp O l st
 |none=>none
theorem Hc{st:St}:bp O [] st=some st:=rfl
theorem lh{o:dN}{l:List dN}{st:St}:bp O (o::l) st=mY O l (dV O o st):=by
 simp only[bp];cases dV O o st<;>rfl
theorem CV{d:Option Nat}{args:List eT}{op:AK}{l:List dN}{st:St}:bp O (⟨d,none,args,op⟩::l) st=mY O l (dV O ⟨d,none,args,op⟩ st):=lh
theorem x4{l:List dN}{st:St}:mY O l (some st)=bp O l st:=rfl
theorem Av{l:List dN}{c:Prop}[Decidable c]{x y:Option St}:mY O l (if c then x else y)=if c then mY O l x else mY O l y:=by split<;>rfl
def t9(d k:Option Nat)(env:List (Nat×AV))(mem:List (Nat×List AV)):Option Out→Option St
 |some out=>some { env:=fU env d out.val,mem:=e8 mem k out.cells,sh:=out.sh,aa:=out.aa }
 |none=>none
def Kf(O:d9)(op:AK)(vals:Option (List AV))(cells:Option (List AV))(sh:Sh)(aa:aG):Option Out:=
 match vals with
 |some vals=>exec O op vals cells sh aa
 |none=>none
theorem CW{d:Option Nat}{args:List eT}{op:AK}{env:List (Nat×AV)}{mem:List (Nat×List AV)}{sh:Sh}{aa:aG} :
   dV O ⟨d,none,args,op⟩ ⟨env,mem,sh,aa⟩=t9 d op.key env mem (Kf O op (dY env args) (op.key.bind (look mem)) sh aa):=by
 simp only[dV,fD];cases dY env args with
 |none=>rfl
 |some vals=>
   dsimp only[Kf];cases exec O op vals (op.key.bind (look mem)) sh aa<;>rfl
def t_(t:Nat)(b:Bool)(o:dN):dN:=
 match o.guard with
 |some (t',b')=>if t'=t then (if b'=b then { o with guard:=none } else ⟨o.dst,none,[.c .un],.v .mv⟩) else o
 |none=>o
def He(t:Nat):List dN→Bool
 |[]=>true
 |o::l=>(o.dst != some t) && He t l
theorem mZ{α:Type}{t t':Nat}{v:α}:∀{l:List (Nat×α)},look (cX l t v) t'=if t'=t then some v else look l t'
 |[]=>by
   simp only[cX,look];by_cases h:t'=t
   ·subst h;simp
   ·rw[if_neg (fun e=>h e.symm),if_neg h]
 |(k,u)::r=>by
   simp only[cX];by_cases hk:k=t
   · subst hk;simp only[if_true,look];by_cases h:t'=k
     ·subst h;simp
     ·rw[if_neg (fun e=>h e.symm),if_neg h,if_neg (fun e=>h e.symm)]
   · rw[if_neg hk];simp only[look,mZ (l:=r)];by_cases h:k=t'
     ·subst h;simp[hk]
     ·rw[if_neg h,if_neg h]
theorem qo{α:Type}{t:Nat}{v:α}:∀{l:List (Nat×α)},look l t=some v→cX l t v=l
 |[],h=>by simp[look]at h
 |(k,u)::r,h=>by
   simp only[look]at h;simp only[cX];split at h
   ·rename_i e;cases h;rw[if_pos e]
   ·rename_i e;rw[if_neg e,qo h]
theorem Hf{o:dN}{st st':St}{t:Nat}{v:AV}(hd:(o.dst != some t)=true)(h:look st.env t=some v)(e:dV O o st=some st'):look st'.env t=some v:=by
 have key:∀x,look (fU st.env o.dst x) t=some v:=by
   intro x;cases hdd:o.dst with
   |none=>exact h
   |some d=>
     rw[hdd]at hd;simp only[fU,mZ];rw[if_neg (by intro e;subst e;simp at hd)];exact h
 simp only[dV]at e;split at e
 ·cases e
 ·cases e;exact key _
 · split at e
   ·cases e
   · split at e
     ·cases e
     ·cases e;exact key _
theorem Hg{o:dN}{st:St}{t:Nat}{b:Bool}(h:look st.env t=some (.pv (.bool b))):dV O o st=dV O (t_ t b o) st:=by
 obtain⟨d,g,args,op⟩:=o;cases g with
 |none=>rfl
 |some p=>
   obtain⟨t',b'⟩:=p;simp only[t_];by_cases ht:t'=t
   · subst ht;rw[if_pos rfl];by_cases hb:b'=b
     ·subst hb;rw[if_pos rfl];simp only[dV,fD,h,beq_self_eq_true]
     · rw[if_neg hb];have hb':(b == b')=false:=by simpa using fun e=>hb e.symm
       simp only[dV,fD,h,hb'];obtain⟨env,mem,sh,aa⟩:=st;rfl
   ·rw[if_neg ht]
theorem oi{t:Nat}{b:Bool}:∀{l:List dN} {st:St},He t l=true→look st.env t=some (.pv (.bool b))→bp O l st=bp O (l.map (t_ t b)) st
 |[],_,_,_=>rfl
 |o::l,st,hn,h=>by
   simp only[He,Bool.and_eq_true]at hn;rw[List.map_cons,lh,lh,←Hg h];cases e:dV O o st with
   |none=>rfl
   |some st'=>exact oi hn.2 (Hf hn.1 h e)
theorem Aw{d:Option Nat}{t:Nat}{b:Bool}{args:List eT}{op:AK}{l:List dN}{env:List (Nat×AV)}{mem:List (Nat×List AV)}{sh:Sh}{aa:aG}{c:Bool}(h:look env t=some (.pv (.bool c)))(hn:He t (⟨d,some (t,b),args,op⟩::l)=true) :
   bp O (⟨d,some (t,b),args,op⟩::l) ⟨env,mem,sh,aa⟩ =
     if c=true then bp O ((⟨d,some (t,b),args,op⟩::l).map (t_ t true)) ⟨cX env t (.pv (.bool true)),mem,sh,aa⟩
     else bp O ((⟨d,some (t,b),args,op⟩::l).map (t_ t false)) ⟨cX env t (.pv (.bool false)),mem,sh,aa⟩:=by
 cases c with
 |true=>rw[if_pos rfl,qo h];exact oi hn h
 |false=>rw[if_neg (by simp),qo h];exact oi hn h
theorem x5{d:Option Nat}{t:Nat}{b:Bool}{args:List eT}{op:AK}{l:List dN}{env:List (Nat×AV)}{mem:List (Nat×List AV)}{sh:Sh}{aa:aG}(h:look env t=some .un) :
   bp O (⟨d,some (t,b),args,op⟩::l) ⟨env,mem,sh,aa⟩=bp O l ⟨fU env d .un,mem,sh,aa⟩:=by
 rw[lh];simp only[dV,fD,h];rfl
noncomputable def gd(O:d9)(t:Nat)(ops:List dN)(d:Option Nat)(l:List dN)(env:List (Nat×AV))(mem:List (Nat×List AV))(sh:Sh)(aa:aG):Option AV→Option St
 |some (.pv (.bool c))=>if He t ops=true then (if c=true then bp O (ops.map (t_ t true)) ⟨cX env t (.pv (.bool true)),mem,sh,aa⟩
     else bp O (ops.map (t_ t false)) ⟨cX env t (.pv (.bool false)),mem,sh,aa⟩) else bp O ops ⟨env,mem,sh,aa⟩
 |some .un=>bp O l ⟨fU env d .un,mem,sh,aa⟩
 |_=>bp O ops ⟨env,mem,sh,aa⟩
theorem Kg{d:Option Nat}{t:Nat}{b:Bool}{args:List eT}{op:AK}{l:List dN}{env:List (Nat×AV)}{mem:List (Nat×List AV)}{sh:Sh}{aa:aG} :
   bp O (⟨d,some (t,b),args,op⟩::l) ⟨env,mem,sh,aa⟩=gd O t (⟨d,some (t,b),args,op⟩::l) d l env mem sh aa (look env t):=by
 unfold gd;split
 · rename_i c h;split
   ·rename_i hn;exact Aw h hn
   ·rfl
 ·rename_i h;exact x5 h
 ·rfl
theorem N2{t:Nat}{ops:List dN}{d:Option Nat}{l:List dN}{env:List (Nat×AV)}{mem:List (Nat×List AV)}{sh:Sh}{aa:aG}{c:Bool}:gd O t ops d l env mem sh aa (some (.pv (.bool c))) =
   if He t ops=true then (if c=true then bp O (ops.map (t_ t true)) ⟨cX env t (.pv (.bool true)),mem,sh,aa⟩
     else bp O (ops.map (t_ t false)) ⟨cX env t (.pv (.bool false)),mem,sh,aa⟩) else bp O ops ⟨env,mem,sh,aa⟩:=rfl
theorem Th{t:Nat}{ops:List dN}{d:Option Nat}{l:List dN}{env:List (Nat×AV)}{mem:List (Nat×List AV)}{sh:Sh}{aa:aG}:gd O t ops d l env mem sh aa (some .un)=bp O l ⟨fU env d .un,mem,sh,aa⟩:=rfl
theorem N3{t:Nat}:He t []=true:=rfl
theorem Kh{t d:Nat}{g:Option (Nat×Bool)}{args:List eT}{op:AK}{l:List dN}:He t (⟨some d,g,args,op⟩::l)=(!(decide (d=t)) && He t l):=by
 simp only[He];congr 1
theorem Ki{t:Nat}{g:Option (Nat×Bool)}{args:List eT}{op:AK}{l:List dN}:He t (⟨none,g,args,op⟩::l)=He t l:=by
 simp[He]
theorem Hh{t:Nat}{b:Bool}{d:Option Nat}{args:List eT}{op:AK}:t_ t b ⟨d,none,args,op⟩=⟨d,none,args,op⟩:=rfl
theorem Hi{t t':Nat}{b b':Bool}{d:Option Nat}{args:List eT}{op:AK}:t_ t b ⟨d,some (t',b'),args,op⟩=if t'=t then (if b'=b then ⟨d,none,args,op⟩ else ⟨d,none,[.c .un],.v .mv⟩) else ⟨d,some (t',b'),args,op⟩:=rfl
theorem Ax{d k:Option Nat}{env:List (Nat×AV)}{mem:List (Nat×List AV)}{v:AV}{cs:Option (List AV)}{sh:Sh}{aa:aG} :
   t9 d k env mem (some ⟨v,cs,sh,aa⟩)=some ⟨fU env d v,e8 mem k cs,sh,aa⟩:=rfl
theorem CX{d k:Option Nat}{env:List (Nat×AV)}{mem:List (Nat×List AV)}{c:Prop}[Decidable c]{x y:Option Out}:t9 d k env mem (if c then x else y)=if c then t9 d k env mem x else t9 d k env mem y:=by split<;>rfl
theorem CY{op:AK}{vals:List AV}{cells:Option (List AV)}{sh:Sh}{aa:aG}:Kf O op (some vals) cells sh aa=exec O op vals cells sh aa:=rfl
def Kj(sh:Sh)(aa:aG):Option AV→Option Out
 |some x=>some ⟨x,none,sh,aa⟩
 |none=>none
theorem Hj{sh:Sh}{aa:aG}{x:AV}:Kj sh aa (some x)=some ⟨x,none,sh,aa⟩:=rfl
variable {vals:List AV} {cells:Option (List AV)} {sh:Sh} {aa:aG}
theorem Rd{o:NK}:exec O (.v o) vals cells sh aa=Kj sh aa (bB o vals):=by
 show (bB o vals).map _=_;cases bB o vals<;>rfl
theorem ij{key off sz d o:Nat}{ag:Bool}{cs:List AV}:exec O (.bY key off sz ag) [.az d o] (some cs) sh aa=if d=key∧o=off then Kj sh aa (bR ag sz cs off) else none:=by
 show (if d=key∧o=off then (bR ag sz cs off).map _ else none)=_;cases bR ag sz cs off<;>rfl
theorem iG{key off sz d o:Nat}{v:AV}{cs:List AV}:exec O (.bC key off sz) [.az d o,v] (some cs) sh aa =
   if d=key∧o=off∧(a_ v).length=sz∧(a_ v).all aT=true then if off+sz≤cs.length then some ⟨.un,some (aQ cs off (a_ v)),sh,aa⟩ else none else none:=rfl
theorem jw{key:Nat}{zero:List PV}:exec O (.alloc key zero) [] none sh aa=some ⟨.az key 0,some (zero.map bB.zeroCell),sh,aa⟩:=rfl
theorem l7{key sz:Nat}{v:AV}:exec O (.box key sz) [v] none sh aa=if (a_ v).length=sz∧(a_ v).all aT=true then some ⟨.az key 0,some (a_ v),sh,aa⟩ else none:=rfl
theorem Ay{sz:Nat}{ag:Bool}{cs:List PV}:exec O (.d7 sz ag) [.gf cs] cells sh aa=Kj sh aa (cO ag sz cs):=by
 show (cO ag sz cs).map _=_;cases cO ag sz cs<;>rfl
def x6(ag:Bool)(sz off:Nat):Option (Option (List AV))→Option AV
 |some (some cs)=>if bV cs=true then none else bR ag sz cs off
 |_=>none
theorem rK{ag:Bool}{sz off:Nat}{cs:List AV}:x6 ag sz off (some (some cs))=if bV cs=true then none else bR ag sz cs off:=rfl
theorem Az{sz b off:Nat}{ag:Bool}:exec O (.d7 sz ag) [.aW b off] cells sh aa=Kj sh aa (x6 ag sz off sh[b]?):=by
 show (match sh[b]? with|some (some cs)=>if bV cs=true then none else (bR ag sz cs off).map _|_=>none)=_;split
 · rename_i cs h;rw[h,rK];split
   ·rfl
   ·cases bR ag sz cs off<;>rfl
 · rename_i h;unfold x6;split
   ·rename_i cs e;exact absurd e (h cs)
   ·rfl
def x7(b off sz:Nat)(vs:List AV)(sh:Sh)(aa:aG):Option (Option (List AV))→Option Out
 |some (some cs)=>if bV cs=false∧vs.length=sz∧off+sz≤cs.length∧vs.all cN=true∧vs.all (aK (b+1))=true then some ⟨.un,none,sh.set b (some (aQ cs off vs)),aa⟩ else none
 |_=>none
theorem pw{b off sz:Nat}{vs cs:List AV}:x7 b off sz vs sh aa (some (some cs))=if bV cs=false∧vs.length=sz∧off+sz≤cs.length∧vs.all cN=true∧vs.all (aK (b+1))=true then some ⟨.un,none,sh.set b (some (aQ cs off vs)),aa⟩ else none:=rfl
theorem iH{sz b off:Nat}{v:AV}:exec O (.fK sz) [.aW b off,v] cells sh aa=x7 b off sz (cv v) sh aa sh[b]?:=by
 show (match sh[b]? with|some (some cs)=>_|_=>none)=_;split
 ·rename_i cs h;rw[h,pw]
 · rename_i h;unfold x7;split
   ·rename_i cs e;exact absurd e (h cs)
   ·rfl
theorem mS{sz:Nat}{v:AV}:exec O (.oQ sz) [v] cells sh aa=if (cv v).length=sz∧(cv v).all cN=true∧(cv v).all (aK sh.length)=true then some ⟨.aW sh.length 0,none,sh++[some (cv v)],aa⟩ else none:=rfl
theorem jQ{zero:List PV}:exec O (.jk zero) [] cells sh aa=some ⟨.aW sh.length 0,none,sh++[some (zero.map bB.zeroCell)],aa⟩:=rfl
theorem kU{sz bytes:Nat}{ag:Bool}{zero:List PV}{k k':IntKind}{n n':Int}:exec O (.jl sz bytes ag zero) [.pv (.int k n),.pv (.int k' n')] cells sh aa =
   if n=n'∧0≤n∧n≤9223372036854775807∧n*bytes≤140737488355328∧zero.length=sz then some ⟨.aP sh.length sz n.toNat ag,none,sh++[some ((List.replicate n.toNat (zero.map .pv)).flatten)],aa⟩ else none:=rfl
theorem jx{key sz bytes:Nat}{zero:List PV}{k k':IntKind}{n n':Int}:exec O (.iC key sz bytes zero) [.pv (.int k n),.pv (.int k' n')] none sh aa =
   if n=n'∧0≤n∧n≤9223372036854775807∧n*bytes≤140737488355328∧zero.length=sz then some ⟨.jH key n.toNat,some ((List.replicate n.toNat (zero.map .pv)).flatten),sh,aa⟩ else none:=rfl
theorem Hk{d s b:Nat}{z:List PV}:AK.key (.iC d s b z)=some d:=rfl
theorem CZ{live:List Nat}{d n:Nat}:d8 live (.jH d n)=live.contains d:=rfl
def Re(d sz:Nat)(ag:Bool)(st:St):Option (List AV)→St
 |some cells=>if cells.all cN=true∧cells.all (aK (st.sh.length+1))=true then
     { st with env:=r_ d st.sh.length sz cells.length ag st.env (st.env.map (·.1)),mem:=sa d st.mem,sh:=st.sh++[some cells] } else st
 |none=>st
theorem N4{d sz:Nat}{ag:Bool}{st:St}:Gx d sz ag st=Re d sz ag st (look st.mem d):=by
 unfold Gx Re;split<;>rename_i h<;>rw[h]
theorem Hl{d sz:Nat}{ag:Bool}{env:List (Nat×AV)}{mem:List (Nat×List AV)}{cells:List AV}:Re d sz ag ⟨env,mem,sh,aa⟩ (some cells) =
   if cells.all cN=true∧cells.all (aK (sh.length+1))=true then ⟨r_ d sh.length sz cells.length ag env (env.map (·.1)),sa d mem,sh++[some cells],aa⟩ else ⟨env,mem,sh,aa⟩:=rfl
theorem Kk{st:St}:xu [] st=st:=rfl
theorem Hm{d sz:Nat}{ag:Bool}{r:List (Nat×Nat×Bool)}{st:St}:xu ((d,sz,ag)::r) st=xu r (Gx d sz ag st):=rfl
theorem Kl{d s sz n:Nat}{ag:Bool}{env:List (Nat×AV)}:r_ d s sz n ag env []=[]:=rfl
def Ti(t:Nat)(r:List (Nat×AV)):Option AV→List (Nat×AV)
 |some v=>(t,v)::r
 |none=>r
theorem Hn{t:Nat}{r:List (Nat×AV)}{v:AV}:Ti t r (some v)=(t,v)::r:=rfl
theorem Ho{d s sz n t:Nat}{ag:Bool}{env:List (Nat×AV)}{r:List Nat}:r_ d s sz n ag env (t::r)=Ti t (r_ d s sz n ag env r) ((look env t).bind (zk d s sz n ag)):=by
 simp only[r_];split<;>rename_i h<;>rw[h]<;>rfl
theorem Hp{d s sz n d' o:Nat}{ag:Bool}:zk d s sz n ag (.az d' o)=some (if d'=d then .aW s o else .az d' o):=rfl
theorem Hq{d s sz n d' m:Nat}{ag:Bool}:zk d s sz n ag (.jH d' m)=if d'=d then (if m*sz≤n then some (.aP s sz m ag) else none) else some (.jH d' m):=rfl
theorem N5{d s sz n:Nat}{ag:Bool}{p:PV}:zk d s sz n ag (.pv p)=some (.pv p):=rfl
theorem Hr{d s sz n b z m:Nat}{ag g:Bool}:zk d s sz n ag (.aP b z m g)=some (.aP b z m g):=rfl
theorem Km{α:Type}{d:Nat}:sa d ([]:List (Nat×α))=[]:=rfl
theorem Hs{α:Type}{d k:Nat}{v:α}{r:List (Nat×α)}:sa d ((k,v)::r)=if k=d then sa d r else (k,v)::sa d r:=rfl
def Tj(ts:List Nat)(st:St):Option AV→St
 |some (.aP b _ _ _)=>match st.sh[b]? with
   |some (some cells)=>if bV cells=false then { st with env:=nC b st.sh.length ts st.env,sh:=st.sh.set b none++[some cells] } else st
   |_=>st
 |_=>st
theorem Ht{t:Nat}{r:List Nat}{st:St}:Cu (t::r) st=Tj (t::r) st (look st.env t):=rfl
def Tl(ts:List Nat)(b:Nat)(st:St):Option (Option (List AV))→St
 |some (some cells)=>if bV cells=false then { st with env:=nC b st.sh.length ts st.env,sh:=st.sh.set b none++[some cells] } else st
 |_=>st
theorem Hu{ts:List Nat}{st:St}{b z n:Nat}{ag:Bool}:Tj ts st (some (.aP b z n ag))=Tl ts b st st.sh[b]?:=rfl
theorem Hv{ts:List Nat}{b:Nat}{env:List (Nat×AV)}{mem:List (Nat×List AV)}{cells:List AV}:Tl ts b ⟨env,mem,sh,aa⟩ (some (some cells)) =
   if bV cells=false then ⟨nC b sh.length ts env,mem,sh.set b none++[some cells],aa⟩ else ⟨env,mem,sh,aa⟩:=rfl
theorem Ko{b b':Nat}{env:List (Nat×AV)}:nC b b' [] env=env:=rfl
def Tm(b b' t:Nat)(r:List Nat)(env:List (Nat×AV)):Option AV→List (Nat×AV)
 |some (.aP s z n ag)=>if s=b then nC b b' r (cX env t (.aP b' z n ag)) else nC b b' r env
 |_=>nC b b' r env
theorem Hw{b b' t:Nat}{r:List Nat}{env:List (Nat×AV)}:nC b b' (t::r) env=Tm b b' t r env (look env t):=rfl
theorem Hx{b b' t s z n:Nat}{ag:Bool}{r:List Nat}{env:List (Nat×AV)}:Tm b b' t r env (some (.aP s z n ag))=if s=b then nC b b' r (cX env t (.aP b' z n ag)) else nC b b' r env:=rfl
theorem Kq{st:St}:jn [] st=st:=rfl
def Rf(r:List Nat)(st:St):Option AV→St
 |some (.aP b _ _ _)=>match st.sh[b]? with
   |some (some cells)=>if bV cells=false∧(eB (.agg cells)).contains b=false then
       match ca st.sh cells with
       |some ps=>jn r { st with sh:=(cA st.sh [.agg cells]).set b (some (ps.map .pv)) }
       |none=>jn r st
     else jn r st
   |_=>jn r st
 |_=>jn r st
theorem Hy{t:Nat}{r:List Nat}{st:St}:jn (t::r) st=Rf r st (look st.env t):=rfl
def Rg(r:List Nat)(b:Nat)(cells:List AV)(st:St):Option (List PV)→St
 |some ps=>jn r { st with sh:=(cA st.sh [.agg cells]).set b (some (ps.map .pv)) }
 |none=>jn r st
def Rh(r:List Nat)(b:Nat)(st:St):Option (Option (List AV))→St
 |some (some cells)=>if bV cells=false∧(eB (.agg cells)).contains b=false then Rg r b cells st (ca st.sh cells) else jn r st
 |_=>jn r st
theorem Hz{r:List Nat}{st:St}{b z n:Nat}{ag:Bool}:Rf r st (some (.aP b z n ag))=Rh r b st st.sh[b]?:=by
 simp only[Rf];split
 ·rename_i cells h;rw[h];rfl
 · rename_i h;unfold Rh;split
   ·rename_i cells e;exact absurd e (h cells)
   ·rfl
theorem HA{r:List Nat}{b:Nat}{st:St}{cells:List AV}:Rh r b st (some (some cells))=if bV cells=false∧(eB (.agg cells)).contains b=false then Rg r b cells st (ca st.sh cells) else jn r st:=rfl
theorem HB{r:List Nat}{b:Nat}{cells:List AV}{ps:List PV}{env:List (Nat×AV)}{mem:List (Nat×List AV)}:Rg r b cells ⟨env,mem,sh,aa⟩ (some ps)=jn r ⟨env,mem,(cA sh [.agg cells]).set b (some (ps.map .pv)),aa⟩:=rfl
def To(aa:aG):Option (AV×Sh×aG)→Option Out
 |some (v,sh',ts)=>some ⟨v,none,sh',ts⟩
 |none=>none
theorem HC{v:AV}{sh':Sh}{ts:aG}:To aa (some (v,sh',ts))=some ⟨v,none,sh',ts⟩:=rfl
theorem AA{sz bytes:Nat}{ag:Bool}{x:AV}:exec O (.gJ sz bytes ag) [x] cells sh aa=To aa (fR (some ag) sz bytes x sh aa):=by
 show ((fR (some ag) sz bytes x sh aa).map _)=_;cases fR (some ag) sz bytes x sh aa<;>rfl
def x8(ag:Bool)(sz bytes:Nat)(sh:Sh)(aa:aG):Option (List PV)→Option (AV×Sh×aG)
 |some xs=>if bf sz xs=true then (if xs.isEmpty=true then some (.dH [],sh,aa) else if xs.length*bytes≤140737488355328 then some (.aP sh.length sz xs.length ag,sh++[some ((xs.flatMap aX).map .pv)],aa) else none) else none
 |none=>none
theorem HD{ag:Bool}{sz bytes:Nat}{x:AV}:fR (some ag) sz bytes x sh aa=x8 ag sz bytes sh aa (cJ x):=by
 cases h:cJ x with
 |none=>simp[fR,x8,h]
 |some xs=>
   simp only[fR,x8,h];split
   · unfold rY;split
     ·rfl
     ·split<;>rfl
   ·rfl
theorem AB{ag:Bool}{sz bytes:Nat}{xs:List PV}:x8 ag sz bytes sh aa (some xs) =
   if bf sz xs=true then (if xs.isEmpty=true then some (.dH [],sh,aa) else if xs.length*bytes≤140737488355328 then some (.aP sh.length sz xs.length ag,sh++[some ((xs.flatMap aX).map .pv)],aa) else none) else none:=rfl
theorem C0{sz bytes:Nat}{ag:Bool}:(AK.gJ sz bytes ag).key=none:=rfl
theorem N6{p:PV}{r:List AV}:bV (.pv p::r)=false:=rfl
def dz(s:Nat)(sh:Sh)(aa:aG):Option (List (PV×PV))→Option Out
 |some kvs=>some ⟨.un,none,sh.set s (some [.gg kvs]),aa⟩
 |none=>none
theorem HE{s:Nat}{kvs:List (PV×PV)}:dz s sh aa (some kvs)=some ⟨.un,none,sh.set s (some [.gg kvs]),aa⟩:=rfl
def Wn(c:CK)(s:Nat)(k:PV)(sh:Sh)(aa:aG):Option (Option (List AV))→Option PV→Option Out
 |some (some [.gg kvs]),some p=>dz s sh aa (JZ c kvs k p)
 |_,_=>none
theorem HF{c:CK}{s:Nat}{k p:PV}{kvs:List (PV×PV)}:Wn c s k sh aa (some (some [.gg kvs])) (some p)=dz s sh aa (JZ c kvs k p):=rfl
def HG(sh:Sh):Option (AV×aG)→Option Out
 |some (v,ts)=>some ⟨v,none,sh,ts⟩
 |none=>none
theorem HH{v:AV}{ts:aG}:HG sh (some (v,ts))=some ⟨v,none,sh,ts⟩:=rfl
theorem Kr{c:Prop}[Decidable c]{x y:Option (AV×aG)}:HG sh (if c then x else y)=if c then HG sh x else HG sh y:=by split<;>rfl
theorem jR{sz bytes:Nat}{s x:AV}:exec O (.append sz bytes) [s,x] cells sh aa=HG sh (bS sz bytes s x aa):=by
 show (bS sz bytes s x aa).map _=_;cases bS sz bytes s x aa<;>rfl
theorem nV{sz bytes:Nat}{x:AV}:exec O (.clone sz bytes) [x] cells sh aa=HG sh (bS sz bytes (.dH []) x aa):=by
 show (bS sz bytes (.dH []) x aa).map _=_;cases bS sz bytes (.dH []) x aa<;>rfl
def FI(sz bytes:Nat)(s:AV)(aa:aG):Option (List PV)→Option (AV×aG)
 |some xs=>if bf sz xs=true then
   match s with
   | .dH l=>if xs.isEmpty=true then some (.dH l,aa) else if bf sz l=true∧(l.length+xs.length)*bytes≤140737488355328 then
       some (.own (l++xs) aa.length,aa++[(l++xs).length]) else none
   | .own l τ=>if aa[τ]?=some l.length∧bf sz l=true∧(l.length+xs.length)*bytes≤140737488355328 then
       some (.own (l++xs) τ,aa.set τ (l++xs).length) else none
   |_=>none
   else none
 |none=>none
theorem vL{sz bytes:Nat}{s x:AV}:bS sz bytes s x aa=FI sz bytes s aa (cJ x):=by
 unfold bS FI;cases cJ x<;>rfl
theorem HI{sz bytes:Nat}{l xs:List PV}:FI sz bytes (.dH l) aa (some xs)=if bf sz xs=true then if xs.isEmpty=true then some (.dH l,aa) else if bf sz l=true∧(l.length+xs.length)*bytes≤140737488355328 then
       some (.own (l++xs) aa.length,aa++[(l++xs).length]) else none else none:=rfl
theorem HJ{sz bytes τ:Nat}{l xs:List PV}:FI sz bytes (.own l τ) aa (some xs)=if bf sz xs=true then if aa[τ]?=some l.length∧bf sz l=true∧(l.length+xs.length)*bytes≤140737488355328 then
       some (.own (l++xs) τ,aa.set τ (l++xs).length) else none else none:=rfl
def Ri(aa:aG):Option (AV×Sh)→Option Out
 |some (v,sh)=>some ⟨v,none,sh,aa⟩
 |none=>none
theorem HK{v:AV}{sh:Sh}:Ri aa (some (v,sh))=some ⟨v,none,sh,aa⟩:=rfl
def Ks(sz bytes:Nat)(ag:Bool)(s:AV)(sh:Sh)(aa:aG):Option (List PV)→Option Out
 |some xs=>if bf sz xs=true then Ri aa (rZ sz bytes ag s xs sh aa) else none
 |none=>none
theorem C1{sz bytes:Nat}{ag:Bool}{s:AV}{xs:List PV}:Ks sz bytes ag s sh aa (some xs)=if bf sz xs=true then Ri aa (rZ sz bytes ag s xs sh aa) else none:=rfl
theorem kW{sz bytes:Nat}{ag:Bool}{s x:AV}:exec O (.dI sz bytes ag) [s,x] cells sh aa=Ks sz bytes ag s sh aa (cJ x):=by
 simp only[exec,Ks];cases cJ x with
 |none=>rfl
 |some xs=>
   simp only;split
   ·cases rZ sz bytes ag s xs sh aa<;>rfl
   ·rfl
def C2(sz bytes:Nat)(ag:Bool)(b z n:Nat)(g:Bool)(xs:List PV)(sh:Sh):Option (Option (List AV))→Option (AV×Sh)
 |some (some cells)=>if z=sz∧g=ag∧bV cells=false∧n*sz≤cells.length∧(n+xs.length)*bytes≤140737488355328 then
       if xs.isEmpty=true then some (.aP b sz n ag,sh) else some (.aP sh.length sz (n+xs.length) ag,sh.set b none++[some (cells.take (n*sz)++(xs.flatMap aX).map .pv)])
     else none
 |_=>none
theorem AD{sz bytes:Nat}{ag:Bool}{b z n:Nat}{g:Bool}{xs:List PV}{cells:List AV}:C2 sz bytes ag b z n g xs sh (some (some cells))=if z=sz∧g=ag∧bV cells=false∧n*sz≤cells.length∧(n+xs.length)*bytes≤140737488355328 then
       if xs.isEmpty=true then some (.aP b sz n ag,sh) else some (.aP sh.length sz (n+xs.length) ag,sh.set b none++[some (cells.take (n*sz)++(xs.flatMap aX).map .pv)])
     else none:=rfl
theorem Kt{sz bytes:Nat}{ag:Bool}{xs:List PV}:rZ sz bytes ag (.dH []) xs sh aa=rY sz bytes ag (.dH []) xs sh:=rfl
theorem Ku{sz bytes τ:Nat}{ag:Bool}{xs:List PV}:rZ sz bytes ag (.own [] τ) xs sh aa=if aa[τ]?=some 0 then rY sz bytes ag (.own [] τ) xs sh else none:=rfl
theorem HL{sz bytes b z n:Nat}{ag g:Bool}{xs:List PV}:rZ sz bytes ag (.aP b z n g) xs sh aa=C2 sz bytes ag b z n g xs sh sh[b]?:=by
 simp only[rZ,C2];rcases sh[b]? with _|_|cells<;>rfl
theorem N7{sz bytes:Nat}{ag:Bool}{s:AV}{xs:List PV}:rY sz bytes ag s xs sh=if xs.isEmpty=true then some (s,sh) else if xs.length*bytes≤140737488355328 then some (.aP sh.length sz xs.length ag,sh++[some ((xs.flatMap aX).map .pv)]) else none:=rfl
def N8(r:List Nat)(t:Nat)(st:St)(v:AV):Option PV→St
 |some p=>nB r { st with env:=cX st.env t (.pv p),sh:=cA st.sh [v] }
 |none=>nB r (Ct v st)
def Kv(d:Nat)(cs:List AV)(st:St):Option (List PV)→St
 |some ps=>{ st with mem:=cX st.mem d (ps.map .pv),sh:=cA st.sh [.agg cs] }
 |none=>st
def Kx(d:Nat)(st:St):Option (List AV)→St
 |some cs=>Kv d cs st (ca st.sh cs)
 |none=>st
theorem HM{d:Nat}{st:St}:Ct (.az d 0) st=Kx d st (look st.mem d):=by
 simp only[Ct];cases look st.mem d with
 |none=>rfl
 |some cs=>
   simp only[Kx];cases ca st.sh cs<;>rfl
theorem C3{d:Nat}{st:St}{cs:List AV}:Kx d st (some cs)=Kv d cs st (ca st.sh cs):=rfl
theorem C4{d:Nat}{st:St}{cs:List AV}{ps:List PV}:Kv d cs st (some ps)={ st with mem:=cX st.mem d (ps.map .pv),sh:=cA st.sh [.agg cs] }:=rfl
def Rj(r:List Nat)(t:Nat)(st:St):Option AV→St
 |some v=>N8 r t st v (dd st.sh v)
 |none=>nB r st
theorem Ky{st:St}:nB [] st=st:=rfl
theorem HN{t:Nat}{r:List Nat}{st:St}:nB (t::r) st=Rj r t st (look st.env t):=by
 simp only[nB];cases look st.env t with
 |none=>rfl
 |some v=>
   simp only[Rj];cases dd st.sh v<;>rfl
theorem HO{r:List Nat}{t:Nat}{st:St}{v:AV}:Rj r t st (some v)=N8 r t st v (dd st.sh v):=rfl
theorem HP{r:List Nat}{t:Nat}{st:St}{v:AV}{p:PV}:N8 r t st v (some p)=nB r { st with env:=cX st.env t (.pv p),sh:=cA st.sh [v] }:=rfl
theorem HQ{r:List Nat}{t:Nat}{st:St}{v:AV}:N8 r t st v none=nB r (Ct v st):=rfl
def Rk(aa:aG):Option Sh→Option Out
 |some sh=>some ⟨.qW [],none,sh,aa⟩
 |none=>none
theorem HR{sh:Sh}:Rk aa (some sh)=some ⟨.qW [],none,sh,aa⟩:=rfl
def ua(sz:Nat)(zero:List PV)(sh:Sh)(b off n:Nat):Option (Option (List AV))→Option Sh
 |some (some cells)=>if bV cells=false∧off+n*sz≤cells.length∧zero.length=sz then some (sh.set b (some (aQ cells off (List.replicate n (zero.map .pv)).flatten))) else none
 |_=>none
theorem AE{sz b off n:Nat}{zero:List PV}{cells:List AV}:ua sz zero sh b off n (some (some cells))=if bV cells=false∧off+n*sz≤cells.length∧zero.length=sz then some (sh.set b (some (aQ cells off (List.replicate n (zero.map .pv)).flatten))) else none:=rfl
theorem x9{sz b n:Nat}{ag:Bool}{zero:List PV}:exec O (.gK sz zero) [.aP b sz n ag] cells sh aa=Rk aa (ua sz zero sh b 0 n sh[b]?):=by
 simp only[exec,s_,if_true,nR];rcases sh[b]? with _|_|cs
 ·rfl
 ·rfl
 ·simp only[ua];split<;>rfl
theorem x_{sz b off n:Nat}{zero:List PV}:exec O (.gK sz zero) [.p_ b off n] cells sh aa=Rk aa (ua sz zero sh b off n sh[b]?):=by
 simp only[exec,s_,nR];rcases sh[b]? with _|_|cs
 ·rfl
 ·rfl
 ·simp only[ua];split<;>rfl
def uc(sz:Nat)(sh:Sh)(aa:aG)(x:AV):Option (List PV)→Option Out
 |some xs=>Kz aa (oS sz sh xs x)
 |none=>none
where Kz (aa:aG):Option (Nat×Sh)→Option Out
 |some (k,sh')=>some ⟨.pv (.int .i64 (k:Int)),none,sh',aa⟩
 |none=>none
theorem AF{sz:Nat}{x:AV}{xs:List PV}:uc sz sh aa x (some xs)=uc.Kz aa (oS sz sh xs x):=rfl
theorem C5{k:Nat}{sh':Sh}:uc.Kz aa (some (k,sh'))=some ⟨.pv (.int .i64 (k:Int)),none,sh',aa⟩:=rfl
theorem kV{sz:Nat}{x y:AV}:exec O (.jK sz) [x,y] cells sh aa=uc sz sh aa x (cJ y):=by
 simp only[exec,uc];cases cJ y with
 |none=>rfl
 |some xs=>simp only;cases oS sz sh xs x<;>rfl
def KA(sz:Nat)(sh:Sh)(xs:List PV)(b z n:Nat):Option (Option (List AV))→Option (Nat×Sh)
 |some (some cells)=>if z=sz∧bf sz xs=true∧bV cells=false∧n*sz≤cells.length then
       some (min xs.length n,sh.set b (some (aQ cells 0 (((xs.take n).flatMap aX).map .pv)))) else none
 |_=>none
theorem C6{sz b z n:Nat}{xs:List PV}{cells:List AV}:KA sz sh xs b z n (some (some cells))=if z=sz∧bf sz xs=true∧bV cells=false∧n*sz≤cells.length then
       some (min xs.length n,sh.set b (some (aQ cells 0 (((xs.take n).flatMap aX).map .pv)))) else none:=rfl
theorem C7{sz b z n:Nat}{g:Bool}{xs:List PV}:oS sz sh xs (.aP b z n g)=KA sz sh xs b z n sh[b]?:=by
 simp only[oS,KA];rcases sh[b]? with _|_|cells<;>rfl
theorem HS{s:Nat}:AK.key (.jK s)=none:=rfl
theorem HT:zj [] []=true:=rfl
theorem C8{a b:List UInt8}{r q:List PV}:zj (.str a::r) (.str b::q)=((a == b) && zj r q):=rfl
theorem C9{s:Nat}{z:List PV}:AK.key (.gK s z)=none:=rfl
theorem C_{sz b n:Nat}{ag lo hi:Bool}{rest:List AV}:bB (.s8 sz lo hi) (.aP b sz n ag::rest)=kx sz lo hi (.aP b sz n ag::rest):=rfl
theorem KB{l:List PV}:cJ (.pv (.au l))=some l:=rfl
theorem HU{l:List PV}:cJ (.dH l)=some l:=rfl
theorem HV{l:List PV}{τ:Nat}:cJ (.own l τ)=some l:=rfl
theorem C'{sz:Nat}:bf sz []=true:=rfl
theorem AG{sz:Nat}{p:PV}{r:List PV}:bf sz (p::r)=((aX p).length == sz):=rfl
def Rl(sh:Sh)(aa:aG):Option (List PV)→Option Out
 |some rs=>some ⟨tc rs,none,sh,aa⟩
 |none=>none
theorem HW{rs:List PV}:Rl sh aa (some rs)=some ⟨tc rs,none,sh,aa⟩:=rfl
def KD(O:d9)(g:Nat):Option (List PV)→Option (List PV)
 |some cW=>O.p g cW
 |none=>none
theorem oj{g:Nat}{cW:List PV}:KD O g (some cW)=O.p g cW:=rfl
theorem Da{g:Nat}:exec O (.aJ g) vals cells sh aa=Rl sh aa (KD O g (c_ [] vals)):=by
 show (match c_ [] vals with|some cW=>_|none=>none)=_;split
 ·rename_i cW h;rw[h,oj];cases O.p g cW<;>rfl
 ·rename_i h;rw[h];rfl
theorem AH{g:Nat}:exec O (.eE g) vals cells sh aa=Rl (cA sh vals) aa (KD O g (c_ sh vals)):=by
 show (match c_ sh vals with|some cW=>_|none=>none)=_;split
 ·rename_i cW h;rw[h,oj];cases O.p g cW<;>rfl
 ·rename_i h;rw[h];rfl
def Rm(n:Nat)(ts0:aG):Option (List AV×Sh×aG)→Option Out
 |some (rs,sh',ts)=>some ⟨th (rs.map (da n)),none,ej n sh',ts0++ts⟩
 |none=>none
theorem HX{n:Nat}{ts0:aG}{rs:List AV}{sh':Sh}{ts:aG}:Rm n ts0 (some (rs,sh',ts))=some ⟨th (rs.map (da n)),none,ej n sh',ts0++ts⟩:=rfl
def FJ(O:d9)(g n:Nat)(q:List AV×Sh×aG×aG):Option Out:=Rm n q.2.2.1 (O.i g q.1 q.2.1 q.2.2.2)
theorem KE{g n:Nat}{a:List AV}{s:Sh}{o t:aG}:FJ O g n (a,s,o,t)=Rm n o (O.i g a s t):=rfl
def wt(O:d9)(g:Nat)(args:List AV)(sh:Sh)(aa:aG):Option Out:=
 if args.all bJ=true then FJ O g aa.length (cS aa args sh) else none
theorem KF{g:Nat}{args:List AV}:wt O g args sh aa=if args.all bJ=true then FJ O g aa.length (cS aa args sh) else none:=rfl
theorem mg{g:Nat}{own:List Nat}:(dU O g own vals sh aa).map (fun (v,sh',ts)=>(⟨v,none,sh',ts⟩:Out))=wt O g (dX own 0 vals) sh aa:=by
 unfold dU wt FJ;split
 · cases O.i g (cS aa (dX own 0 vals) sh).1 (cS aa (dX own 0 vals) sh).2.1 (cS aa (dX own 0 vals) sh).2.2.2 with
   |none=>rfl
   |some q=>obtain⟨a,b,c⟩:=q;rfl
 ·rfl
theorem Db{g:Nat}{own:List Nat}:exec O (.bA g own) vals cells sh aa=wt O g (dX own 0 vals) sh aa:=mg
theorem eG{g:Nat}{cap:List AV}:exec O .fJ (.fn g cap::vals) cells sh aa=wt O g (dX [] 0 (vals++cap)) sh aa:=mg (vals:=vals++cap)
def Xo(sh:Sh):Option Out→Option Out
 |some o=>if r5 o.sh sh=true then some ⟨o.val,none,sh,o.aa⟩ else none
 |none=>none
theorem AI{g:Nat}{cap:List AV}:exec O .ff (.fn g cap::vals) cells sh aa=Xo sh (wt O g (dX [] 0 (vals++cap)) sh aa):=by
 rw[←mg];simp only[exec];cases dU O g [] (vals++cap) sh aa with
 |none=>rfl
 |some q=>obtain⟨v,s,t⟩:=q;rfl
mutual
theorem wu:∀p:PV,nA p p=true
 | .bool _=>by simp[nA]
 | .int _ _=>by simp[nA]
 | .str _=>by simp[nA]
 | .agg l=>by simp only[nA];exact om l
 | .au l=>by simp only[nA];exact om l
theorem om:∀l:List PV,oT l l=true
 |[]=>rfl
 |p::r=>by simp only[oT,wu p,om r,Bool.and_self]
end
theorem Rn{p:PV}:Tb (.pv p) (.pv p)=true:=wu p
def b2sO:Option (List UInt8)→Option AV
 |some s=>some (.pv (.str s))
 |none=>none
theorem b2sO_some{s:List UInt8}:b2sO (some s)=some (.pv (.str s)):=rfl
theorem Dc{own:List Nat}{i:Nat}:dX own i []=[]:=rfl
theorem AJ{own:List Nat}{i:Nat}{v:AV}{r:List AV}:dX own i (v::r)=(if own.contains i then v else lG v)::dX own (i+1) r:=rfl
theorem KH{p:PV}:lG (.pv p)=.pv p:=rfl
theorem HY{l:List PV}:lG (.dH l)=.pv (.au l):=rfl
theorem HZ{l:List PV}{τ:Nat}:lG (.own l τ)=.pv (.au l):=rfl
theorem Dd{b o:Nat}:lG (.aW b o)=.aW b o:=rfl
theorem KI{g:Nat}{cap:List AV}:lG (.fn g cap)=.fn g cap:=rfl
theorem De{b s n:Nat}{ag:Bool}:lG (.aP b s n ag)=.aP b s n ag:=rfl
def Df(cs:List AV):Option (List PV)→AV
 |some ps=>.pv (.agg ps)
 |none=>.agg cs
theorem H0{cs:List AV}:lG (.agg cs)=Df cs (ca [] cs):=by
 have h:dd [] (.agg cs)=(ca [] cs).map .agg:=rfl;unfold lG Df;rw[h];cases ca [] cs<;>rfl
theorem AL{cs:List AV}{ps:List PV}:Df cs (some ps)=.pv (.agg ps):=rfl
def py{α:Type}:Option α→Option (List α)→Option (List α)
 |some x,some l=>some (x::l)
 |_,_=>none
theorem Dg{α:Type}{x:α}{l:List α}:py (some x) (some l)=some (x::l):=rfl
theorem Dh{env:List (Nat×AV)}:dY env []=some []:=rfl
theorem AM{env:List (Nat×AV)}{x:eT}{r:List eT}:dY env (x::r)=py (hU env x) (dY env r):=by
 simp only[dY];cases hU env x<;>cases dY env r<;>rfl
theorem N9{env:List (Nat×AV)}{n:Nat}:hU env (.t n)=look env n:=rfl
theorem N_{env:List (Nat×AV)}{v:AV}:hU env (.c v)=some v:=rfl
theorem KJ:eA []=some []:=rfl
theorem qp{v:AV}{r:List AV}:eA (v::r)=py (kM v) (eA r):=by
 simp only[eA];cases kM v<;>cases eA r<;>rfl
theorem Di:c_ sh []=some []:=rfl
theorem AN{v:AV}{r:List AV}:c_ sh (v::r)=py (dd sh v) (c_ sh r):=by
 simp only[c_];cases dd sh v<;>cases c_ sh r<;>rfl
theorem H3:ca sh []=some []:=rfl
theorem Dj{v:AV}{r:List AV}:ca sh (v::r)=if aT v=true then py (dJ sh v) (ca sh r) else none:=by
 simp only[ca];split
 ·cases dJ sh v<;>cases ca sh r<;>rfl
 ·rfl
theorem N'{p:PV}:kM (.pv p)=some p:=rfl
theorem Ro{p:PV}:dd sh (.pv p)=some p:=rfl
theorem Oa{l:List PV}:dd sh (.dH l)=some (.au l):=rfl
theorem Ob{l:List PV}{τ:Nat}:dd sh (.own l τ)=some (.au l):=rfl
def Tq:Option (List PV)→Option PV
 |some ps=>some (.agg ps)
 |none=>none
theorem H4{ps:List PV}:Tq (some ps)=some (.agg ps):=rfl
theorem Oc{cs:List AV}:dd sh (.agg cs)=Tq (ca sh cs):=by
 simp only[dd];cases ca sh cs<;>rfl
theorem Dk{p:PV}:dJ sh (.pv p)=some p:=rfl
theorem AO{l:List PV}:dJ sh (.dH l)=some (.au l):=rfl
theorem AR{l:List PV}{τ:Nat}:dJ sh (.own l τ)=some (.au l):=rfl
def Od(sz n:Nat)(ag:Bool):Option (Option (List AV))→Option PV
 |some (some cells)=>if cells.length=n*sz then ((eA cells).bind (dP sz ag n)).map .au
   else if bV cells=false∧n*sz≤cells.length then ((eA (cells.take (n*sz))).bind (dP sz ag n)).map .au else none
 |_=>none
theorem ya{b sz n:Nat}{ag:Bool}:dJ sh (.aP b sz n ag)=Od sz n ag sh[b]?:=rfl
theorem KK{b sz n:Nat}{ag:Bool}:dd sh (.aP b sz n ag)=Od sz n ag sh[b]?:=rfl
theorem H5{sz n:Nat}{ag:Bool}{cells:List AV}:Od sz n ag (some (some cells))=if cells.length=n*sz then ((eA cells).bind (dP sz ag n)).map .au else if bV cells=false∧n*sz≤cells.length then ((eA (cells.take (n*sz))).bind (dP sz ag n)).map .au else none:=rfl
theorem KL{r:PV}:tc [r]=.pv r:=rfl
theorem KM{a b:PV}{r:List PV}:tc (a::b::r)=.qW (.pv a::.pv b::r.map .pv):=rfl
theorem KN{r:AV}:th [r]=r:=rfl
theorem KO:th []=.qW []:=rfl
theorem KP{xs:List AV}:cS aa xs sh=((bh aa [] xs).1,(a9 (bh aa [] xs).2.1 (bh aa [] xs).2.2 sh).1,(a9 (bh aa [] xs).2.1 (bh aa [] xs).2.2 sh).2.1,(a9 (bh aa [] xs).2.1 (bh aa [] xs).2.2 sh).2.2):=rfl
theorem H6{aI ts:aG}:bh aI ts []=([],aI,ts):=rfl
theorem ud{aI ts:aG}{v:AV}{r:List AV}:bh aI ts (v::r)=((bF aI ts v).1::(bh (bF aI ts v).2.1 (bF aI ts v).2.2 r).1,(bh (bF aI ts v).2.1 (bF aI ts v).2.2 r).2):=rfl
theorem H7{aI ts:aG}:a9 aI ts []=([],aI,ts):=rfl
theorem ue{aI ts:aG}{r:Sh}:a9 aI ts (none::r)=(none::(a9 aI ts r).1,(a9 aI ts r).2):=rfl
theorem uf{aI ts:aG}{cs:List AV}{r:Sh}:a9 aI ts (some cs::r)=(some (bh aI ts cs).1::(a9 (bh aI ts cs).2.1 (bh aI ts cs).2.2 r).1,(a9 (bh aI ts cs).2.1 (bh aI ts cs).2.2 r).2):=rfl
theorem H8{aI ts:aG}:df aI ts []=([],aI,ts):=rfl
theorem Dl{aI ts:aG}{t:Nat}{v:AV}{r:List (Nat×AV)}:df aI ts ((t,v)::r)=((t,(bF aI ts v).1)::(df (bF aI ts v).2.1 (bF aI ts v).2.2 r).1,(df (bF aI ts v).2.1 (bF aI ts v).2.2 r).2):=rfl
theorem H9{aI ts:aG}:fm aI ts []=([],aI,ts):=rfl
theorem Dm{aI ts:aG}{t:Nat}{v:List AV}{r:List (Nat×List AV)}:fm aI ts ((t,v)::r)=((t,(bh aI ts v).1)::(fm (bh aI ts v).2.1 (bh aI ts v).2.2 r).1,(fm (bh aI ts v).2.1 (bh aI ts v).2.2 r).2):=rfl
theorem H_{aI ts:aG}{l:List PV}{τ:Nat}:bF aI ts (.own l τ)=if aI[τ]?=some l.length then (.own l ts.length,aI.set τ (l.length+1),ts++[l.length]) else (.pv (.au l),aI,ts):=rfl
theorem H'{aI ts:aG}{l:List PV}:bF aI ts (.dH l)=(.own l ts.length,aI,ts++[l.length]):=rfl
theorem AS{aI ts:aG}{p:PV}:bF aI ts (.pv p)=(.pv p,aI,ts):=rfl
def Dn(aI ts:aG)(p:List AV):Bool→AV×aG×aG
 |true=>(.agg p,aI,ts)
 |false=>(.agg (cD aI ts p).1,(cD aI ts p).2.1,(cD aI ts p).2.2)
theorem Ia{aI ts:aG}{p:List AV}:bF aI ts (.agg p)=Dn aI ts p (bE.ei p):=by
 simp only[bF];cases bE.ei p<;>rfl
theorem AT{aI ts:aG}{p:List AV}:Dn aI ts p true=(.agg p,aI,ts):=rfl
theorem yc{aI ts:aG}{p:List AV}:Dn aI ts p false=(.agg (cD aI ts p).1,(cD aI ts p).2.1,(cD aI ts p).2.2):=rfl
theorem Dp{aI ts:aG}:cD aI ts []=([],aI,ts):=rfl
theorem AU{aI ts:aG}{v:AV}{r:List AV}:cD aI ts (v::r)=((eD aI ts v).1::(cD (eD aI ts v).2.1 (eD aI ts v).2.2 r).1,(cD (eD aI ts v).2.1 (eD aI ts v).2.2 r).2):=rfl
theorem Ib{aI ts:aG}{l:List PV}{τ:Nat}:eD aI ts (.own l τ)=if aI[τ]?=some l.length then (.own l ts.length,aI.set τ (l.length+1),ts++[l.length]) else (.pv (.au l),aI,ts):=rfl
theorem Dq{aI ts:aG}{a b c:Nat}{d:Bool}:eD aI ts (.aP a b c d)=(.aP a b c d,aI,ts):=rfl
theorem Dr{aI ts:aG}{a b:Nat}:bF aI ts (.az a b)=(.az a b,aI,ts):=rfl
theorem Du{aI ts:aG}{a b:Nat}:bF aI ts (.aW a b)=(.aW a b,aI,ts):=rfl
theorem Dv{aI ts:aG}{a b c:Nat}{d:Bool}:bF aI ts (.aP a b c d)=(.aP a b c d,aI,ts):=rfl
theorem KQ{aI ts:aG}{a:Nat}{c:List AV}:bF aI ts (.fn a c)=(.fn a c,aI,ts):=rfl
theorem Dw{s:Nat}{aI ts:aG}:bF aI ts (.ku s)=((.ku s),aI,ts):=rfl
theorem Dx{s:List (PV×PV)}{aI ts:aG}:bF aI ts (.gg s)=((.gg s),aI,ts):=rfl
theorem Oe{env:List (Nat×AV)}{mem:List (Nat×List AV)}:norm ⟨env,mem,sh,aa⟩ =
   { env:=(df aa [] env).1,
     mem:=(fm (df aa [] env).2.1 (df aa [] env).2.2 mem).1,
     sh:=(a9 (fm (df aa [] env).2.1 (df aa [] env).2.2 mem).2.1 (fm (df aa [] env).2.1 (df aa [] env).2.2 mem).2.2 sh).1,
     aa:=(a9 (fm (df aa [] env).2.1 (df aa [] env).2.2 mem).2.1 (fm (df aa [] env).2.1 (df aa [] env).2.2 mem).2.2 sh).2.2 }:=rfl
theorem AW{live:List Nat}{env:List (Nat×AV)}{mem:List (Nat×List AV)}:restrict live ⟨env,mem,sh,aa⟩=⟨bD live env live,bG mem live,sh,aa⟩:=rfl
def P2(live:List Nat)(t:Nat)(rest:List (Nat×AV)):Option AV→List (Nat×AV)
 |some v=>if d8 live v=true then (t,v)::rest else rest
 |none=>rest
theorem Dy{live:List Nat}{t:Nat}{rest:List (Nat×AV)}{v:AV}:P2 live t rest (some v)=if d8 live v=true then (t,v)::rest else rest:=rfl
theorem sf{live:List Nat}{env:List (Nat×AV)}:bD live env []=[]:=rfl
theorem qq{live:List Nat}{env:List (Nat×AV)}{t:Nat}{r:List Nat}:bD live env (t::r)=P2 live t (bD live env r) (look env t):=by
 show (match look env t with|some v=>_|none=>_)=_;cases look env t<;>rfl
def KR(t:Nat)(rest:List (Nat×List AV)):Option (List AV)→List (Nat×List AV)
 |some v=>(t,v)::rest
 |none=>rest
theorem Dz{t:Nat}{rest:List (Nat×List AV)}{v:List AV}:KR t rest (some v)=(t,v)::rest:=rfl
theorem DA{t:Nat}{rest:List (Nat×List AV)}:KR t rest none=rest:=rfl
theorem sj{mem:List (Nat×List AV)}:bG mem []=[]:=rfl
theorem qt{mem:List (Nat×List AV)}{t:Nat}{r:List Nat}:bG mem (t::r)=KR t (bG mem r) (look mem t):=by
 show (match look mem t with|some v=>_|none=>_)=_;cases look mem t<;>rfl
theorem DB{live:List Nat}{d o:Nat}:d8 live (.az d o)=live.contains d:=rfl
theorem Ic{live:List Nat}{l:List PV}{τ:Nat}:d8 live (.own l τ)=true:=rfl
theorem KU{live:List Nat}{p:PV}:d8 live (.pv p)=true:=rfl
theorem Ie{live:List Nat}{l:List PV}:d8 live (.dH l)=true:=rfl
theorem DC:fM []=true:=rfl
theorem AX{v:AV}{r:List AV}:fM (v::r)=(jL v && fM r):=rfl
theorem KX{p:PV}:jL (.pv p)=true:=rfl
theorem Ig{l:List PV}:jL (.dH l)=true:=rfl
theorem DD{live:List Nat}{a b:Nat}:d8 live (.aW a b)=true:=rfl
theorem DE{live:List Nat}{a b c:Nat}{d:Bool}:d8 live (.aP a b c d)=true:=rfl
theorem KY{live:List Nat}{a:Nat}{c:List AV}:d8 live (.fn a c)=bE.ei c:=rfl
theorem DF{s:Nat}{live:List Nat}:d8 live (.ku s)=true:=rfl
theorem look_nil{α:Type}{t:Nat}:look ([]:List (Nat×α)) t=none:=rfl
theorem Ih{α:Type}{k t:Nat}{v:α}{r:List (Nat×α)}:look ((k,v)::r) t=if k=t then some v else look r t:=rfl
theorem KZ{α:Type}{t:Nat}{v:α}:cX ([]:List (Nat×α)) t v=[(t,v)]:=rfl
theorem Ii{α:Type}{k t:Nat}{v u:α}{r:List (Nat×α)}:cX ((k,v)::r) t u=if k=t then (k,u)::r else (k,v)::cX r t u:=rfl
theorem Ij{env:List (Nat×AV)}{d:Nat}{v:AV}:fU env (some d) v=cX env d v:=rfl
theorem Ik{env:List (Nat×AV)}{v:AV}:fU env none v=env:=rfl
theorem Il{mem:List (Nat×List AV)}{k:Nat}{cs:List AV}:e8 mem (some k) (some cs)=cX mem k cs:=rfl
theorem fF{mem:List (Nat×List AV)}{o:Option (List AV)}:e8 mem none o=mem:=rfl
theorem DG{mem:List (Nat×List AV)}{k:Nat}:e8 mem (some k) none=mem:=rfl
theorem yd{i:Nat}:bZ i []=[]:=rfl
theorem vM{i:Nat}{v:AV}{r:List AV}:bZ i (v::r)=(i,v)::bZ (i+1) r:=rfl
theorem DH{cs:List AV}:a_ (.agg cs)=cs:=rfl
theorem AY{cs:List PV}:a_ (.pv (.agg cs))=cs.map .pv:=rfl
theorem AZ{b:Bool}:a_ (.pv (.bool b))=[.pv (.bool b)]:=rfl
theorem DI{k:IntKind}{n:Int}:a_ (.pv (.int k n))=[.pv (.int k n)]:=rfl
theorem DJ{s:List UInt8}:a_ (.pv (.str s))=[.pv (.str s)]:=rfl
theorem DK{l:List PV}:a_ (.pv (.au l))=[.pv (.au l)]:=rfl
theorem DL{l:List PV}:a_ (.dH l)=[.dH l]:=rfl
theorem DM{l:List PV}{τ:Nat}:a_ (.own l τ)=[.own l τ]:=rfl
theorem A3{a b c:Nat}{d:Bool}:a_ (.aP a b c d)=[.aP a b c d]:=rfl
theorem DN{cs:List PV}:aX (.agg cs)=cs:=rfl
theorem DO{k:IntKind}{n:Int}:aX (.int k n)=[.int k n]:=rfl
theorem DP{s:List UInt8}:aX (.str s)=[.str s]:=rfl
theorem DQ{l:List PV}:aX (.au l)=[.au l]:=rfl
theorem DR{b:Bool}:aT (.pv (.bool b))=true:=rfl
theorem Im{k:IntKind}{n:Int}:aT (.pv (.int k n))=true:=rfl
theorem Io{s:List UInt8}:aT (.pv (.str s))=true:=rfl
theorem Ip{l:List PV}:aT (.pv (.au l))=true:=rfl
theorem Iq{l:List PV}:aT (.dH l)=true:=rfl
theorem Ir{l:List PV}{τ:Nat}:aT (.own l τ)=true:=rfl
theorem DS{a b c:Nat}{d:Bool}:aT (.aP a b c d)=true:=rfl
theorem K0{v:AV}:cN v=aT v:=rfl
theorem DT{a b:Nat}:bN (.aW a b)=true:=rfl
theorem Is:bN.iW []=true:=rfl
theorem DU{v:AV}{r:List AV}:bN.iW (v::r)=(bN v && bN.iW r):=rfl
theorem Iu{l:List PV}{τ:Nat}:bJ (.own l τ)=true:=rfl
theorem K1{p:PV}:bJ (.pv p)=true:=rfl
theorem Iv{l:List PV}:bJ (.dH l)=true:=rfl
theorem DV{a b:Nat}:bJ (.aW a b)=true:=rfl
theorem DW{a b c:Nat}{d:Bool}:bJ (.aP a b c d)=true:=rfl
theorem K3{a:Nat}{c:List AV}:bJ (.fn a c)=bN.iW c:=rfl
theorem Iw{c:List AV}:bJ (.agg c)=fh c:=rfl
theorem DX:fh []=true:=rfl
theorem A4{v:AV}{r:List AV}:fh (v::r)=(ky v && fh r):=rfl
theorem Ix{l:List PV}{τ:Nat}:ky (.own l τ)=true:=rfl
theorem K4{p:PV}:ky (.pv p)=true:=rfl
theorem Iy{l:List PV}:ky (.dH l)=true:=rfl
theorem DY{a b c:Nat}{d:Bool}:ky (.aP a b c d)=true:=rfl
theorem Iz:bE.ei []=true:=rfl
theorem DZ{v:AV}{r:List AV}:bE.ei (v::r)=(bE v && bE.ei r):=rfl
theorem K5{p:PV}:bE (.pv p)=true:=rfl
theorem IA{l:List PV}:bE (.dH l)=true:=rfl
theorem IB{l:List PV}{τ:Nat}:bE (.own l τ)=false:=rfl
theorem D0{a b:Nat}:bE (.aW a b)=true:=rfl
theorem D1{a b c:Nat}{d:Bool}:bE (.aP a b c d)=true:=rfl
theorem IC{n:Nat}{p:PV}:aK n (.pv p)=true:=rfl
theorem D2{n:Nat}{l:List PV}:aK n (.dH l)=true:=rfl
theorem D3{n:Nat}{l:List PV}{τ:Nat}:aK n (.own l τ)=true:=rfl
theorem A5{n a b c:Nat}{d:Bool}:aK n (.aP a b c d)=decide (a<n):=rfl
theorem D4{n:Nat}{c:List AV}:aK n (.agg c)=aK.cB n c:=rfl
theorem A6{n:Nat}:aK.cB n []=true:=rfl
theorem ye{n:Nat}{v:AV}{r:List AV}:aK.cB n (v::r)=(aK n v && aK.cB n r):=rfl
theorem D5{n τ:Nat}{l:List PV}:da n (.own l τ)=.own l (τ+n):=rfl
theorem wv{n:Nat}{p:PV}:da n (.pv p)=.pv p:=rfl
def yg(n:Nat)(p:List AV):Bool→AV
 |true=>.agg p
 |false=>.agg (p.map (jm n))
theorem D6{n:Nat}{p:List AV}:da n (.agg p)=yg n p (bE.ei p):=by
 simp only[da];cases bE.ei p<;>rfl
theorem yh{n:Nat}{p:List AV}:yg n p true=.agg p:=rfl
theorem vN{n:Nat}{p:List AV}:yg n p false=.agg (p.map (jm n)):=rfl
theorem D7{n τ:Nat}{l:List PV}:jm n (.own l τ)=.own l (τ+n):=rfl
theorem A7{n a b c:Nat}{d:Bool}:jm n (.aP a b c d)=.aP a b c d:=rfl
theorem A8{n a b c:Nat}{d:Bool}:da n (.aP a b c d)=.aP a b c d:=rfl
theorem D9{n:Nat}:ej n []=[]:=rfl
theorem rL{n:Nat}{r:Sh}:ej n (none::r)=none::ej n r:=rfl
theorem rM{n:Nat}{cs:List AV}{r:Sh}:ej n (some cs::r)=some (cs.map (da n))::ej n r:=rfl
theorem vO{b:Bool}:bB.zeroCell (.bool b)=.pv (.bool b):=rfl
theorem yi{k:IntKind}{n:Int}:bB.zeroCell (.int k n)=.pv (.int k n):=rfl
theorem yl{s:List UInt8}:bB.zeroCell (.str s)=.pv (.str s):=rfl
theorem ym:bB.zeroCell (.au [])=.dH []:=rfl
theorem A9{l:List PV}{τ:Nat}:cv (.own l τ)=[.own l τ]:=rfl
theorem D'{p:PV}:cv (.pv p)=a_ (.pv p):=rfl
theorem yn{a b c:Nat}{d:Bool}:cv (.aP a b c d)=[.aP a b c d]:=rfl
def FK(cs:List AV):Option (List PV)→List AV
 |some ps=>ps.map .pv
 |none=>cs
theorem A_{cs:List AV}:cv (.agg cs)=FK cs (ca [] cs):=by
 show (match dd [] (.agg cs) with|some p=>a_ (.pv p)|none=>a_ (.agg cs))=_;have h:dd [] (.agg cs)=(ca [] cs).map .agg:=rfl;unfold FK;rw[h];cases ca [] cs<;>rfl
theorem Ea{cs:List AV}{ps:List PV}:FK cs (some ps)=ps.map .pv:=rfl
theorem ug{cs:List AV}:FK cs none=cs:=rfl
theorem Ts{o:NK}:AK.key (.v o)=none:=rfl
theorem ID{k o s:Nat}{a:Bool}:AK.key (.bY k o s a)=some k:=rfl
theorem Eb{k o s:Nat}:AK.key (.bC k o s)=some k:=rfl
theorem IE{k:Nat}{z:List PV}:AK.key (.alloc k z)=some k:=rfl
theorem Of{k s:Nat}:AK.key (.box k s)=some k:=rfl
theorem IF{s:Nat}{a:Bool}:AK.key (.d7 s a)=none:=rfl
theorem Ec{s:Nat}:AK.key (.fK s)=none:=rfl
theorem K6{s:Nat}:AK.key (.oQ s)=none:=rfl
theorem Ed{s:List PV}:AK.key (.jk s)=none:=rfl
theorem IG{s b:Nat}{a:Bool}{z:List PV}:AK.key (.jl s b a z)=none:=rfl
theorem A'{s b:Nat}{ag:Bool}:AK.key (.dI s b ag)=none:=rfl
theorem Ee{s b:Nat}:AK.key (.append s b)=none:=rfl
theorem II{g:Nat}:AK.key (.aJ g)=none:=rfl
theorem Ef{g:Nat}:AK.key (.eE g)=none:=rfl
theorem IJ{g:Nat}{o:List Nat}:AK.key (.bA g o)=none:=rfl
theorem IK{sz bytes:Nat}:(AK.clone sz bytes).key=none:=rfl
theorem IL:AK.key .fJ=none:=rfl
theorem bind_none{f:Nat→Option (List AV)}:(none:Option Nat).bind f=none:=rfl
theorem bind_some{f:Nat→Option (List AV)}{n:Nat}:(some n).bind f=f n:=rfl
theorem Eg{sz off:Nat}{cs:List AV}:bR true sz cs off=if off+sz≤cs.length then some (.agg ((cs.drop off).take sz)) else none:=rfl
theorem Ba{off:Nat}{cs:List AV}:bR false 1 cs off=if off+1≤cs.length then cs[off]? else none:=rfl
theorem Bb{sz:Nat}{cs:List PV}:cO true sz cs=if sz≤cs.length then some (.pv (.agg (cs.take sz))) else none:=rfl
theorem yp{c:PV}{cs:List PV}:cO false 1 (c::cs)=some (.pv c):=by simp[cO]
theorem aF{cs vs:List AV}{off:Nat}:aQ cs off vs=cs.take off++vs++cs.drop (off+vs.length):=rfl
theorem Rp{x:AV}:bB .mv [x]=some x:=rfl
theorem K7{c:Bool}{a b:AV}:bB .pick [.pv (.bool c),a,b]=if c=true then some a else some b:=by cases c<;>rfl
theorem Og{i:Nat}{vs:List AV}:bB (.ext i) [.qW vs]=vs[i]?:=rfl
theorem Eh{off d o:Nat}:bB (.g_ off) [.az d o]=some (.az d (o+off)):=rfl
theorem Ei{off d o:Nat}:bB (.g_ off) [.aW d o]=some (.aW d (o+off)):=rfl
theorem Ej{off:Nat}{cs:List PV}:bB (.g_ off) [.gf cs]=some (.gf (cs.drop off)):=rfl
def yq(sz:Nat):Option PV→Option AV
 |some el=>if (aX el).length=sz then some (.gf (aX el)) else none
 |none=>none
theorem Bc{sz:Nat}{el:PV}:yq sz (some el)=if (aX el).length=sz then some (.gf (aX el)) else none:=rfl
theorem IM{sz:Nat}{l:List PV}{k:IntKind}{i:Int}:bB (.eg sz) [.pv (.au l),.pv (.int k i)]=if i<0 then none else yq sz l[i.toNat]?:=by
 show (if i<0 then none else _)=_;split
 ·rfl
 ·show (match l[i.toNat]? with|some el=>_|none=>_)=_;cases l[i.toNat]?<;>rfl
theorem Ek{sz:Nat}{l:List PV}{k:IntKind}{i:Int}:bB (.eg sz) [.dH l,.pv (.int k i)]=if i<0 then none else yq sz l[i.toNat]?:=by
 show (if i<0 then none else _)=_;split
 ·rfl
 ·show (match l[i.toNat]? with|some el=>_|none=>_)=_;cases l[i.toNat]?<;>rfl
theorem Em{sz τ:Nat}{l:List PV}{k:IntKind}{i:Int}:bB (.eg sz) [.own l τ,.pv (.int k i)]=if i<0 then none else yq sz l[i.toNat]?:=by
 show (if i<0 then none else _)=_;split
 ·rfl
 ·show (match l[i.toNat]? with|some el=>_|none=>_)=_;cases l[i.toNat]?<;>rfl
theorem Eo{sz b sz' n:Nat}{ag:Bool}{k:IntKind}{i:Int}:bB (.eg sz) [.aP b sz' n ag,.pv (.int k i)]=if i<0 then none else if sz=sz'∧i.toNat<n then some (.aW b (i.toNat*sz)) else none:=rfl
def P3:Option UInt8→Option AV
 |some b=>some (.pv (.int .u8 b.toNat))
 |none=>none
theorem Ep{b:UInt8}:P3 (some b)=some (.pv (.int .u8 b.toNat)):=rfl
theorem IN{s:List UInt8}{k:IntKind}{i:Int}:bB .index [.pv (.str s),.pv (.int k i)]=if i<0 then none else P3 s[i.toNat]?:=by
 show (if i<0 then none else _)=_;cases s[i.toNat]?<;>rfl
def Tt:Option (List AV)→Option AV
 |some cs=>some (.agg cs)
 |none=>none
theorem IP{cs:List AV}:Tt (some cs)=some (.agg cs):=rfl
theorem IQ{zero:List PV}{places:List (Nat×Nat)}:bB (.build zero places) vals=Tt (lF (zero.map bB.zeroCell) places vals):=by
 show (lF _ _ _).map _=_;cases lF (zero.map bB.zeroCell) places vals<;>rfl
theorem IS{cs:List AV}:lF cs [] []=some cs:=rfl
theorem Er{cs:List AV}{off sz:Nat}{ps:List (Nat×Nat)}{v:AV}{vs:List AV}:lF cs ((off,sz)::ps) (v::vs) =
   if (a_ v).length=sz∧off+sz≤cs.length∧(a_ v).all aT=true then lF (aQ cs off (a_ v)) ps vs else none:=rfl
def Tu(sz:Nat):Option (List PV)→Option AV
 |some els=>if els.all (fun e=>(aX e).length == sz) then some (.dH els) else none
 |none=>none
theorem IT{sz:Nat}{els:List PV}:Tu sz (some els)=if els.all (fun e=>(aX e).length == sz) then some (.dH els) else none:=rfl
theorem Es{sz:Nat}:bB (.eh sz) vals=Tu sz (c_ [] vals):=by
 show (c_ [] vals).bind _=_;cases c_ [] vals<;>rfl
theorem IU{sz:Nat}{ag:Bool}{cs:List PV}:bB (.fH sz ag) [.gf cs]=cO ag sz cs:=rfl
theorem Oh{l:List PV}:bB .len [.pv (.au l)]=some (.pv (.int .i64 l.length)):=rfl
theorem K8{l:List PV}:bB .len [.dH l]=some (.pv (.int .i64 l.length)):=rfl
theorem K9{l:List PV}{τ:Nat}:bB .len [.own l τ]=some (.pv (.int .i64 l.length)):=rfl
theorem K_{a b n:Nat}{d:Bool}:bB .len [.aP a b n d]=some (.pv (.int .i64 n)):=rfl
theorem La{s:List UInt8}:bB .Cs [.pv (.str s)]=some (.pv (.int .i64 s.length)):=rfl
theorem Lb{a b:Nat}:bB .qa [.aW a b]=some (.aW a b):=rfl
theorem Rq{k k':IntKind}{x y:Int}:bB .mn [.pv (.int k x),.pv (.int k' y)]=if k=k' then some (.pv (.int k (if y<x then y else x))) else none:=rfl
theorem Rr{k k':IntKind}{x y:Int}:bB .mx [.pv (.int k x),.pv (.int k' y)]=if k=k' then some (.pv (.int k (if y > x then y else x))) else none:=rfl
theorem Lc{g:Nat}:bB (.Gv g) vals=some (.fn g vals):=by cases vals<;>rfl
theorem Ld{k k':IntKind}{n:Int}:bB (.conv k) [.pv (.int k' n)]=some (.pv (.int k (k.wrap n))):=rfl
theorem Oi{b:Bool}:bB (.un .not) [.pv (.bool b)]=some (.pv (.bool !b)):=rfl
theorem Oj{a b:Bool}:bB (.beq true) [.pv (.bool a),.pv (.bool b)]=some (.pv (.bool !(a == b))):=rfl
theorem Ol{k:IntKind}{a b:Int}:bB (.bin .add) [.pv (.int k a),.pv (.int k b)]=some (.pv (.int k (k.wrap (a+b)))):=by simp[bB,cC]
theorem Om{k:IntKind}{a b:Int}:bB (.bin .sub) [.pv (.int k a),.pv (.int k b)]=some (.pv (.int k (k.wrap (a-b)))):=by simp[bB,cC]
theorem On{k:IntKind}{a b:Int}:bB (.bin .rem) [.pv (.int k a),.pv (.int k b)]=if b=0 then none else some (.pv (.int k (a.tmod b))):=by simp[bB,cC]
theorem Oo{k:IntKind}{a b:Int}:bB (.bin .eql) [.pv (.int k a),.pv (.int k b)]=some (.pv (.bool (a == b))):=by simp[bB,cC]
theorem Oq{k:IntKind}{a b:Int}:bB (.bin .neq) [.pv (.int k a),.pv (.int k b)]=some (.pv (.bool (a != b))):=by simp[bB,cC]
theorem Ot{k:IntKind}{a b:Int}:bB (.bin .lss) [.pv (.int k a),.pv (.int k b)]=some (.pv (.bool (decide (a<b)))):=by simp[bB,cC]
theorem Ou{k:IntKind}{a b:Int}:bB (.bin .leq) [.pv (.int k a),.pv (.int k b)]=some (.pv (.bool (decide (a≤b)))):=by simp[bB,cC]
theorem Ov{k:IntKind}{a b:Int}:bB (.bin .gtr) [.pv (.int k a),.pv (.int k b)]=some (.pv (.bool (decide (a > b)))):=by simp[bB,cC]
theorem Ow{k:IntKind}{a b:Int}:bB (.bin .geq) [.pv (.int k a),.pv (.int k b)]=some (.pv (.bool (decide (a≥b)))):=by simp[bB,cC]
theorem Ox{k:IntKind}{a b:Int}:bB (.bin .and) [.pv (.int k a),.pv (.int k b)]=some (.pv (.int k (k.wrap (BitVec.ofInt k.bits a &&& BitVec.ofInt k.bits b).toNat))):=by simp[bB,cC]
theorem Oy{k k':IntKind}{a b:Int}:bB (.bin .shr) [.pv (.int k a),.pv (.int k' b)]=if b<0 then none else some (.pv (.int k (a.fdiv (2 ^ (min b.toNat k.bits))))):=by simp[bB,cC]
theorem ef{a b:List UInt8}:bB (.bin .add) [.pv (.str a),.pv (.str b)]=if a.length+b.length≤9223372036854775807 then some (.pv (.str (a++b))) else none:=rfl
theorem Le{a b:List UInt8}:bB (.bin .eql) [.pv (.str a),.pv (.str b)]=some (.pv (.bool (a == b))):=rfl
theorem Lf{a b:List UInt8}:bB (.bin .neq) [.pv (.str a),.pv (.str b)]=some (.pv (.bool (!(a == b)))):=rfl
theorem Lg{a b:List UInt8}:bB (.bin .lss) [.pv (.str a),.pv (.str b)]=some (.pv (.bool (cC.ee a b))):=rfl
theorem Lh{a b:List UInt8}:bB (.bin .gtr) [.pv (.str a),.pv (.str b)]=some (.pv (.bool (!(cC.ee a b || a == b)))):=rfl
theorem IV{sz:Nat}{lo hi mx:Bool}{x:AV}{rest:List AV}:bB (.slice false sz lo hi mx) (x::rest)=dK false sz lo hi mx (x::rest):=rfl
theorem Et{sz:Nat}{lo hi mx:Bool}{x:AV}{rest:List AV}:bB (.slice true sz lo hi mx) (x::rest)=dK true sz lo hi mx (x::rest):=rfl
def oo(aU ks:Bool)(sh0 sh:Sh)(aa:aG):Option (List AV)→Option (List AV×Sh×aG)
 |some vs=>if (cq aU ks sh vs).all bJ=true then
     some ((cS aa (cq aU ks sh vs) (if (cq aU ks sh vs).all (aK sh0.length)=true then (eV aU ks sh vs).take sh0.length else eV aU ks sh vs)).1,
       (cS aa (cq aU ks sh vs) (if (cq aU ks sh vs).all (aK sh0.length)=true then (eV aU ks sh vs).take sh0.length else eV aU ks sh vs)).2.1,
       (cS aa (cq aU ks sh vs) (if (cq aU ks sh vs).all (aK sh0.length)=true then (eV aU ks sh vs).take sh0.length else eV aU ks sh vs)).2.2.2) else none
 |none=>none
theorem Be{aU ks:Bool}{sh0:Sh}{vs:List AV}:oo aU ks sh0 sh aa (some vs)=if (cq aU ks sh vs).all bJ=true then
     some ((cS aa (cq aU ks sh vs) (if (cq aU ks sh vs).all (aK sh0.length)=true then (eV aU ks sh vs).take sh0.length else eV aU ks sh vs)).1,
       (cS aa (cq aU ks sh vs) (if (cq aU ks sh vs).all (aK sh0.length)=true then (eV aU ks sh vs).take sh0.length else eV aU ks sh vs)).2.1,
       (cS aa (cq aU ks sh vs) (if (cq aU ks sh vs).all (aK sh0.length)=true then (eV aU ks sh vs).take sh0.length else eV aU ks sh vs)).2.2.2) else none:=rfl
def fin(aU ks:Bool)(rs:List qb)(sh0:Sh):Option (bg×St)→Option (List AV×Sh×aG)
 |some (.ret,st)=>oo aU ks sh0 st.sh st.aa (ek st rs)
 |some (.normal,st)=>oo aU ks sh0 st.sh st.aa (ek st rs)
 |_=>none
theorem Oz{aU ks:Bool}{rs:List qb}{sh0:Sh}{st:St}:fin aU ks rs sh0 (some (.ret,st))=oo aU ks sh0 st.sh st.aa (ek st rs):=rfl
theorem Eu{aU ks:Bool}{rs:List qb}{sh0:Sh}{st:St}:fin aU ks rs sh0 (some (.normal,st))=oo aU ks sh0 st.sh st.aa (ek st rs):=rfl
theorem OA{aU ks:Bool}{rs:List qb}{sh0:Sh}{c:Prop}[Decidable c]{x y:Option (bg×St)}:fin aU ks rs sh0 (if c then x else y)=if c then fin aU ks rs sh0 x else fin aU ks rs sh0 y:=by split<;>rfl
theorem wx{aU:Bool}{af:aA}{sh0:Sh}{r:Option (bg×St)}:finish aU af sh0 r=fin aU af.ks af.results sh0 r:=by
 cases r with
 |none=>rfl
 |some q=>
   obtain⟨e,st⟩:=q;cases e with
   |ret=>simp only[finish,fin];cases ek st af.results<;>simp[oo]
   |normal=>simp only[finish,fin];cases ek st af.results<;>simp[oo]
   |exit id=>simp[finish,fin]
theorem Ew{st:St}:ek st []=some []:=rfl
theorem Bf{st:St}{r:qb}{rs:List qb}:ek st (r::rs)=py (qZ st r) (ek st rs):=by
 simp only[ek];cases qZ st r<;>cases ek st rs<;>rfl
theorem OB{st:St}{n:Nat}:qZ st (.t n)=look st.env n:=rfl
def pz(key sz:Nat)(ag:Bool)(mem:List (Nat×List AV))(sh:Sh):Option AV→Option AV
 |some (.az d 0)=>yr key d sz ag (look mem key)
 |some (.aW s 0)=>x6 ag sz 0 sh[s]?
 |_=>none
where yr (key d sz:Nat) (ag:Bool):Option (List AV)→Option AV
 |some cs=>if d=key then bR ag sz cs 0 else none
 |none=>none
theorem OC{st:St}{key sz:Nat}{ag:Bool}:qZ st (.c key sz ag)=pz key sz ag st.mem st.sh (look st.env key):=by
 simp only[qZ];unfold pz;split
 ·rename_i h;rw[h];rfl
 ·rename_i h;rw[h];rfl
 · rename_i h1 h2;split
   ·rename_i d e;exact absurd e (h1 d)
   ·rename_i s e;exact absurd e (h2 s)
   ·rfl
theorem yt{key sz d:Nat}{ag:Bool}{mem:List (Nat×List AV)}:pz key sz ag mem sh (some (.az d 0))=pz.yr key d sz ag (look mem key):=rfl
theorem yu{key sz d:Nat}{ag:Bool}{cs:List AV}:pz.yr key d sz ag (some cs)=if d=key then bR ag sz cs 0 else none:=rfl
theorem yv{vs:List AV}{ks:Bool}:cq false ks sh vs=vs.map (tj sh):=rfl
theorem Bg{vs:List AV}:cq true false sh vs=vs.map (Cv sh):=rfl
theorem IW{vs:List AV}:cq true true sh vs=vs:=rfl
theorem Bh{vs:List AV}{ks:Bool}:eV false ks sh vs=cA sh vs:=rfl
theorem Ey{vs:List AV}:eV true false sh vs=cA sh vs:=rfl
theorem Li{vs:List AV}:eV true true sh vs=sh:=rfl
def Tv(v:AV):Option PV→AV
 |some p=>.pv p
 |none=>v
theorem IX{v:AV}{p:PV}:Tv v (some p)=.pv p:=rfl
theorem Lj{v:AV}:tj sh v=Tv v (dd sh v):=rfl
theorem Ll{l:List PV}{τ:Nat}:Cv sh (.own l τ)=.own l τ:=rfl
theorem Lm{cs:List AV}:Cv sh (.agg cs)=.agg (cs.map (vA sh)):=rfl
theorem OD{p:PV}:Cv sh (.pv p)=.pv p:=rfl
theorem Ln{l:List PV}:vA sh (.dH l)=.dH l:=rfl
theorem Lo{l:List PV}{τ:Nat}:vA sh (.own l τ)=.pv (.au l):=rfl
theorem Lp{k:IntKind}{n:Int}:vA sh (.pv (.int k n))=.pv (.int k n):=rfl
theorem Lq{s:List UInt8}:vA sh (.pv (.str s))=.pv (.str s):=rfl
theorem Lr{l:List PV}:vA sh (.pv (.au l))=.pv (.au l):=rfl
theorem Ez{vs:List AV}:cA sh vs=kill sh (vs.flatMap eB):=rfl
theorem Ls:kill sh []=sh:=rfl
theorem IY{b:Nat}{l:List Nat}:kill sh (b::l)=kill (sh.set b none) l:=rfl
theorem IZ{a b c:Nat}{d:Bool}:eB (.aP a b c d)=[a]:=rfl
theorem sH{p:PV}:eB (.pv p)=[]:=rfl
theorem Lt{l:List PV}{τ:Nat}:eB (.own l τ)=[]:=rfl
theorem Lu{l:List PV}:eB (.dH l)=[]:=rfl
def wy:AV→List Nat
 | .aP b _ _ _=>[b]
 |_=>[]
theorem uh{cs:List AV}:eB (.agg cs)=cs.flatMap wy:=by
 show cs.flatMap _=cs.flatMap wy;congr 1
theorem EA{a b c:Nat}{d:Bool}:wy (.aP a b c d)=[a]:=rfl
theorem Lv{p:PV}:wy (.pv p)=[]:=rfl
theorem I0{l:List PV}{τ:Nat}:wy (.own l τ)=[]:=rfl
theorem I2{l:List PV}:wy (.dH l)=[]:=rfl
theorem EB:fW []=some []:=rfl
theorem Bi{p:PV}{r:List AV}:fW (.pv p::r)=py (some p) (fW r):=by
 simp only[fW];cases fW r<;>rfl
def m5:Option (List AV×Sh×aG)→Option (List PV)
 |some (rs,_,_)=>fW rs
 |none=>none
theorem yx{rs:List AV}{t:aG}:m5 (some (rs,sh,t))=fW rs:=rfl
theorem Bj{c:Prop}[Decidable c]{x y:Option (List AV×Sh×aG)}:m5 (if c then x else y)=if c then m5 x else m5 y:=by split<;>rfl
theorem ae{g:Nat}{af:aA}{x:List PV}(hg:AP g=some af)(h1:x.length=af.nparams)(h2:af.nparams≤af.ntmps)(hp:af.qc=none:=by rfl) :
   (aC AP).p g x=m5 (fin false af.ks af.results [] (cl AP af.body ⟨bZ 0 (x.map .pv),[],[],[]⟩)):=by
 rw[P0 hg hp h1 (by omega)];unfold nH m5;rw[wx];cases fin false af.ks af.results [] (cl AP af.body ⟨bZ 0 (x.map .pv),[],[],[]⟩)<;>rfl
theorem aE{g:Nat}{af:aA}{x:List AV}{ts:aG}(hg:AP g=some af)(h2:x.length≤af.ntmps) :
   (aC AP).i g x sh ts=fin true af.ks af.results sh (cl AP af.body ⟨bZ 0 x,[],sh,ts⟩):=by
 rw[P1 hg h2,←wx];rfl
end
attribute [simp] Ht Hu Hv Ko Hw Hx Kq Hy Hz HA HB HC AA HD AB C0 Q9 Q_ jx Hk CZ N4 Hl Kk Hm Kl Ho Hn Hp Hq N5 Hr Km Hs Q' G5 Aq G8 Au CS xY G9 CT G_ xZ Ha CU Hb Hc CV x4 Av CW Kg N2 Th N3 Kh Ki Hh Hi Ax CX CY Hj Rd ij iG jw l7 Ay rK Az pw iH mS jQ kU HH Kr jR vL HI HJ KB HU HV C' AG HW oj Da AH HX KE KF Db eG Dc AJ KH HY HZ Dd KI De H0 AL Dg Dh AM N9 N_ KJ qp Di AN H3 Dj N' Ro Oa Ob H4 Oc Dk AO AR ya KK H5 KL KM KN KO KP H6 ud H7 ue uf H8 Dl H9 Dm H_ H' AS Ia Dr Du Dv KQ Oe AW Dy sf qq Dz DA sj qt DB Ic KU Ie DD DE KY look_nil Ih KZ Ii Ij Ik Il fF DG yd vM DH AY AZ DI DJ DK DL DM A3 DN DO DP DQ DR Im Io Ip Iq Ir DS K0 DT Is DU Iu K1 Iv DV DW K3 Iw Iz DZ K5 IA IB D0 D1 IC D2 D3 A5 D4 A6 ye D5 wv D6 A8 D9 rL rM vO yi yl ym A9 D' yn A_ Ea ug Ts ID Eb IE Of IF Ec K6 Ed IG Ee II Ef IJ IL AI Rn b2sO_some bind_none bind_some Eg Ba Bb yp aF Rp K7 Og Eh Ei Ej Bc IM Ek Em Eo Ep IN IP IQ IS Er IT Es IU Oh K8 K9 K_ La Lb Rq Rr Lc Ld Oi Oj Ol Om On Oo Oq Ot Ou Ov Ow Ox Oy ef Le Lf Lg Lh IV Et Be Oz Eu OA Ew Bf OB OC yt yu yv Bg IX Lj Ll Lm OD Ln Lo Lp Lq Lr Ez Ls IY IZ sH Lt Lu uh EA Lv I0 I2 EB Bi yx Bj Dw Dx DF N6 nV HE HF IK AT yc Dp AU Ib Dq DC AX KX Ig DX A4 Ix K4 Iy DY yh vN D7 A7 IW Bh Ey Li HK C1 kW AD Kt Ku HL N7 Ky HN HO HP HQ HM C3 C4 Q8 A' HR AE x9 x_ C9 AF C5 kV C6 C7 HS HT C8 C_ Rc NZ N0 Ra Ke List.getElem?_cons_zero
theorem ah{n:Int}(h1:-9223372036854775808≤n)(h2:n≤9223372036854775807):IntKind.i64.wrap n=n:=by
 simp[IntKind.wrap,IntKind.bits,IntKind.signed];omega
end Go.Ab.Ev
namespace Go.Ab
open Ev
structure VN(P:Program)(ns:Names)(f sz:Nat)(ag:Bool) where
 fn:Func
 A:ko
 o0:Array Oper
 o1:Array Oper
 o2:Array Oper
 m0:Oper
 Wo:List Oper
 y:Oper
 nt:Oper
 r0:Nat
 r1:Nat
 r2:Nat
 r3:Nat
 b0:Nat
 b1:Nat
 types:Array TypeId
 tb:TypeId
 hf:P.funcs[f]?=some fn
 ui:fn.body=some (.seq (.region r0 o0 false) (.block b0 (.loop (.seq (.seq (.region r1 o1 false) (.cond (.tmp 8) .skip (.exit b0)))
   (.seq (.block b1 (.seq (.region r3 (m0::Wo++[y,nt]).toArray false) (.cond (.tmp 18) .ret .skip))) (.region r2 o2 false))))))
 ie:fn.results=#[]
 hN:fn.ntmps=19
 c0:cf (cK P ns A 19 o0) o0.toList=some [⟨some 4,none,[.t 1],.v (.fH 1 false)⟩,⟨some 5,none,[.t 4],.v .len⟩,⟨some 6,none,[.t 5,.c (.pv (.int .i64 1))],.v (.bin .sub)⟩,⟨some 3,none,[.t 6],.v .mv⟩]
 c1:cf (cK P ns A 19 o1) o1.toList=some [⟨some 7,none,[.t 3],.v .mv⟩,⟨some 8,none,[.t 7,.c (.pv (.int .i64 0))],.v (.bin .geq)⟩]
 c2:cf (cK P ns A 19 o2) o2.toList=some [⟨some 9,none,[.t 3],.v .mv⟩,⟨some 10,none,[.t 9,.c (.pv (.int .i64 1))],.v (.bin .sub)⟩,⟨some 3,none,[.t 10],.v .mv⟩]
 h0:m0.op=.move (.tmp 0)∧m0.dst=some 11∧m0.guard=none
 c3:cf (cK P ns A 19 (m0::Wo++[y,nt]).toArray) Wo=some [⟨some 12,none,[.t 3],.v .mv⟩,⟨some 13,none,[.t 1],.v (.fH 1 false)⟩,⟨some 14,none,[.t 3],.v .mv⟩,⟨some 15,none,[.t 13,.t 14],.v (.eg sz)⟩,⟨some 16,none,[.t 15],.v (.fH sz ag)⟩]
 hy:y.op=.call { callee:=.value (.tmp 11),args:=#[.tmp 12,.tmp 16],argTypes:=types }∧y.dst=some 17∧y.guard=none
 hn:nt.op=.unOp .not tb (.tmp 17)∧nt.dst=some 18∧nt.guard=none
section
variable {P:Program} {ns:Names}
theorem il{n0:Nat}{ro:Option Nat}{n:Nat}(hB:eU P ns){orc:d9}(horc:gD P ns orc){A:ko}{N:Nat}{ops:Array Oper}{Q:Exit→Act→World→Prop}{rest:List Oper}:∀{l:List Oper} {as:List dN} {st st':St} {G:Gh} {a:Act} {w:World},
   cf (cK P ns A N ops) l=some as→gV (num ns) n0 N G st a w→bp orc as st=some st' →
   (∀G' a' w',gV (num ns) n0 N G' st' a' w'→bK G w G' w'→a'.defers=a.defers→(∀t,(∀ao∈as,ao.dst≠some t)→a'.tmps[t]?=a.tmps[t]?)→wpListIn (vz ro) n P ops Q rest a' w')→wpListIn (vz ro) n P ops Q (l++rest) a w
 |[],as,st,st',G,a,w,hc,hs,hev,hq=>by
   simp[cf]at hc;subst hc;simp[bp]at hev;subst hev;exact hq G a w hs (bK.refl G w) rfl (fun _ _=>rfl)
 |o::l,as,st,st',G,a,w,hc,hs,hev,hq=>by
   simp only[cf]at hc;split at hc
   · rename_i ao aos h1 h2;simp at hc;subst hc;simp only[bp]at hev;split at hev
     ·simp at hev
     · rename_i st1 hst1;rw[List.cons_append];unfold wpListIn;have hd:ao.dst=o.dst:=by obtain⟨_,_,_,h,_⟩:=lg h1;exact h
       have hput:∀(a:Act) (v:Value) t,ao.dst≠some t→(a.put o.dst v).tmps[t]?=a.tmps[t]?:=by
         intro a v t ht;rw[hd]at ht;cases ho:o.dst with
         |none=>rfl
         |some d=>
           rw[ho]at ht;simp only[Act.put];rw[Array.getElem?_setIfInBounds_ne];intro e;exact ht (by rw[e])
       exact xW hB horc h1 hs hst1 (fun G' v w' hs' he=>il hB horc h2 hs' hev (fun G'' a'' w'' hs'' he' hdf hk=>hq G'' a'' w'' hs'' (he.trans he') (hdf.trans (put_defers _ _ _)) (fun t ht=>by
         rw[hk t (fun ao' h=>ht ao' (by simp[h]))];exact hput a v t (ht ao (by simp)))))
   ·simp at hc
theorem wz{F:Fence}{n:Nat}{ops:Array Oper}{Q:Exit→Act→World→Prop}{rest:List Oper}{o:Oper}{x:Operand}{a:Act}{w:World}(hF:∀f,F.fn f)(ho:o.op=.move x)(hg:o.guard=none)
   (h:wpListIn F n P ops Q rest (a.put o.dst (a.eval x)) w):wpListIn F n P ops Q (o::rest) a w:=by
 unfold wpListIn;have hw:Region.wanted o (yielded ops a.tmps)=true:=by simp[Region.wanted,hg]
 rw[if_pos hw];refine⟨fun _ _=>hF _,?_⟩;rw[Oper.semAt_eq _ _ _ (by intro c e;rw[ho]at e;cases e)]
 have hr:(execOp a.eval o).run P w=.ok (.value (a.eval x)) w:=by
   obtain⟨dst,op,type,pos,after,guard⟩:=o;simp only at ho;subst ho;simp[execOp]
 rw[hr];exact h
def qu:bg→Exit
 | .normal=>.normal
 | .ret=>.ret
 | .exit id=>.exit id
end
end Go.Ab
namespace Go.Ab
open Ev
structure iJ(P:Program)(ns:Names)(f sz bytes:Nat) where
 fn:Func
 A:ko
 t:TypeId
 el:TypeId
 ty:TypeId
 o0:Oper
 m:Oper
 e:Oper
 o2:Oper
 b:Oper
 m3:Oper
 ap:Oper
 A2:ko
 ag:Bool
 fi:Oper
 r0:Nat
 r1:Nat
 r2:Nat
 r3:Nat
 hf:P.funcs[f]?=some fn
 ui:fn.body=some (.seq (.region r0 #[o0] false) (.seq (.seq (.region r1 #[m,e] false) (.cond (.tmp 4) (.seq (.region r2 #[o2] false) .ret) .skip)) (.seq (.region r3 #[b,m3,ap,fi] false) .ret))):=by kernel_rfl
 ie:fn.results=#[.tmp 2]:=by kernel_rfl
 hN:fn.ntmps=8:=by kernel_rfl
 h0:o0.op=.assign (.const (.slice none 0 0))∧o0.dst=some 2∧o0.guard=none:=by refine⟨?_,?_,?_⟩<;>kernel_rfl
 h1:m.op=.move (.tmp 0)∧m.dst=some 3∧m.guard=none:=by refine⟨?_,?_,?_⟩<;>kernel_rfl
 h2:e.op=.binOp .eql t (.tmp 3) (.const (.slice none 0 0)) ty∧e.dst=some 4∧e.guard=none:=by refine⟨?_,?_,?_⟩<;>kernel_rfl
 hu:P.underlying t=some (.slice el):=by kernel_rfl
 h3:o2.op=.assign (.const (.slice none 0 0))∧o2.dst=some 2∧o2.guard=none:=by refine⟨?_,?_,?_⟩<;>kernel_rfl
 h4:bH P ns A b.dst b.op=some (.v (.eh sz),[])∧b.dst=some 5∧b.guard=none:=by refine⟨?_,?_,?_⟩<;>kernel_rfl
 h5:m3.op=.move (.tmp 0)∧m3.dst=some 6∧m3.guard=none:=by refine⟨?_,?_,?_⟩<;>kernel_rfl
 h6:bH P ns A ap.dst ap.op=some (.append sz bytes,[.tmp 5,.tmp 6])∧ap.dst=some 7∧ap.guard=none:=by refine⟨?_,?_,?_⟩<;>kernel_rfl
 h8:bH P ns A2 ap.dst ap.op=some (.dI sz bytes ag,[.tmp 5,.tmp 6]):=by kernel_rfl
 h7:fi.op=.assign (.tmp 7)∧fi.dst=some 2∧fi.guard=none:=by refine⟨?_,?_,?_⟩<;>kernel_rfl
section
variable {P:Program} {ns:Names}
theorem gE{F:Fence}{n:Nat}{ops:Array Oper}{Q:Exit→Act→World→Prop}{rest:List Oper}{o:Oper}{x:Operand}{a:Act}{w:World}(hF:∀f,F.fn f)(ho:o.op=.assign x)(hg:o.guard=none)
   (h:wpListIn F n P ops Q rest (a.put o.dst (a.eval x)) w):wpListIn F n P ops Q (o::rest) a w:=by
 unfold wpListIn;have hw:Region.wanted o (yielded ops a.tmps)=true:=by simp[Region.wanted,hg]
 rw[if_pos hw];refine⟨fun _ _=>hF _,?_⟩;rw[Oper.semAt_eq _ _ _ (by intro c e;rw[ho]at e;cases e)]
 have hr:(execOp a.eval o).run P w=.ok (.value (a.eval x)) w:=by
   obtain⟨dst,op,type,pos,after,guard⟩:=o;simp only at ho;subst ho;simp[execOp]
 rw[hr];exact h
theorem oq{G:Gh}{A:ko}{n:Nat}{ops:Array Oper}{Q:Exit→Act→World→Prop}{rest:List Oper}{o:Oper}{k:AK}{args:List Operand}{a:Act}{w:World}(hg:o.guard=none){orc:d9}(hc:bH P ns A o.dst o.op=some (k,args))(hk:k.calls=false)
   {vals:List AV} {out:Out} {mem:List (Nat×List AV)} {sh:Sh} {aa:aG} (hkey:k.key=none) (hr:aw (num ns) G vals (args.map a.eval)) (hi:Inv (num ns) G w mem sh aa) (h:exec orc k vals none sh aa=some out)
   (hn:∀v w' G',aB (num ns) G' out.val v→Inv (num ns) G' w' mem out.sh out.aa→G.le G'→bK G w G' w'→wpListIn Fence.wide n P ops Q rest (a.put o.dst v) w'):wpListIn Fence.wide n P ops Q (o::rest) a w:=by
 unfold wpListIn;have hw:Region.wanted o (yielded ops a.tmps)=true:=by simp[Region.wanted,hg]
 rw[if_pos hw];have hdef:∀c,o.op≠.defer c:=by intro c e;rw[e]at hc;simp[bH]at hc
 refine sD (ro:=none) hdef ?_;obtain⟨nx,v,w',G',g1,g2,g3,g4,g5,g6⟩:=ry (orc:=orc) (mem:=mem) hc hk hr hi (by rw[hkey];exact h);have g4':Inv (num ns) G' w' mem out.sh out.aa:=by rw[hkey]at g4;exact g4
 unfold Oper.wp;rw[g1];rcases g2 with rfl|⟨rfl,rfl⟩
 ·exact hn v w' G' g3 g4' g5 g6
 ·exact hn undef w' G' g3 g4' g5 g6
theorem EC{F:Fence}{n:Nat}{ops:Array Oper}{Q:Exit→Act→World→Prop}{rest:List Oper}{o:Oper}{t el ty:TypeId}{a:Act}{w:World}{base:Option Addr}{len cap:Nat}(hF:∀f,F.fn f)
   (ho:o.op=.binOp .eql t (.tmp 3) (.const (.slice none 0 0)) ty) (hg:o.guard=none) (hu:P.underlying t=some (.slice el)) (h3:a.tmps[3]?=some (.slice base len cap))
   (h:wpListIn F n P ops Q rest (a.put o.dst (.bool base.isNone)) w):wpListIn F n P ops Q (o::rest) a w:=by
 unfold wpListIn;have hw:Region.wanted o (yielded ops a.tmps)=true:=by simp[Region.wanted,hg]
 rw[if_pos hw];refine⟨fun _ _=>hF _,?_⟩;rw[Oper.semAt_eq _ _ _ (by intro c e;rw[ho]at e;cases e)];have e3:a.eval (.tmp 3)=.slice base len cap:=by simp[Act.eval,h3]
 have ec:a.eval (.const (.slice none 0 0))=.slice none 0 0:=rfl
 have he:(Op.equal t (.slice base len cap) (.slice none 0 0)).run P w=.ok base.isNone w:=by
   have h:∀d:Nat,(Op.equalIn (d+1) t (.slice base len cap) (.slice none 0 0)).run P w=.ok base.isNone w:=fun d=>by
     cases base<;>simp[Op.equalIn,run_underlying hu]
   exact h 9999
 have hr:(execOp a.eval o).run P w=.ok (.value (.bool base.isNone)) w:=by
   obtain⟨dst,op,type,pos,after,guard⟩:=o;simp only at ho;subst ho;simp only[execOp,e3,ec];simp[eqGuard,binOp,he]
 rw[hr];exact h
theorem Bk{f sz bytes:Nat}(D:iJ P ns f sz bytes):J8 P ns f sz bytes:=by
 intro oc G w mem sh sh' aa toks' x y v hi hx hap;refine callsIn_wide (n:=0).1 ?_;refine callsIn_of_wp D.hf D.ui trivial ?_ rfl;rw[D.hN];have hF:∀f,Fence.wide.fn f:=fun _=>trivial
 let orc:d9:={ p:=fun _ _=>none,i:=fun _ _ _ _=>none }
 have fin:∀(a:Act) (w':World) (u:Value) (G':Gh),a.defers=[]→a.tmps[2]?=some u→aB (num ns) G' y u→Inv (num ns) G' w' mem sh' toks'→G.le G'→bK G w G' w' →
     a.defers=[]∧∃v,(results D.fn a.tmps).run P w'=.ok v w'∧∃u G',Ending.returned v=.returned u∧aB (num ns) G' y u∧Inv (num ns) G' w' mem sh' toks'∧G.le G'∧bK G w G' w':=by
   intro a w' u G' hd h2 r1 r2 r3 r4;refine⟨hd,u,?_,u,G',rfl,r1,r2,r3,r4⟩;simp[results,D.ie,h2]
 obtain⟨els,hels⟩:∃els,cJ x=some els:=by
   cases hq:cJ x with
   |none=>cases oc<;>simp[fR,bS,hq]at hap
   |some els=>exact⟨els,rfl⟩
 obtain⟨base,cap,rfl⟩:=jO hels hx;refine wpIn_seq (wpIn_region_list ?_);refine gE hF D.h0.1 D.h0.2.2 ?_;rw[D.h0.2.1];simp only[wpListIn];refine wpIn_seq (wpIn_seq (wpIn_region_list ?_));refine wz hF D.h1.1 D.h1.2.2 ?_;rw[D.h1.2.1];refine EC (base:=base) (len:=els.length) (cap:=cap) hF D.h2.1 D.h2.2.2 D.hu (by simp[Act.put,Act.eval]) ?_;rw[D.h2.2.1];simp only[wpListIn];cases base with
 |none=>
   refine wpIn_cond_true (by simp[Act.put,Act.eval]) ?_;refine wpIn_seq (wpIn_region_list ?_);refine gE hF D.h3.1 D.h3.2.2 ?_;rw[D.h3.2.1];simp only[wpListIn];refine wpIn_ret ?_
   have hn:els=[]:=by
     have:=eo hels hx;obtain⟨b,l,c,e,_,e2⟩:=cd.1 this;cases e;rcases e2.2 with h|⟨_,_,_,h,_⟩
     ·exact h
     ·cases h
   subst hn
   obtain⟨rfl,rfl,rfl⟩:AV.dH []=y∧sh=sh'∧aa=toks':=by
     cases oc with
     |none=>simpa[fR,bS,hels,bf] using hap
     |some ag=>simpa[fR,rY,hels,bf] using hap
   exact fin _ _ (.slice none 0 0) G (by simp[Act.put]) (by simp[Act.put,Act.eval]) (by simp only[aB];exact⟨none,0,rfl,rfl,.inl rfl⟩) hi G.le_refl (bK.refl G w)
 |some ad=>
   refine wpIn_cond_false (by simp[Act.put,Act.eval]) (wpIn_skip ?_);refine wpIn_seq (wpIn_region_list ?_);refine oq (orc:=orc) (out:=⟨.dH [],none,sh,aa⟩) D.h4.2.2 D.h4.1 rfl rfl (vals:=[]) (by simp[aw]) hi (by rfl) fun v1 w1 G1 q1 q2 q3 q4=>?_;rw[D.h4.2.1];refine wz hF D.h5.1 D.h5.2.2 ?_;rw[D.h5.2.1];cases oc with
   |none=>
     simp only[fR,Option.map_eq_some_iff,Prod.mk.injEq]at hap;obtain⟨⟨y',ts'⟩,hap,rfl,rfl,rfl⟩:=hap;refine oq (orc:=orc) (out:=⟨y',none,sh,ts'⟩) D.h6.2.2 D.h6.1 rfl rfl (vals:=[.dH [],x]) (mem:=mem) (sh:=sh) (aa:=aa) ?_ q2 (by simp only[exec,hap,Option.map_some]) fun v2 w2 G2 p1 p2 p3 p4=>?_
     · simp only[List.map_cons,List.map_nil,aw];refine⟨_,_,rfl,?_,_,_,rfl,?_,rfl⟩
       ·simpa[Act.put,Act.eval] using q1
       ·simpa[Act.put,Act.eval] using hx.mono q3
     rw[D.h6.2.1];refine gE hF D.h7.1 D.h7.2.2 ?_;rw[D.h7.2.1];simp only[wpListIn];refine wpIn_ret ?_;exact fin _ _ v2 G2 (by simp[Act.put]) (by simp[Act.put,Act.eval]) p1 p2 (Gh.le_trans q3 p3) (q4.trans p4)
   |some ag=>
     simp only[fR,hels]at hap;rw[Option.ite_none_right_eq_some]at hap;obtain⟨hhd,hap⟩:=hap;simp only[Option.map_eq_some_iff,Prod.mk.injEq]at hap;obtain⟨⟨y',sh1⟩,hap,rfl,rfl,rfl⟩:=hap
     obtain⟨y2,hap2,hsame⟩:∃y2,rY sz bytes D.ag (.dH []) els sh=some (y2,sh1)∧∀G' u,aB (num ns) G' y2 u→aB (num ns) G' y' u:=by
       unfold rY at hap⊢;split at hap
       ·rename_i h0;rw[if_pos h0];cases hap;exact⟨_,rfl,fun _ _ h=>h⟩
       ·rename_i h0;rw[if_neg h0];simp only[Option.ite_none_right_eq_some,Option.some.injEq,Prod.mk.injEq]at hap;obtain⟨h1,rfl,rfl⟩:=hap;rw[if_pos h1];exact⟨_,rfl,fun _ _ h=>by simpa only[aB] using h⟩
     refine oq (orc:=orc) (out:=⟨y2,none,sh1,aa⟩) D.h6.2.2 D.h8 rfl rfl (vals:=[.dH [],x]) (mem:=mem) (sh:=sh) (aa:=aa) ?_ q2 (by simp only[exec,hels,hhd,if_true,rZ,hap2,Option.map_some]) fun v2 w2 G2 p1 p2 p3 p4=>?_
     · simp only[List.map_cons,List.map_nil,aw];refine⟨_,_,rfl,?_,_,_,rfl,?_,rfl⟩
       ·simpa[Act.put,Act.eval] using q1
       ·simpa[Act.put,Act.eval] using hx.mono q3
     rw[D.h6.2.1];refine gE hF D.h7.1 D.h7.2.2 ?_;rw[D.h7.2.1];simp only[wpListIn];refine wpIn_ret ?_;exact fin _ _ v2 G2 (by simp[Act.put]) (by simp[Act.put,Act.eval]) (hsame _ _ p1) p2 (Gh.le_trans q3 p3) (q4.trans p4)
end
end Go.Ab
namespace Go.Ab
section
variable {n0:Nat} {P:Program} {ns:Names} {ro:Option Nat}
theorem rN{c:Code}{Q:Exit→Act→World→Prop}{f:St→Option (bg×St)}{pre:St→St}{N:Nat}
   (hpre:∀{st:St} {G:Gh} {a:Act} {w:World},gV (num ns) n0 N G st a w→∃G',gV (num ns) n0 N G' (pre st) a w∧bK G w G' w)
   (hf:∀{st st':St} {e:bg} {G:Gh} {a:Act} {w:World} {Q:Exit→Act→World→Prop},f st=some (e,st')→gV (num ns) n0 N G st a w →
     (∀G' a' w',gV (num ns) n0 N G' st' a' w'→bK G w G' w'→Q (qu e) a' w')→c.wpIn (vz ro) 0 P Q a w) :
   ∀(n:Nat) {st st':St} {e:bg} {G:Gh} {a:Act} {w:World},fo f pre n st=some (e,st')→gV (num ns) n0 N G st a w →
     (∀G' a' w',gV (num ns) n0 N G' st' a' w'→bK G w G' w'→Q (qu e) a' w')→Code.roundsIn (vz ro) 0 P c Q n a w
 |0,st,st',e,G,a,w,h,_,_=>by simp[fo]at h
 |n+1,st,st',e,G,a,w,h,hs,hq=>by
   rw[roundsIn_succ];obtain⟨G0,hs0,he0⟩:=hpre hs;simp only[fo]at h;split at h
   ·rename_i st1 h1;refine hf h1 hs0 fun G' a' w' hs' he'=>?_;exact rN hpre hf n h hs' fun G'' a'' w'' hs'' he''=>hq G'' a'' w'' hs'' ((he0.trans he').trans he'')
   · rename_i r hr
     have hne:e≠.normal:=by
       rintro rfl
       exact hr st' h
     refine hf h hs0 fun G' a' w' hs' he'=>?_;have:=hq G' a' w' hs' (he0.trans he')
     cases e with
     |normal=>exact absurd rfl hne
     |ret=>exact this
     |exit id=>exact this
theorem ED{N:Nat}{v:AV}{st:St}{G:Gh}{a:Act}{w:World}(h:gV (num ns) n0 N G st a w):∃G',gV (num ns) n0 N G' (Ct v st) a w∧bK G w G' w:=by
 unfold Ct;split
 · rename_i st' d;split
   · rename_i cs hcs;split
     · rename_i ps hps;obtain⟨G1,k1,k2,k3,k4,k5⟩:=Inv.kill ([.agg cs].flatMap eB) h.inv;obtain⟨b,e1,⟨e2,c,t,e3,e4⟩,e5⟩:=h.inv.cT d cs hcs;obtain⟨b',f1,⟨f2,c',t',f3,f4⟩,f5⟩:=k1.cT d cs hcs;have hb:b=b':=by have:=k2.pm d b e1;rw[f1]at this;simpa using this.symm
       subst hb;have hcc:c=c':=by rw[e3]at f3;cases f3;rfl
       subst hcc;have hrl:dL G1.K ps c.toList:=kX k2 k4 h.inv.tJ (fun s hs=>by simpa using hs) hps e4
       have hlf:(ps.map AV.pv).all aT=true:=by
         rw[List.all_eq_true];intro x hx;rw[List.mem_map]at hx;obtain⟨p,hp,rfl⟩:=hx;have:=kB hrl p hp;cases p<;>first|rfl|simp[de]at this
       refine⟨G1,⟨⟨h.env.size,fun t' x hx=>?_⟩,?_,h.marks.q_ k3 rfl⟩,k3⟩
       ·obtain⟨u',g1,g2⟩:=h.env.env t' x hx;exact⟨u',g1,g2.mono k2⟩
       · refine⟨k1.known,k1.aZ,k1.fresh,?_,?_,k1.dq,k1.eF,k1.dh,k1.e_,k1.kz⟩
         · intro d' cs' hd';by_cases hdd:d=d'
           ·subst hdd;rw[bu]at hd';cases hd';exact⟨b,f1,⟨f2,c,t',f3,iD hrl⟩,hlf⟩
           ·rw[bL _ _ _ _ hdd]at hd';exact k1.cT d' cs' hd'
         · intro d' b' hd';by_cases hdd:d=d'
           ·subst hdd;rw[bu];rfl
           ·rw[bL _ _ _ _ hdd];exact k1.gM d' b' hd'
     ·exact⟨G,h,bK.refl G w⟩
   ·exact⟨G,h,bK.refl G w⟩
 ·exact⟨G,h,bK.refl G w⟩
theorem jD{N:Nat}:∀{ts:List Nat} {st:St} {G:Gh} {a:Act} {w:World},gV (num ns) n0 N G st a w→∃G',gV (num ns) n0 N G' (nB ts st) a w∧bK G w G' w
 |[],st,G,a,w,h=>⟨G,h,bK.refl G w⟩
 |t::r,st,G,a,w,h=>by
   simp only[nB];split
   · rename_i v hv;split
     · rename_i p hp;obtain⟨G1,k1,k2,k3,k4,k5⟩:=Inv.kill ([v].flatMap eB) h.inv;obtain⟨u,hu,hr⟩:=h.env.env t v hv;have hrel:Rel G1.K p u:=tI k2 k4 h.inv.tJ (fun s hs=>by simpa using hs) hp hr
       have h1:gV (num ns) n0 N G1 { st with env:=cX st.env t (.pv p),sh:=cA st.sh [v] } a w:=by
         refine⟨⟨h.env.size,fun t' x hx=>?_⟩,k1,h.marks.q_ k3 rfl⟩;by_cases ht:t'=t
         ·subst ht;rw[Ev.mZ,if_pos rfl]at hx;cases hx;exact⟨u,hu,by simpa only[aB] using hrel⟩
         ·rw[Ev.mZ,if_neg ht]at hx;obtain⟨u',f1,f2⟩:=h.env.env t' x hx;exact⟨u',f1,f2.mono k2⟩
       obtain⟨G2,h2,he⟩:=jD (ts:=r) h1;exact⟨G2,h2,k3.trans he⟩
     ·obtain⟨G1,h1,e1⟩:=ED (v:=v) h;obtain⟨G2,h2,e2⟩:=jD (ts:=r) h1;exact⟨G2,h2,e1.trans e2⟩
   ·exact jD h
theorem m7{α:Type}{d:Nat}:∀{l:List (Nat×α)} {t:Nat},look (sa d l) t=if t=d then none else look l t
 |[],t=>by simp[sa,look]
 |(k,v)::r,t=>by
   simp only[sa];by_cases hk:k=d
   · rw[if_pos hk,m7];by_cases ht:t=d
     ·rw[if_pos ht,if_pos ht]
     ·rw[if_neg ht,if_neg ht];simp only[look];rw[if_neg (by rintro rfl;exact ht hk)]
   · rw[if_neg hk];simp only[look];by_cases hkt:k=t
     ·subst hkt;rw[if_pos rfl,if_neg hk,if_pos rfl]
     ·rw[if_neg hkt,if_neg hkt,m7]
theorem qv{d s sz n:Nat}{ag:Bool}{env:List (Nat×AV)}:∀{l:List Nat} {t:Nat} {x:AV},look (r_ d s sz n ag env l) t=some x →
   ∃y,look env t=some y∧zk d s sz n ag y=some x
 |[],t,x,h=>by simp[r_,look]at h
 |k::r,t,x,h=>by
   simp only[r_]at h;split at h
   · rename_i v hv;simp only[look]at h;split at h
     ·rename_i e;subst e;cases h;rw[Option.bind_eq_some_iff]at hv;exact hv
     ·exact qv h
   ·exact qv h
def Gh.lN(G:Gh)(d b s n:Nat):Gh:=
 { G with role:=fun x=>if x=b then .shr s else G.role x,pm:=fun x=>if x=d then none else G.pm x,sm:=fun x=>if x=s then some (b,n) else G.sm x }
theorem Bl{ρ:bQ}{G:Gh}{d b s n:Nat}(hs:G.sm s=none){x:AV}{v:Value}(hf:jL x=true)(h:aB ρ G x v):aB ρ (G.lN d b s n) x v:=by
 refine v9 (G':=G.lN d b s n) (bl.le_refl G.K) (fun s' b' e=>?_) (fun _ _ e=>e) hf h;simp only[Gh.lN];rw[if_neg (by rintro rfl;rw[hs]at e;cases e)];exact e
theorem Bm{x:AV}(h:aT x=true):jL x=true:=by
 rcases nY h with hf|⟨l,τ,rfl⟩
 · cases x with
   |own l τ=>rfl
   |_=>simpa[jL] using hf
 ·rfl
theorem pA:∀{xs:List AV},xs.all aT=true→fM xs=true
 |[],_=>rfl
 |x::xs,h=>by
   simp only[List.all_cons,Bool.and_eq_true]at h;simp only[fM,Bool.and_eq_true];exact⟨Bm h.1,pA h.2⟩
theorem qw{ρ:bQ}{G:Gh}{d b s n:Nat}(hs:G.sm s=none){xs:List AV}{vs:List Value}(hf:xs.all aT=true)(h:aw ρ G xs vs):aw ρ (G.lN d b s n) xs vs:=by
 refine jy (G':=G.lN d b s n) (bl.le_refl G.K) (fun s' b' e=>?_) (fun _ _ e=>e) (pA hf) h;simp only[Gh.lN];rw[if_neg (by rintro rfl;rw[hs]at e;cases e)];exact e
theorem EE{N d sz:Nat}{ag:Bool}{st:St}{G:Gh}{a:Act}{w:World}(h:gV (num ns) n0 N G st a w):∃G',gV (num ns) n0 N G' (Gx d sz ag st) a w∧bK G w G' w:=by
 unfold Gx;split
 · rename_i cells hcs;split
   · rename_i hok;obtain⟨hlf,hrf⟩:=hok;obtain⟨b,e1,⟨e2,c,t,e3,e4⟩,e5⟩:=h.inv.cT d cells hcs
     have hsm:G.sm st.sh.length=none:=by
       cases hx:G.sm st.sh.length with
       |none=>rfl
       |some b'=>have:=h.inv.eF _ _ hx;omega
     have hcl:c.size=cells.length:=by have:=e4.length;simpa using this
     have hbs:b<w.heap.size:=(Array.getElem?_eq_some_iff.1 e3).1
     have hevo:bK G w (G.lN d b st.sh.length cells.length) w:=
       { size:=Nat.le_refl _,os:=rfl,tape:=rfl,output:=rfl,K:=bl.le_refl G.K
         sm:=fun s' b' e=>by
           simp only[Gh.lN];rw[if_neg (by rintro rfl;rw[hsm]at e;cases e)];exact e
         ez:=fun b' _ hr=>⟨by
           simp only[Gh.lN];rw[if_neg (by rintro rfl;rw[e2]at hr;cases hr)];exact hr,rfl⟩
         iQ:=fun b' τ _ hr=>.inr ⟨τ,by
           simp only[Gh.lN];rw[if_neg (by rintro rfl;rw[e2]at hr;cases hr)];exact hr⟩
         gN:=fun _ _ _ _ _ hk=>hk }
     have hrole:∀b' r,G.role b'=r→r≠.lO d→(G.lN d b st.sh.length cells.length).role b'=r:=by
       intro b' r hr hn;simp only[Gh.lN];rw[if_neg (by rintro rfl;rw[e2]at hr;exact hn hr.symm)];exact hr
     refine⟨G.lN d b st.sh.length cells.length,⟨⟨h.env.size,fun t' x hx=>?_⟩,?_,h.marks.q_ hevo rfl⟩,hevo⟩
     · obtain⟨y,hy,hv⟩:=qv hx;obtain⟨u,g1,g2⟩:=h.env.env t' y hy;refine⟨u,g1,?_⟩
       have aU:d8 [] y=true→x=y→aB (num ns) (G.lN d b st.sh.length cells.length) x u:=by
         rintro hk rfl
         cases x with
         |own l τ=>exact Bl hsm rfl g2
         |agg cs=>
           simp only[aB]at g2⊢;obtain⟨vs,q1,q2⟩:=g2;refine⟨vs,q1,jy (G':=G.lN d b st.sh.length cells.length) (bl.le_refl G.K) (fun s' b' e=>hevo.sm s' b' e) (fun _ _ e=>e) (by simpa[d8] using hk) q2⟩
         |az _ _=>simp[d8]at hk
         |jH _ _=>simp[d8]at hk
         |_=>exact Bl hsm (by simpa[jL,d8] using hk) g2
       unfold zk at hv;split at hv
       · rename_i d' o;simp only[aB]at g2;obtain⟨b',q1,q2⟩:=g2;simp only[Option.some.injEq]at hv;split at hv
         ·rename_i hd;subst hd hv;rw[e1]at q1;cases q1;simp only[aB];exact⟨(b,cells.length),by simp[Gh.lN],q2⟩
         ·rename_i hd;subst hv;simp only[aB];exact⟨b',by simp only[Gh.lN];rw[if_neg hd];exact q1,q2⟩
       · rename_i d' m;simp only[aB]at g2;obtain⟨b',q1,q2⟩:=g2;split at hv
         ·rename_i hd;subst hd;simp only[Option.ite_none_right_eq_some,Option.some.injEq]at hv;obtain⟨hm,rfl⟩:=hv;rw[e1]at q1;cases q1;simp only[aB];exact⟨(b,cells.length),0,by simp[Gh.lN],q2,hm⟩
         ·rename_i hd;simp only[Option.some.injEq]at hv;subst hv;simp only[aB];exact⟨b',by simp only[Gh.lN];rw[if_neg hd];exact q1,q2⟩
       ·simp only[Option.ite_none_right_eq_some,Option.some.injEq]at hv;exact aU hv.1 hv.2.symm
     · have hi:=h.inv;refine⟨hi.known,?_,?_,?_,?_,?_,?_,?_,?_,hi.ic hevo⟩
       · intro b' o v hk;rcases hi.aZ b' o v hk with hr|⟨τ,hr⟩
         ·exact .inl (hrole _ _ hr (by simp))
         ·exact .inr ⟨τ,hrole _ _ hr (by simp)⟩
       ·intro b' hb';exact hrole _ _ (hi.fresh b' hb') (by simp)
       · intro d' cs' hd';rw[m7]at hd';split at hd'
         ·cases hd'
         ·rename_i hdd;obtain⟨b',f1,⟨f2,c',t',f3,f4⟩,f5⟩:=hi.cT d' cs' hd';exact⟨b',by simp only[Gh.lN];rw[if_neg hdd];exact f1,⟨hrole _ _ f2 (by simpa using hdd),c',t',f3,qw hsm f5 f4⟩,f5⟩
       · intro d' b' hd';simp only[Gh.lN]at hd';split at hd'
         ·cases hd'
         ·rename_i hdd;rw[m7,if_neg hdd];exact hi.gM d' b' hd'
       · intro s' cs' hs';rw[List.getElem?_append]at hs';split at hs'
         ·rename_i hlt;obtain⟨b',f1,⟨f2,o,f3,f4⟩,f5,f6⟩:=hi.dq s' cs' hs';refine⟨b',hevo.sm _ _ f1,⟨hrole _ _ f2 (by simp),o,f3,f4.to (bl.le_refl G.K) (fun _ e=>e) (fun vs r=>qw hsm (jb f5) r)⟩,f5,f6⟩
         · rename_i hlt
           have hs0:s'=st.sh.length:=by
             have:=(List.getElem?_eq_some_iff.1 hs').1;simp at this;omega
           subst hs0;simp at hs';subst hs';refine⟨(b,cells.length),by simp[Gh.lN],⟨by simp[Gh.lN],_,e3,?_⟩,hlf,hrf⟩;have:=Holds.full (t:=t) (qw (d:=d) (b:=b) (n:=cells.length) hsm (jb hlf) e4)
           rwa [hcl]at this
       · intro s' b' hs';simp only[Gh.lN]at hs';simp only[List.length_append,List.length_cons,List.length_nil];split at hs'
         ·omega
         ·have:=hi.eF s' b' hs';omega
       ·intro τ n hn;obtain⟨t',f1,f2,f3⟩:=hi.dh τ n hn;refine⟨t',f1,f2,f3.cap,f3.zero,fun hsp=>?_⟩;obtain⟨b',o,c',ty,q1,q2,q3⟩:=f3.spare hsp;exact⟨b',o,c',ty,q1,hrole _ _ q2 (by simp),q3⟩
       ·exact hi.e_
   ·exact⟨G,h,bK.refl G w⟩
 ·exact⟨G,h,bK.refl G w⟩
theorem ot{N:Nat}:∀{ps:List (Nat×Nat×Bool)} {st:St} {G:Gh} {a:Act} {w:World},gV (num ns) n0 N G st a w→∃G',gV (num ns) n0 N G' (xu ps st) a w∧bK G w G' w
 |[],st,G,a,w,h=>⟨G,h,bK.refl G w⟩
 |(d,sz,ag)::r,st,G,a,w,h=>by
   obtain⟨G1,h1,e1⟩:=EE (d:=d) (sz:=sz) (ag:=ag) h;obtain⟨G2,h2,e2⟩:=ot (ps:=r) h1;exact⟨G2,h2,e1.trans e2⟩
theorem m9{b b':Nat}:∀{ts:List Nat} {env:List (Nat×AV)} {t:Nat} {x:AV},look (nC b b' ts env) t=some x→look env t=some x∨∃z n ag,look env t=some (.aP b z n ag)∧x=.aP b' z n ag
 |[],env,t,x,h=>.inl h
 |u::r,env,t,x,h=>by
   simp only[nC]at h;split at h
   · rename_i s z n ag hu;split at h
     · rename_i hs;subst hs;rcases m9 h with h1|⟨z',n',ag',h1,h2⟩
       · by_cases hut:u=t
         ·subst hut;rw[bu]at h1;cases h1;exact .inr ⟨z,n,ag,hu,rfl⟩
         ·rw[bL _ _ _ _ hut]at h1;exact .inl h1
       · by_cases hut:u=t
         ·subst hut;rw[bu]at h1;cases h1;exact .inr ⟨z,n,ag,hu,h2⟩
         ·rw[bL _ _ _ _ hut]at h1;exact .inr ⟨z',n',ag',h1,h2⟩
     ·exact m9 h
   ·exact m9 h
theorem EF{N:Nat}{ts:List Nat}{st:St}{G:Gh}{a:Act}{w:World}(h:gV (num ns) n0 N G st a w):∃G',gV (num ns) n0 N G' (Cu ts st) a w∧bK G w G' w:=by
 unfold Cu;split
 ·exact⟨G,h,bK.refl G w⟩
 · rename_i t r;split
   · rename_i b z n ag hb;split
     · rename_i cells hcs;split
       · obtain⟨blk,e1,_⟩:=h.inv.dq b cells hcs;obtain⟨g1,g2,g3⟩:=h.inv.iF hcs e1;refine⟨_,⟨⟨h.env.size,fun t' x hx=>?_⟩,g1,h.marks.q_ g3 rfl⟩,g3⟩;rcases m9 hx with h1|⟨z',n',ag',h1,rfl⟩
         ·obtain⟨v,q1,q2⟩:=h.env.env t' x h1;exact⟨v,q1,q2.mono g2⟩
         ·obtain⟨v,q1,q2⟩:=h.env.env t' _ h1;refine⟨v,q1,?_⟩;simp only[aB]at q2⊢;obtain⟨b',cap,f1,f2,f3⟩:=q2;rw[e1]at f1;cases f1;exact⟨blk,cap,by simp[Gh.iF],f2,f3⟩
       ·exact⟨G,h,bK.refl G w⟩
     ·exact⟨G,h,bK.refl G w⟩
   ·exact⟨G,h,bK.refl G w⟩
theorem Bn:∀{ks:List Nat} {sh:Sh} {b:Nat},b∉ks→(kill sh ks)[b]?=sh[b]?
 |[],_,_,_=>rfl
 |k::ks,sh,b,h=>by
   simp only[List.mem_cons,not_or]at h;have hk:kill sh (k::ks)=kill (sh.set k none) ks:=rfl;rw[hk,Bn h.2,List.getElem?_set,if_neg (fun e=>h.1 e.symm)]
theorem im{N:Nat}:∀{ts:List Nat} {st:St} {G:Gh} {a:Act} {w:World},gV (num ns) n0 N G st a w→∃G',gV (num ns) n0 N G' (jn ts st) a w∧bK G w G' w
 |[],st,G,a,w,h=>⟨G,h,bK.refl G w⟩
 |t::r,st,G,a,w,h=>by
   simp only[jn];split
   · rename_i b z n ag hb;split
     · rename_i cells hcs;split
       · rename_i hok;obtain⟨hmb,hself⟩:=hok;split
         · rename_i ps hps;obtain⟨G1,k1,k2,k3,k4,k5⟩:=Inv.kill ([.agg cells].flatMap eB) h.inv;obtain⟨blk,e1,e2,e3,e4⟩:=h.inv.dq b cells hcs;obtain⟨hr,c,ty,vs,suf,hh,hcz,hsp,hrel⟩:=e2.cells hmb
           have hnb:b∉[AV.agg cells].flatMap eB:=by
             have:¬(eB (.agg cells)).contains b=true:=by rw[hself];simp
             simpa using this
           have hb1:(cA st.sh [.agg cells])[b]?=some (some cells):=by
             show (kill st.sh ([AV.agg cells].flatMap eB))[b]?=_;rw[Bn hnb];exact hcs
           obtain⟨blk',f1,f2,f3,f4⟩:=k1.dq b cells hb1
           have hblk:blk'=blk:=by
             have:=k2.sm _ _ e1;rw[f1]at this;simpa using this
           subst hblk;have hrl:dL G1.K ps vs:=kX k2 k4 h.inv.tJ (fun s hs=>by simpa using hs) hps hrel
           have hlf:(ps.map AV.pv).all cN=true:=by
             rw[List.all_eq_true];intro x hx;rw[List.mem_map]at hx;obtain⟨p,hp,rfl⟩:=hx;have:=kB hrl p hp;cases p<;>first|rfl|simp[de]at this
           have h1:gV (num ns) n0 N G1 { st with sh:=(cA st.sh [.agg cells]).set b (some (ps.map .pv)) } a w:=by
             refine⟨⟨h.env.size,fun t' x hx=>?_⟩,?_,h.marks.q_ k3 rfl⟩
             ·obtain⟨u',g1,g2⟩:=h.env.env t' x hx;exact⟨u',g1,g2.mono k2⟩
             · exact { k1 with
                 dq:=fun s' cs' hs'=>by
                   rw[List.getElem?_set]at hs';split at hs'
                   · rename_i he;subst he;split at hs'
                     · cases hs'
                       exact⟨blk',f1,⟨f2.role,_,hh,.inl ⟨c,ty,vs,suf,rfl,hcz,hsp,iD hrl⟩⟩,hlf,xF _ _⟩
                     ·cases hs'
                   ·exact k1.dq s' cs' hs'
                 eF:=fun s' b' hs'=>by
                   have:=k1.eF s' b' hs';simpa using this }
           obtain⟨G2,h2,he⟩:=im (ts:=r) h1;exact⟨G2,h2,k3.trans he⟩
         ·exact im h
       ·exact im h
     ·exact im h
   ·exact im h
theorem wA{α β:Type}{f:α→Option β}:∀{l:List α} {r:List β} (k:Nat),cf f l=some r→cf f (l.take k)=some (r.take k)∧cf f (l.drop k)=some (r.drop k)
 |l,r,0,h=>by simp[cf,h]
 |[],r,k+1,h=>by simp[cf]at h;subst h;simp[cf]
 |x::l,r,k+1,h=>by
   simp only[cf]at h;split at h
   ·rename_i y ys h1 h2;cases h;obtain⟨g1,g2⟩:=wA k h2;simp only[List.take_succ_cons,List.drop_succ_cons,cf,h1,g1];exact⟨trivial,g2⟩
   ·cases h
theorem yy(hB:eU P ns){orc:d9}(horc:gD P ns orc){A:ko}{N id k:Nat}{q:Nat×List Nat×List Nat}{ops:Array Oper}{as:List dN}(hc:cf (cK P ns A N ops) ops.toList=some as){live:List Nat}{st st':St}{e:bg}{G:Gh}{a:Act}{w:World}
   (hs:gV (num ns) n0 N G st a w) (hev:cM orc k (CA (some q) as live) st=some (e,st')) {Q:Exit→Act→World→Prop}
   (hq:∀G' a' w',gV (num ns) n0 N G' st' a' w'→bK G w G' w'→Q (qu e) a' w'):(Code.region id ops false).wpIn (vz ro) 0 P Q a w:=by
 obtain⟨j,l,ts⟩:=q;simp only[CA,cM]at hev;obtain⟨g1,g2⟩:=wA j hc;cases h1:bp orc (as.take j) st with
 |none=>rw[h1]at hev;simp at hev
 |some st1=>
   rw[h1]at hev;simp only at hev;cases h2:bp orc (as.drop j) (Cu ts (Go.Ab.restrict l st1)) with
   |none=>rw[h2]at hev;simp at hev
   |some st2=>
     rw[h2]at hev;simp only[Option.some.injEq,Prod.mk.injEq]at hev;obtain⟨rfl,rfl⟩:=hev;refine wpIn_region_list ?_;rw[←List.take_append_drop j ops.toList];refine il hB horc g1 hs h1 fun G1 a1 w1 hs1 he1 _ _=>?_;obtain⟨G2,hs2,he2⟩:=EF (ts:=ts) (hs1.restrict l)
     have:=il (ro:=ro) (n:=0) (rest:=[]) (Q:=Q) hB horc g2 hs2 h2 (fun G3 a3 w3 hs3 he3 _ _=>by
       unfold wpListIn;exact hq (G3.aU live) a3 w3 (hs3.restrict live) (he1.trans ((bK.aU l).trans (he2.trans (he3.trans (bK.aU live))))))
     rwa [List.append_nil]at this
theorem lJ{live:List Nat}{env:List (Nat×AV)}:∀{ds:List (Nat×Nat)},iO (bD live env live) ds=true→iO env ds=true
 |[],_=>rfl
 |(a,b)::r,h=>by
   simp only[iO,Bool.and_eq_true]at h⊢;refine⟨?_,lJ h.2⟩;obtain⟨b1,o1,b2,o2,h1,h2,hne⟩:=wg h.1;rw[(dx h1).1,(dx h2).1];simpa[apart] using hne
theorem uj{orc:d9}{k:Nat}{as:List dN}{live:List Nat}{ds:Option (List (Nat×Nat))}{ps:Option (List (Nat×Nat×Bool))}{st st':St}{e:bg}
   (h:cM orc k (behind ds ps (.iN as live)) st=some (e,st')) :
   ∃st1,bp orc as st=some st1∧e=.normal∧iO st1.env (ds.getD [])=true∧st'=xu (ps.getD []) (restrict live st1):=by
 have h1:∀e2 st2,cM orc k (match ds with|some ds=>aq.seq (.iN as live) (.PU ds)|none=>.iN as live) st=some (e2,st2) →
     ∃st1,bp orc as st=some st1∧e2=.normal∧iO st1.env (ds.getD [])=true∧st2=restrict live st1:=by
   intro e2 st2 h;cases ds with
   |none=>
     simp only[cM]at h;split at h
     ·rename_i st1 h1;simp at h;obtain⟨rfl,rfl⟩:=h;exact⟨st1,h1,rfl,rfl,rfl⟩
     ·simp at h
   |some ds=>
     simp only[cM]at h;cases h1:bp orc as st with
     |none=>rw[h1]at h;simp at h
     |some st1=>
       rw[h1]at h;simp only[Option.ite_none_right_eq_some,Option.some.injEq,Prod.mk.injEq]at h;obtain⟨h2,rfl,rfl⟩:=h;exact⟨st1,rfl,rfl,lJ h2,rfl⟩
 unfold behind at h;cases ps with
 |none=>
   obtain⟨st1,g1,g2,g3,g4⟩:=h1 e st' h;exact⟨st1,g1,g2,g3,g4⟩
 |some ps=>
   simp only[cM]at h;split at h
   ·rename_i st2 h2;simp at h;obtain⟨st1,g1,g2,g3,rfl⟩:=h1 _ _ h2;exact⟨st1,g1,h.1.symm,g3,h.2.symm⟩
   ·rename_i r hr;obtain⟨st1,g1,rfl,g3,g4⟩:=h1 e st' h;exact absurd h (hr st')
def sI(_:Program)(_:Names):Prop:=True
theorem jf(hm:P.follows .mixedOrders=true)(hB:eU P ns){orc:d9}(horc:gD P ns orc)(hBk:sI P ns){A:ko}{N k:Nat}:∀{c:Code} {ac:aq},gi P ns A N c=some ac →
   ∀{n0:Nat} {ro:Option Nat},(ro=none∨ac.fY=true)→∀{st st':St} {e:bg} {G:Gh} {a:Act} {w:World} {Q:Exit→Act→World→Prop},cM orc k ac st=some (e,st')→gV (num ns) n0 N G st a w →
     (∀G' a' w',gV (num ns) n0 N G' st' a' w'→bK G w G' w'→Q (qu e) a' w')→c.wpIn (vz ro) 0 P Q a w
 | .skip,ac,hc,n0,ro,hro,st,st',e,G,a,w,Q,hev,hs,hq=>by
   simp[gi]at hc;subst hc;simp[cM]at hev;obtain⟨rfl,rfl⟩:=hev;exact wpIn_skip (hq G a w hs (bK.refl G w))
 | .region id ops draw,ac,hc,n0,ro,hro,st,st',e,G,a,w,Q,hev,hs,hq=>by
   simp only[gi]at hc;split at hc
   · rename_i as has
     have key:∀o ds ps live,ac=jM o (behind ds ps (.iN as live))→(draw=true→xx (ds.getD []) ops.toList as=true)→(Code.region id ops draw).wpIn (vz ro) 0 P Q a w:=by
       rintro o ds ps live rfl hd
       have main:∀{st:St} {G1:Gh},cM orc k (behind ds ps (.iN as live)) st=some (e,st')→gV (num ns) n0 N G1 st a w→bK G w G1 w→(Code.region id ops draw).wpIn (vz ro) 0 P Q a w:=by
         intro st G1 hev hs he1;obtain⟨st1,h1,rfl,h3,rfl⟩:=uj hev;refine wi hm hB horc has hd hs h1 h3 fun G' a' w' hs' he'=>?_;obtain⟨G2,h4,h5⟩:=ot (ps:=ps.getD []) (hs'.restrict live);exact hq G2 a' w' h4 (he1.trans (he'.trans ((bK.aU live).trans h5)))
       cases o with
       |none=>exact main hev hs (bK.refl G w)
       |some ts=>
         simp only[jM,cM]at hev;obtain⟨G2,h2,he2⟩:=jD (ts:=ts) hs;exact main hev h2 he2
     have ahead:∀o1 o2 c,ac=sv o1 (jM o2 c)→(∀{st:St} {G1:Gh},cM orc k c st=some (e,st')→gV (num ns) n0 N G1 st a w→bK G w G1 w→(Code.region id ops draw).wpIn (vz ro) 0 P Q a w)→(Code.region id ops draw).wpIn (vz ro) 0 P Q a w:=by
       rintro o1 o2 c rfl hm
       have h2:∀{st:St} {G1:Gh},cM orc k (jM o2 c) st=some (e,st')→gV (num ns) n0 N G1 st a w→bK G w G1 w→(Code.region id ops draw).wpIn (vz ro) 0 P Q a w:=by
         intro st G1 hev hs he1;cases o2 with
         |none=>exact hm hev hs he1
         |some ts=>
           simp only[jM,cM]at hev;obtain⟨G2,h2,he2⟩:=jD (ts:=ts) hs;exact hm hev h2 (he1.trans he2)
       cases o1 with
       |none=>exact h2 hev hs (bK.refl G w)
       |some ts=>
         simp only[sv,cM]at hev;obtain⟨G2,h3,he2⟩:=im (ts:=ts) hs;exact h2 hev h3 he2
     split at hc
     · rename_i hdr;split at hc
       ·rename_i hok;simp at hc;exact key _ _ _ _ hc.symm (fun _=>hok)
       ·simp at hc
     · rename_i hdr;have hdr':draw=false:=by simpa using hdr
       subst hdr';split at hc
       ·rename_i q hq';simp only[Option.some.injEq]at hc;exact ahead _ _ _ hc.symm fun hev hs he1=>yy hB horc has hs hev fun G' a' w' h1 h2=>hq G' a' w' h1 (he1.trans h2)
       ·simp only[Option.some.injEq]at hc;refine ahead _ _ _ hc.symm fun hev hs he1=>?_;obtain⟨st1,h1,rfl,h3,rfl⟩:=uj hev;refine wi hm hB horc has (fun h=>absurd h hdr) hs h1 h3 fun G' a' w' hs' he'=>?_;obtain⟨G2,h4,h5⟩:=ot (ps:=(look A.lN id).getD []) (hs'.restrict ((look A.live id).getD []));exact hq G2 a' w' h4 (he1.trans (he'.trans ((bK.aU _).trans h5)))
   ·simp at hc
 | .seq x y,ac,hc,n0,ro,hro,st,st',e,G,a,w,Q,hev,hs,hq=>by
   simp only[gi]at hc;split at hc
   · rename_i ax ay hx hy;simp at hc;subst hc;have hrx:ro=none∨ax.fY=true:=hro.imp_right fun h=>by simp only[aq.fY,Bool.and_eq_true]at h;exact h.1
     have hry:ro=none∨ay.fY=true:=hro.imp_right fun h=>by simp only[aq.fY,Bool.and_eq_true]at h;exact h.2
     simp only[cM]at hev;refine wpIn_seq ?_;split at hev
     ·rename_i st1 h1;refine jf hm hB horc hBk hx hrx h1 hs fun G' a' w' hs' he'=>?_;exact jf hm hB horc hBk hy hry hev hs' fun G'' a'' w'' hs'' he''=>hq G'' a'' w'' hs'' (he'.trans he'')
     · rename_i r hr;refine jf hm hB horc hBk hx hrx hev hs fun G' a' w' hs' he'=>?_;have:=hq G' a' w' hs' he'
       cases e with
       |normal=>exact absurd hev (hr st')
       |ret=>exact this
       |exit id=>exact this
   ·simp at hc
 | .cond c x y,ac,hc,n0,ro,hro,st,st',e,G,a,w,Q,hev,hs,hq=>by
   simp only[gi]at hc;split at hc
   · rename_i acnd ax ay hcn hx hy;simp at hc;subst hc;have hrx:ro=none∨ax.fY=true:=hro.imp_right fun h=>by simp only[aq.fY,Bool.and_eq_true]at h;exact h.1
     have hry:ro=none∨ay.fY=true:=hro.imp_right fun h=>by simp only[aq.fY,Bool.and_eq_true]at h;exact h.2
     simp only[cM]at hev;split at hev
     · rename_i t ht;have hrel:=Fy hs.env hcn ht;simp only[aB,jq]at hrel;refine wpIn_cond hrel ?_;cases t with
       |true=>exact jf hm hB horc hBk hx hrx (by simpa using hev) hs hq
       |false=>exact jf hm hB horc hBk hy hry (by simpa using hev) hs hq
     ·simp at hev
   ·simp at hc
 | .block id b,ac,hc,n0,ro,hro,st,st',e,G,a,w,Q,hev,hs,hq=>by
   simp only[gi,Option.map_eq_some_iff]at hc;obtain⟨ab,hb,rfl⟩:=hc;have hrb:ro=none∨ab.fY=true:=hro.imp_right fun h=>by simpa only[aq.fY] using h
   refine wpIn_block ?_;simp only[cM]at hev;split at hev
   · rename_i id' st1 h1;refine jf hm hB horc hBk hb hrb h1 hs fun G' a' w' hs' he'=>?_;split at hev
     ·rename_i FA;simp at hev;obtain⟨rfl,rfl⟩:=hev;simp only[qu,Exit.inBlock,FA,if_true];exact hq G' a' w' hs' he'
     ·rename_i FA;simp at hev;obtain⟨rfl,rfl⟩:=hev;simp only[qu,Exit.inBlock,FA,if_false];exact hq G' a' w' hs' he'
   · rename_i r hr;refine jf hm hB horc hBk hb hrb hev hs fun G' a' w' hs' he'=>?_;have:=hq G' a' w' hs' he'
     cases e with
     |normal=>exact this
     |ret=>exact this
     |exit id'=>exact absurd hev (hr id' st')
 | .loop b,ac,hc,n0,ro,hro,st,st',e,G,a,w,Q,hev,hs,hq=>by
   simp only[gi,Option.map_eq_some_iff]at hc;obtain⟨ab,hb,rfl⟩:=hc;have hrb:ro=none∨ab.fY=true:=hro.imp_right fun h=>by simpa only[aq.fY] using h
   simp only[cM]at hev;refine wpIn_loop_rounds k ?_;exact rN (fun h=>h.head _) (fun h1 h2 h3=>jf hm hB horc hBk hb hrb h1 h2 h3) k hev hs hq
 | .exit id,ac,hc,n0,ro,hro,st,st',e,G,a,w,Q,hev,hs,hq=>by
   simp[gi]at hc;subst hc;simp[cM]at hev;obtain⟨rfl,rfl⟩:=hev;exact wpIn_exit (hq G a w hs (bK.refl G w))
 | .ret,ac,hc,n0,ro,hro,st,st',e,G,a,w,Q,hev,hs,hq=>by
   simp[gi]at hc;subst hc;simp[cM]at hev;obtain⟨rfl,rfl⟩:=hev;exact wpIn_ret (hq G a w hs (bK.refl G w))
 | .rangeFunc f ps x y,ac,hc,n0,ro,hro,st,st',e,G,a,w,Q,hev,hs,hq=>by simp[gi]at hc
 | .scope _,ac,hc,n0,ro,hro,st,st',e,G,a,w,Q,hev,hs,hq=>by simp[gi]at hc
 | .label _,ac,hc,n0,ro,hro,st,st',e,G,a,w,Q,hev,hs,hq=>by simp[gi]at hc
 | .goto _,ac,hc,n0,ro,hro,st,st',e,G,a,w,Q,hev,hs,hq=>by simp[gi]at hc
 | .refuse _,ac,hc,n0,ro,hro,st,st',e,G,a,w,Q,hev,hs,hq=>by simp[gi]at hc
end
end Go.Ab
