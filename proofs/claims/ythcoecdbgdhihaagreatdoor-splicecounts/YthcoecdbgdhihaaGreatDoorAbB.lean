import Derived.Test.YthcoecdbgdhihaaGreatDoorAbA
import Derived.Orders
import Derived.Tactics
import Derived.OrdersIn
import Derived.TacticsIn
import Derived.LoopNIn
import Derived.RangeFuncCalls
import Derived.RangeFuncIn
import Derived.RangeFuncRecord
import Derived.RangeFuncSeq
/-
  Shared arrays that are frozen: from then on they are known for good.
  Forgetting what is no longer wanted; tokens named anew at the head of a loop.
  Tokens named anew.
  Handing over to a callee and taking back.
  One operation of a region: what the evaluator gives is what the model does.
  A region: in the order of the text, and in whatever order the tape picks.
  A region that draws its order: whatever order is picked, the end is that of the text's order.
  Two operations that have nothing to do with one another may change places; so the order of the text serves every order.
  Operations and regions inside the fence that asks nothing, in a round of a range over a function or not.
  Without fuel: the limit of the evaluator.
  Rules for running slim code by the simplifier: each is an equation on constructors.
  Ranges over a slice backward: the iterator's contract.
  slices.Clone: its argument appended to an empty slice.
  Code and functions: what the evaluator gives is what the model does.
-/
set_option linter.unusedVariables false
set_option linter.unusedSimpArgs false
set_option linter.unnecessarySimpa false
set_option maxRecDepth 100000
set_option maxHeartbeats 8000000
namespace Go.Ab
section
variable {P:Program} {ns:Names} {G:Gh} {w:World}
def Gh.freeze(G:Gh)(b:Nat)(c:Array Value):Gh:=
 { G with K:=fun k o=>if k=b then c[o]? else G.K k o,role:=fun k=>if k=b then .eg else G.role k }
theorem Inv.freeze{mem:List (Nat×List AV)}{sh:Sh}{aa:aG}(hi:Inv (num ns) G w mem sh aa){s b:Nat}{cells:List AV}{c:Array Value}{t:TypeId}
   (hr:G.role b=.shr s) (hh:w.heap[b]?=some (.cells c t (0,0))) :
   Inv (num ns) (G.freeze b c) w mem (sh.set s none) aa∧G.le (G.freeze b c)∧bJ G w (G.freeze b c) w:=by
 have hK:G.K.le (G.freeze b c).K:=fun k o v hk=>by
   simp only[Gh.freeze];rw[if_neg]
   ·exact hk
   · rintro rfl
     rcases hi.aZ _ _ _ hk with h|⟨τ,h⟩<;>rw[hr]at h<;>simp at h
 have hle:G.le (G.freeze b c):=⟨hK,fun _ _ h=>h,fun _ _ h=>h,fun _ t h=>⟨t,h,⟨Nat.le_refl _,t.gw⟩,fun _=>rfl⟩⟩
 have hrole:∀k r,G.role k=r→r≠.shr s→(G.freeze b c).role k=r:=by
   intro k r hk hn;simp only[Gh.freeze];rw[if_neg]
   ·exact hk
   ·rintro rfl;exact hn (hk.symm.trans hr)
 have hevo:bJ G w (G.freeze b c) w:={
           size:=Nat.le_refl _,os:=rfl,tape:=rfl,output:=rfl,K:=hK,sm:=fun _ _ h=>h,
           eg:=fun k _ hk=>⟨hrole k _ hk (by simp),rfl⟩
           iD:=fun k τ _ hk=>.inr ⟨τ,hrole k _ hk (by simp)⟩
           gB:=fun k o v _ hk hkk=>by
             simp only[Gh.freeze]at hkk
             rwa [if_neg (by rintro rfl;rw[hr]at hk;simp at hk)]at hkk }
 refine⟨⟨?_,?_,?_,?_,hi.gA,?_,?_,?_,hi.eS,hi.gV hevo⟩,hle,hevo⟩
 · intro k o v hk;simp only[Gh.freeze]at hk;split at hk
   ·rename_i e;subst e;simp[World.cell?,hh,hk]
   ·exact hi.known k o v hk
 · intro k o v hk;simp only[Gh.freeze]at hk;split at hk
   ·rename_i e;subst e;left;simp[Gh.freeze]
   ·rename_i e;simp only[Gh.freeze,if_neg e];exact hi.aZ k o v hk
 · intro k hk;simp only[Gh.freeze];split
   ·rfl
   ·exact hi.fresh k hk
 ·intro d cs hd;obtain⟨b',e1,e2,e3⟩:=hi.cR d cs hd;exact⟨b',e1,e2.mono hle ((hrole b' _ e2.role (by simp)).trans e2.role.symm) rfl,e3⟩
 · intro s' cs hs';rw[List.getElem?_set]at hs';split at hs'
   ·split at hs'<;>simp at hs'
   ·rename_i hne;obtain⟨b',e1,e2,e3⟩:=hi.di s' cs hs';exact⟨b',e1,e2.mono hle ((hrole b'.1 _ e2.role (by simp;exact fun h=>hne h.symm)).trans e2.role.symm) rfl,e3⟩
 ·intro s' b' h;simpa using hi.eo s' b' h
 · intro τ n hn;obtain⟨tk,e1,e2,e3⟩:=hi.db τ n hn;refine⟨tk,e1,e2,e3.cap,e3.zero,fun hlt=>?_⟩;obtain⟨b',o,cc,ty,f1,f2,f3,f4,f5⟩:=e3.spare hlt;refine⟨b',o,cc,ty,f1,hrole b' _ f2 (by simp),f3,f4,fun j v hk=>f5 j v ?_⟩;simp only[Gh.freeze]at hk
   rwa [if_neg (by rintro rfl;rw[hr]at f2;simp at f2)]at hk
def jJ(ns:Names)(G G':Gh)(sh:Sh)(ks:List Nat):Prop:=
 ∀s∈ks,∀cells,sh[s]?=some (some cells)→bU cells=false→∃b vs,G.sm s=some b∧At G'.K b.1 0 vs∧aw (num ns) G' cells vs
theorem y7{sh:Sh}{s:Nat}(h:∀cells,sh[s]?≠some (some cells)):sh.set s none=sh:=by
 apply List.ext_getElem?
 intro j;rw[List.getElem?_set];split
 · rename_i e;subst e;split
   · rename_i hlt;cases hh:sh[s] with
     |none=>rw[List.getElem?_eq_getElem hlt,hh]
     |some cells=>exact absurd (by rw[List.getElem?_eq_getElem hlt,hh]) (h cells)
   ·rename_i hge;rw[List.getElem?_eq_none (by omega)]
 ·rfl
theorem Inv.drop{mem:List (Nat×List AV)}{sh:Sh}{aa:aG}{G:Gh}(hi:Inv (num ns) G w mem sh aa)(s:Nat):Inv (num ns) G w mem (sh.set s none) aa:=
 { hi with
   di:=fun s' cells hs=>by
     rw[List.getElem?_set]at hs;split at hs
     ·split at hs<;>simp at hs
     ·exact hi.di s' cells hs
   eo:=fun s' b h=>by simpa using hi.eo s' b h }
theorem Inv.kill{mem:List (Nat×List AV)}{aa:aG}:∀(ks:List Nat) {sh:Sh} {G:Gh},Inv (num ns) G w mem sh aa →
   ∃G',Inv (num ns) G' w mem (kill sh ks) aa∧G.le G'∧bJ G w G' w∧jJ ns G G' sh ks∧G'.sm=G.sm
 |[],sh,G,hi=>⟨G,hi,G.le_refl,bJ.refl G w,fun s h=>by simp at h,rfl⟩
 |s::ks,sh,G,hi=>by
   have hk:Go.Ab.kill sh (s::ks)=Go.Ab.kill (sh.set s none) ks:=rfl;by_cases hs:∃cells,sh[s]?=some (some cells)
   · obtain⟨cells,hs⟩:=hs;obtain⟨b,e1,e2,_⟩:=hi.di s cells hs;cases hmb:bU cells with
     |true=>
       obtain⟨G',h1,h2,h3,h4,h5⟩:=Inv.kill ks (hi.drop s);refine⟨G',by rw[hk];exact h1,h2,h3,?_,h5⟩;intro s' hs' cells' hc' hm';by_cases he:s'=s
       ·subst he;rw[hs]at hc';cases hc';rw[hmb]at hm';cases hm'
       ·simp only[List.mem_cons]at hs';exact h4 s' (hs'.resolve_left he) cells' (by rw[List.getElem?_set,if_neg (fun e=>he e.symm)];exact hc') hm'
     |false=>
     obtain⟨hr,c,t,vs,suf,hh,_,hsp,hrel⟩:=e2.cells hmb;obtain⟨g1,g2,g3⟩:=hi.freeze (cells:=cells) hr hh;obtain⟨G',h1,h2,h3,h4,h5⟩:=Inv.kill ks g1;refine⟨G',by rw[hk];exact h1,Gh.le_trans g2 h2,g3.trans h3,?_,h5⟩;intro s' hs' cells' hc' hm';by_cases he:s'=s
     · subst he;rw[hs]at hc';cases hc';refine⟨b,vs,e1,?_,aw.mono (Gh.le_trans g2 h2) hrel⟩;intro j v hj;apply h2.K;simp only[Gh.freeze,if_true,Nat.zero_add];have:c.toList[j]?=some v:=by rw[hsp,List.getElem?_append_left (List.getElem?_eq_some_iff.1 hj).1];exact hj
       simpa using this
     ·simp only[List.mem_cons]at hs';have:=h4 s' (hs'.resolve_left he) cells' (by rw[List.getElem?_set,if_neg (fun e=>he e.symm)];exact hc') hm';exact this
   · have hset:=y7 (sh:=sh) (s:=s) (fun cells h=>hs ⟨cells,h⟩);obtain⟨G',h1,h2,h3,h4,h5⟩:=Inv.kill ks hi;refine⟨G',by rw[hk,hset];exact h1,h2,h3,?_,h5⟩;intro s' hs' cells' hc' hm';simp only[List.mem_cons]at hs';rcases hs' with rfl|hs'
     ·exact absurd ⟨cells',hc'⟩ hs
     ·exact h4 s' hs' cells' hc' hm'
theorem FW{cs:List AV}{ps:List PV}(h:eh cs=some ps):bU cs=false:=by
 cases cs with
 |nil=>rfl
 |cons c cs=>cases c<;>first|rfl|simp[eh,kx]at h
theorem y8:∀{cs:List AV} {ps:List PV} {vs:List Value},eh cs=some ps→cs.all aT=true→aw (num ns) G cs vs→dF G.K ps vs
 |[],ps,vs,h,_,hr=>by simp[eh]at h;subst h;simp only[aw]at hr;simp[dF,hr]
 |c::cs,ps,vs,h,hl,hr=>by
   simp only[eh]at h;simp only[List.all_cons,Bool.and_eq_true]at hl;split at h
   ·rename_i p ps' h1 h2;simp at h;subst h;simp only[aw]at hr;obtain⟨v,r,rfl,e1,e2⟩:=hr;simp only[dF];exact⟨v,r,rfl,(oC h1 e1).Jl (pP h1 hl.1),y8 h2 hl.2 e2⟩
   ·simp at h
theorem vk{K:bl}{b sz:Nat}:∀(n:Nat) {ps:List PV} {vs:List Value} {o:Nat},dF K ps vs→ps.length=n*sz→At K b o vs→Row K b o sz ((chunk sz n ps).map .agg)
 |0,_,_,_,_,_,_=>by simp only[chunk,List.map_nil,Row]
 |n+1,ps,vs,o,hr,hl,ha=>by
   have hlv:=hr.length;rw[Nat.add_mul]at hl;simp only[chunk,List.map_cons,Row];refine⟨⟨vs.take sz,by simp;omega,?_,?_⟩,vk n (dF.drop sz hr) (by simp;omega) ?_⟩
   · intro j v hj;rw[List.getElem?_take]at hj;split at hj
     ·exact ha j v hj
     ·simp at hj
   ·simp only[R];exact⟨trivial,dF.take sz hr⟩
   · intro j v hj;rw[List.getElem?_drop]at hj;have:=ha _ v hj
     rwa [←Nat.add_assoc]at this
theorem oG{sz:Nat}:∀(n:Nat) (ps:List PV),(chunk sz n ps).length=n
 |0,_=>rfl
 |n+1,ps=>by simp[chunk,oG n]
theorem sM{K:bl}{b:Nat}:∀{ps:List PV} {vs:List Value} {o:Nat},dF K ps vs→At K b o vs→Row K b o 1 ps
 |[],_,_,_,_=>by simp only[Row]
 |p::ps,vs,o,hr,ha=>by
   simp only[dF]at hr;obtain⟨v,r,rfl,e1,e2⟩:=hr;simp only[Row];refine⟨⟨[v],rfl,?_,R.top e1⟩,sM e2 ?_⟩
   · intro j u hj;cases j with
     |zero=>simp at hj;subst hj;exact ha 0 v rfl
     |succ j=>simp at hj
   · intro j u hj;have:=ha (j+1) u (by simpa using hj)
     rwa [show o+(j+1)=o+1+j from by omega]at this
theorem Jq{l:List AV}(n:Nat)(h:l.all aT=true):(l.take n).all aT=true:=by
 rw[List.all_eq_true]at h⊢;exact fun x hx=>h x (List.mem_of_mem_take hx)
theorem oH{G':Gh}{sh:Sh}{ks:List Nat}{x:AV}{p:PV}{v:Value}(hle:G.le G')(hf:jJ ns G G' sh ks)(hl:∀(s:Nat) (cells:List AV),sh[s]?=some (some cells)→cells.all aT=true)
   (ha:∀s∈ei x,s∈ks) (hx:∀cs,x≠.agg cs) (h:dD sh x=some p) (hr:aB (num ns) G x v):Rel G'.K p v:=by
 cases x with
 |aP s sz n ag=>
   simp only[dD]at h;split at h
   · rename_i cells hc
     have key:∀ps els,eh (cells.take (n*sz))=some ps→bU cells=false→n*sz≤cells.length→dK sz ag n ps=some els→Rel G'.K (.au els) v:=by
       intro ps els h1 hmb hlen h2;obtain⟨b,vs,e1,e2,e3⟩:=hf s (ha s (by simp[ei])) cells hc hmb;simp only[aB]at hr;obtain⟨b',cap,hb,rfl,_⟩:=hr;rw[e1]at hb;cases hb;have e3':aw (num ns) G' (cells.take (n*sz)) (vs.take (n*sz)):=e3.take _
       have e2':At G'.K b.1 0 (vs.take (n*sz)):=by
         intro j u hj;rw[List.getElem?_take]at hj;split at hj
         ·exact e2 j u hj
         ·simp at hj
       have hps:=y8 h1 (Jq _ (hl s cells hc)) e3';have hpl:ps.length=n*sz:=(by rw[←hps.length,e3'.length,List.length_take];omega);unfold dK at h2;split at h2
       ·simp at h2;subst h2;refine ca.2 ⟨_,_,_,rfl,by omega,by simp[oG],.inr ⟨b.1,0,sz,rfl,vk n hps hpl e2'⟩⟩
       ·simp only[Option.ite_none_right_eq_some,Option.some.injEq]at h2;obtain⟨rfl,rfl⟩:=h2;exact ca.2 ⟨_,_,_,rfl,by omega,by omega,.inr ⟨b.1,0,1,rfl,sM hps e2'⟩⟩
     split at h
     ·rename_i hlen;simp only[Option.map_eq_some_iff,Option.bind_eq_some_iff]at h;obtain⟨els,⟨ps,h1,h2⟩,rfl⟩:=h;exact key ps els (by rw[List.take_of_length_le (by omega)];exact h1) (FW h1) (by omega) h2
     ·simp only[Option.ite_none_right_eq_some,Option.map_eq_some_iff,Option.bind_eq_some_iff]at h;obtain⟨⟨hmb,hlen⟩,els,⟨ps,h1,h2⟩,rfl⟩:=h;exact key ps els h1 hmb hlen h2
   ·simp at h
 |agg cs=>exact absurd rfl (hx cs)
 |_=>simp only[dD]at h;exact (oC h hr).mono hle.K
theorem uL{sh:Sh}{x:AV}{p:PV}(h:dD sh x=some p)(hl:aT x=true):c_ p=true:=by
 cases x with
 |aP s sz n ag=>
   simp only[dD]at h;split at h
   · split at h
     ·simp only[Option.map_eq_some_iff]at h;obtain⟨els,_,rfl⟩:=h;rfl
     ·simp only[Option.ite_none_right_eq_some,Option.map_eq_some_iff]at h;obtain⟨_,els,_,rfl⟩:=h;rfl
   ·simp at h
 |_=>simp only[dD]at h;exact pP h hl
theorem wY{x:AV}(h:aT x=true):∀cs,x≠.agg cs:=by
 rintro cs rfl;simp[aT]at h
theorem kI{G':Gh}{sh:Sh}{ks:List Nat}(hle:G.le G')(hf:jJ ns G G' sh ks)(hl:∀(s:Nat) (cells:List AV),sh[s]?=some (some cells)→cells.all aT=true) :
   ∀{cs:List AV} {ps:List PV} {vs:List Value},(∀s∈ei (.agg cs),s∈ks)→b_ sh cs=some ps→aw (num ns) G cs vs→dF G'.K ps vs
 |[],ps,vs,_,h,hr=>by simp[b_]at h;subst h;simp only[aw]at hr;simp[dF,hr]
 |c::cs,ps,vs,ha,h,hr=>by
   simp only[b_,Option.ite_none_right_eq_some]at h;obtain⟨hlf,h⟩:=h;split at h
   · rename_i p ps' h1 h2;simp at h;subst h;simp only[aw]at hr;obtain⟨v,r,rfl,e1,e2⟩:=hr;simp only[dF];refine⟨v,r,rfl,(oH hle hf hl ?_ (wY hlf) h1 e1).Jl (uL h1 hlf),kI hle hf hl ?_ h2 e2⟩
     ·intro s hs;refine ha s ?_;simp only[ei,List.flatMap_cons,List.mem_append];left;cases c<;>simp_all[ei,aT]
     ·intro s hs;refine ha s ?_;simp only[ei,List.flatMap_cons,List.mem_append]at hs⊢;exact .inr hs
   ·simp at h
theorem sN{G':Gh}{sh:Sh}{ks:List Nat}(hle:G.le G')(hf:jJ ns G G' sh ks)(hl:∀(s:Nat) (cells:List AV),sh[s]?=some (some cells)→cells.all aT=true)
   {x:AV} {p:PV} {v:Value} (ha:∀s∈ei x,s∈ks) (h:dv sh x=some p) (hr:aB (num ns) G x v):Rel G'.K p v:=by
 by_cases hx:∃cs,x=.agg cs
 ·obtain⟨cs,rfl⟩:=hx;simp only[dv,Option.map_eq_some_iff]at h;obtain⟨ps,h1,rfl⟩:=h;simp only[aB]at hr;obtain⟨vs,rfl,hr⟩:=hr;simp only[Rel];exact⟨vs,rfl,kI hle hf hl ha h1 hr⟩
 · have hx':∀cs,x≠.agg cs:=fun cs e=>hx ⟨cs,e⟩;have:dv sh x=dD sh x:=by cases x<;>first|rfl|exact absurd rfl (hx' _)
   rw[this]at h;exact oH hle hf hl ha hx' h hr
theorem qN{G':Gh}{sh:Sh}{ks:List Nat}(hle:G.le G')(hf:jJ ns G G' sh ks)(hl:∀(s:Nat) (cells:List AV),sh[s]?=some (some cells)→cells.all aT=true) :
   ∀{xs:List AV} {ps:List PV} {vs:List Value},(∀s∈xs.flatMap ei,s∈ks)→cY sh xs=some ps→aw (num ns) G xs vs→ja G'.K ps vs
 |[],ps,vs,_,h,hr=>by simp[cY]at h;subst h;simp only[aw]at hr;exact hr
 |c::cs,ps,vs,ha,h,hr=>by
   simp only[cY]at h;split at h
   ·rename_i p ps' h1 h2;simp at h;subst h;simp only[aw]at hr;obtain⟨v,r,rfl,e1,e2⟩:=hr;simp only[List.flatMap_cons,List.mem_append]at ha;exact⟨v,r,rfl,sN hle hf hl (fun s hs=>ha s (.inl hs)) h1 e1,qN hle hf hl (fun s hs=>ha s (.inr hs)) h2 e2⟩
   ·simp at h
theorem Inv.sO{mem:List (Nat×List AV)}{sh:Sh}{aa:aG}(hi:Inv (num ns) G w mem sh aa):∀(s:Nat) (cells:List AV),sh[s]?=some (some cells)→cells.all aT=true:=by
 intro s cells hs;obtain⟨b,_,_,e3,_⟩:=hi.di s cells hs;exact iM e3
end
end Go.Ab
namespace Go.Ab
section
variable {ns:Names} {G:Gh} {w:World}
mutual
theorem iT{ρ:bO}{G':Gh}(hK:G.K.le G'.K)(hs:∀s b,G.sm s=some b→G'.sm s=some b):∀{x:AV} {v:Value},bD x=true→aB ρ G x v→aB ρ G' x v
 | .pv p,_,_,h=>by simp only[aB]at h⊢;exact h.mono hK
 | .un,_,_,h=>by simpa only[aB] using h
 | .dB _,_,_,h=>by simp only[aB]at h⊢;obtain⟨b,l,e,r⟩:=h;exact⟨b,l,e,r.mono hK⟩
 | .aW s o,_,_,h=>by simp only[aB]at h⊢;obtain⟨b,e,r⟩:=h;exact⟨b,hs _ _ e,r⟩
 | .aP s _ n _,_,_,h=>by simp only[aB]at h⊢;obtain⟨b,c,e,r⟩:=h;exact⟨b,c,hs _ _ e,r⟩
 | .fH _,_,_,h=>by simp only[aB]at h⊢;obtain⟨b,o,vs,e,f,r⟩:=h;exact⟨b,o,vs,e,f.mono hK,dF.mono hK _ _ r⟩
 | .jT,_,_,h=>by simpa only[aB] using h
 | .jU s,_,_,h=>by simp only[aB]at h⊢;obtain⟨b,e,r⟩:=h;exact⟨b,hs _ _ e,r⟩
 | .pJ s _ _,_,_,h=>by simp only[aB]at h⊢;obtain⟨b,x,c,e,r⟩:=h;exact⟨b,x,c,hs _ _ e,r⟩
 | .fJ _,_,_,h=>by simp only[aB]at h
 | .fn g cap,_,hp,h=>by
   simp only[bD]at hp;simp only[aB]at h⊢;obtain⟨f,vs,e1,e2,r⟩:=h;exact⟨f,vs,e1,e2,mF hK hs hp r⟩
 | .agg cs,_,hp,h=>by
   simp only[bD]at hp;simp only[aB]at h⊢;obtain⟨vs,e,r⟩:=h;exact⟨vs,e,mF hK hs hp r⟩
 | .qx cs,_,hp,h=>by
   simp only[bD]at hp;simp only[aB]at h⊢;obtain⟨vs,e,r⟩:=h;exact⟨vs,e,mF hK hs hp r⟩
 | .own _ _,_,hp,_=>by simp[bD]at hp
 | .az _ _,_,hp,_=>by simp[bD]at hp
 | .jt _ _,_,hp,_=>by simp[bD]at hp
theorem mF{ρ:bO}{G':Gh}(hK:G.K.le G'.K)(hs:∀s b,G.sm s=some b→G'.sm s=some b):∀{xs:List AV} {vs:List Value},bD.d5 xs=true→aw ρ G xs vs→aw ρ G' xs vs
 |[],_,_,h=>by simpa only[aw] using h
 |x::xs,_,hp,h=>by
   simp only[bD.d5,Bool.and_eq_true]at hp;simp only[aw]at h⊢;obtain⟨v,r,e,e1,e2⟩:=h;exact⟨v,r,e,iT hK hs hp.1 e1,mF hK hs hp.2 e2⟩
end
mutual
theorem kJ:∀{x:AV},bL x=true→bD x=true
 | .pv _,_=>rfl
 | .aW ..,_=>rfl
 | .aP ..,_=>rfl
 | .jT,_=>rfl
 | .jU _,_=>rfl
 | .fJ _,_=>rfl
 | .pJ ..,h=>by simp[bL]at h
 | .fn _ cap,h=>by simp only[bL]at h;simp only[bD];exact nE h
 | .un,h=>by simp[bL]at h
 | .dB _,h=>by simp[bD]
 | .own _ _,h=>by simp[bL]at h
 | .agg _,h=>by simp only[bL]at h;simp only[bD];exact nE h
 | .qx _,h=>by simp[bL]at h
 | .az _ _,h=>by simp[bL]at h
 | .jt _ _,h=>by simp[bL]at h
 | .fH _,h=>by simp[bL]at h
theorem nE:∀{xs:List AV},bL.iI xs=true→bD.d5 xs=true
 |[],_=>rfl
 |x::xs,h=>by
   simp only[bL.iI,Bool.and_eq_true]at h;simp only[bD.d5,Bool.and_eq_true];exact⟨kJ h.1,nE h.2⟩
end
theorem vm{ρ:bO}{G':Gh}(hK:G.K.le G'.K)(hs:∀s b,G.sm s=some b→G'.sm s=some b)(ht:∀τ t,G.tk τ=some t→G'.tk τ=some t){x:AV}{v:Value}(hf:jy x=true)(h:aB ρ G x v):aB ρ G' x v:=by
 cases x with
 |own l τ=>
   simp only[aB]at h⊢;obtain⟨t,e1,e2,e3,e4⟩:=h;exact⟨t,ht _ _ e1,e2,e3.mono hK,fun hl=>⟨(e4 hl).1,M3 (e4 hl).2 fun⟨b,o,e,r⟩=>⟨b,o,e,Row.mono hK _ _ _ _ r⟩⟩⟩
 |_=>exact iT hK hs (by simpa[jy] using hf) h
theorem ji{ρ:bO}{G':Gh}(hK:G.K.le G'.K)(hs:∀s b,G.sm s=some b→G'.sm s=some b)(ht:∀τ t,G.tk τ=some t→G'.tk τ=some t):∀{xs:List AV} {vs:List Value},fp xs=true→aw ρ G xs vs→aw ρ G' xs vs
 |[],_,_,h=>by simpa only[aw] using h
 |x::xs,_,hp,h=>by
   simp only[fp,Bool.and_eq_true]at hp;simp only[aw]at h⊢;obtain⟨v,r,e,e1,e2⟩:=h;exact⟨v,r,e,vm hK hs ht hp.1 e1,ji hK hs ht hp.2 e2⟩
theorem nF{x:AV}(h:aT x=true):bD x=true∨∃l τ,x=.own l τ:=by
 cases x with
 |own l τ=>exact .inr ⟨l,τ,rfl⟩
 |fn g cap=>exact .inl (kJ (by simpa[aT] using h))
 |pv p=>exact .inl rfl
 |dB _=>exact .inl rfl
 |aW _ _=>exact .inl rfl
 |aP _ _ _ _=>exact .inl rfl
 |jT=>exact .inl rfl
 |jU _=>exact .inl rfl
 |fJ _=>exact .inl rfl
 |_=>simp[aT]at h
theorem dq{live:List Nat}{env:List (Nat×AV)}:∀{l:List Nat} {t:Nat} {v:AV},look (bC live env l) t=some v→look env t=some v∧dV live v=true∧t∈l
 |[],t,v,h=>by simp[bC,look]at h
 |s::l,t,v,h=>by
   simp only[bC]at h;split at h
   · rename_i u hu;split at h
     · rename_i hk;simp only[look]at h;split at h
       ·rename_i e;subst e;cases h;exact⟨hu,hk,by simp⟩
       ·obtain⟨h1,h2,h3⟩:=dq h;exact⟨h1,h2,by simp[h3]⟩
     ·obtain⟨h1,h2,h3⟩:=dq h;exact⟨h1,h2,by simp[h3]⟩
   ·obtain⟨h1,h2,h3⟩:=dq h;exact⟨h1,h2,by simp[h3]⟩
theorem dr{mem:List (Nat×List AV)}:∀{l:List Nat} {t:Nat},look (bF mem l) t=if t∈l then look mem t else none
 |[],t=>by simp[bF,look]
 |s::l,t=>by
   simp only[bF];by_cases vh:s=t
   · subst vh;cases hm:look mem s with
     |none=>simp only[hm];rw[dr,hm];simp
     |some v=>simp[look]
   · have hts:t≠s:=fun e=>vh e.symm;cases hm:look mem s with
     |none=>simp only[hm];rw[dr];simp[hts]
     |some v=>simp only[look,vh,if_false];rw[dr];simp[hts]
def Gh.aU(G:Gh)(live:List Nat):Gh:={ G with pm:=fun d=>if d∈live then G.pm d else none }
theorem y9{ρ:bO}{live:List Nat}{x:AV}{v:Value}(hk:dV live x=true)(h:aB ρ G x v):aB ρ (G.aU live) x v:=by
 have flat:bD x=true→aB ρ (G.aU live) x v:=fun hf=>iT (G:=G) (G':=G.aU live) (bl.le_refl G.K) (fun _ _ h=>h) hf h;cases x with
 |az d o=>
   simp only[aB]at h⊢;obtain⟨b,e,r⟩:=h;simp[dV]at hk;exact⟨b,by simp[Gh.aU,hk,e],r⟩
 |jt d o=>
   simp only[aB]at h⊢;obtain⟨b,e,r⟩:=h;simp[dV]at hk;exact⟨b,by simp[Gh.aU,hk,e],r⟩
 |own l τ=>
   simp only[aB]at h⊢;exact h
 |agg cs=>
   simp only[aB]at h⊢;obtain⟨vs,e,r⟩:=h;exact⟨vs,e,ji (G:=G) (G':=G.aU live) (bl.le_refl G.K) (fun _ _ h=>h) (fun _ _ h=>h) (by simpa[dV] using hk) r⟩
 |_=>exact flat (by simpa[dV] using hk)
theorem FX{ρ:bO}{live:List Nat}{x:AV}{v:Value}(hl:aT x=true)(h:aB ρ G x v):aB ρ (G.aU live) x v:=by
 rcases nF hl with hf|⟨l,τ,rfl⟩
 ·exact iT (G:=G) (G':=G.aU live) (bl.le_refl G.K) (fun _ _ h=>h) hf h
 ·simp only[aB]at h⊢;exact h
theorem lP{ρ:bO}{live:List Nat}:∀{xs:List AV} {vs:List Value},xs.all aT=true→aw ρ G xs vs→aw ρ (G.aU live) xs vs
 |[],_,_,h=>by simpa only[aw] using h
 |x::xs,_,hl,h=>by
   simp only[List.all_cons,Bool.and_eq_true]at hl;simp only[aw]at h⊢;obtain⟨v,r,e,e1,e2⟩:=h;exact⟨v,r,e,FX hl.1 e1,lP hl.2 e2⟩
theorem Inv.aU{mem:List (Nat×List AV)}{sh:Sh}{aa:aG}(hi:Inv (num ns) G w mem sh aa)(live:List Nat):Inv (num ns) (G.aU live) w (bF mem live) sh aa where
 known:=hi.known
 aZ:=hi.aZ
 fresh:=hi.fresh
 cR:=fun d cells hd=>by
   rw[dr]at hd;split at hd
   ·rename_i hl;obtain⟨b,e1,e2,e3⟩:=hi.cR d cells hd;obtain⟨hr,c,t,hh,hrel⟩:=e2;exact⟨b,by simp[Gh.aU,hl,e1],⟨hr,c,t,hh,lP e3 hrel⟩,e3⟩
   ·simp at hd
 gA:=fun d b hd=>by
   simp only[Gh.aU]at hd;split at hd
   ·rename_i hl;rw[dr,if_pos hl];exact hi.gA d b hd
   ·simp at hd
 di:=fun s cells hs=>by
   obtain⟨b,e1,e2,e3,e4⟩:=hi.di s cells hs;obtain⟨hr,o,hh,hrel⟩:=e2;exact⟨b,e1,⟨hr,o,hh,hrel.to (fun _ _ _ h=>h) (fun _ e=>e) (fun _ r=>lP (iM e3) r)⟩,e3,e4⟩
 eo:=hi.eo
 db:=fun τ n hn=>by
   obtain⟨t,e1,e2,e3⟩:=hi.db τ n hn;exact⟨t,e1,e2,e3.cap,e3.zero,e3.spare⟩
 eS:=hi.eS
 jX:=hi.jX
theorem bJ.aU(live:List Nat):bJ G w (G.aU live) w:=
 { size:=Nat.le_refl _,os:=rfl,tape:=rfl,output:=rfl,K:=bl.le_refl G.K,sm:=fun _ _ h=>h,eg:=fun _ _ h=>⟨h,rfl⟩,iD:=fun _ τ _ h=>.inr ⟨τ,h⟩,gB:=fun _ _ _ _ _ h=>h }
theorem gK.restrict{n0 N:Nat}{st:St}{a:Act}(h:gK (num ns) n0 N G st a w)(live:List Nat):gK (num ns) n0 N (G.aU live) (restrict live st) a w:=
 ⟨⟨h.env.size,fun t x hx=>by
   obtain⟨h1,h2,_⟩:=dq hx;obtain⟨v,h3,h4⟩:=h.env.env t x h1;exact⟨v,h3,y9 h2 h4⟩⟩,h.inv.aU live,h.marks.qA (bJ.aU live) rfl⟩
end
end Go.Ab
namespace Go.Ab
section
variable {ns:Names} {G:Gh} {w:World}
structure NS(G:Gh)(aI ts:aG)(m:Nat→Option Nat)(tks:List Tk):Prop where
 ts:ts=tks.map (·.len)
 map:∀τ k,m τ=some k→∃t,G.tk τ=some t∧tks[k]?=some t
 inj:∀τ σ k,m τ=some k→m σ=some k→τ=σ
 free:∀τ t,G.tk τ=some t→m τ=none→aI[τ]?=some t.len
 used:∀τ t k,G.tk τ=some t→m τ=some k→aI[τ]?=some (t.len+1)
 cap:∀k t,tks[k]?=some t→(∃τ,m τ=some k)∨(t.cap=t.len∧t.own=false)
def Gh.lG(G:Gh)(m:Nat→Option Nat)(tks:List Tk):Gh:=
 { G with tk:=fun k=>tks[k]?,role:=fun b=>match G.role b with| .tok τ=>(match m τ with|some k=>.tok k|none=>.eg)|r=>r }
theorem Qm{m m':Nat→Option Nat}{tks ext:List Tk}:(G.lG m tks).le (G.lG m' (tks++ext)) where
 K:=bl.le_refl G.K
 pm:=fun _ _ h=>h
 sm:=fun _ _ h=>h
 tk:=fun k t h=>⟨t,by
   simp only[Gh.lG]at h⊢;rw[List.getElem?_append_left (List.getElem?_eq_some_iff.1 h).1];exact h,⟨Nat.le_refl _,Tk.gw _⟩,fun _=>rfl⟩
theorem y_{ρ:bO}{m:Nat→Option Nat}{tks:List Tk}{x:AV}{v:Value}(hf:bD x=true)(h:aB ρ G x v):aB ρ (G.lG m tks) x v:=
 iT (G:=G) (G':=G.lG m tks) (bl.le_refl G.K) (fun _ _ h=>h) hf h
theorem kK{m:Nat→Option Nat}{tks:List Tk}{b τ:Nat}(h:G.role b=.tok τ):(G.lG m tks).role b=match m τ with|some k=>.tok k|none=>.eg:=by
 show (match G.role b with| .tok τ=>(match m τ with|some k=>lL.tok k|none=>.eg)|r=>r)=_;rw[h]
def lp:AV→Bool
 | .az ..| .jt ..| .own ..=>true
 | .agg cs=>fp cs
 |v=>bD v
structure FY(ns:Names)(G:Gh)(m:Nat→Option Nat)(tks:List Tk)(old' ts':aG)(m':Nat→Option Nat)(tks':List Tk):Prop where
 za:NS G old' ts' m' tks'
 ext:∃ext,tks'=tks++ext
theorem FY.le{m m':Nat→Option Nat}{tks tks':List Tk}{old' ts':aG}(h:FY ns G m tks old' ts' m' tks'):(G.lG m tks).le (G.lG m' tks'):=by
 obtain⟨ext,e⟩:=h.ext;subst e;exact Qm
theorem qO{aI ts:aG}{m:Nat→Option Nat}{tks:List Tk}(hN:NS G aI ts m tks){x:AV}{v:Value}(hx:jy x=true)(h:aB (num ns) G x v) :
   ∃m' tks',FY ns G m tks (ek aI ts x).2.1 (ek aI ts x).2.2 m' tks'∧aB (num ns) (G.lG m' tks') (ek aI ts x).1 v:=by
 have flat:bD x=true→ek aI ts x=(x,aI,ts)→∃m' tks',FY ns G m tks (ek aI ts x).2.1 (ek aI ts x).2.2 m' tks'∧aB (num ns) (G.lG m' tks') (ek aI ts x).1 v:=by
   intro hf e;rw[e];exact⟨m,tks,⟨hN,[],by simp⟩,y_ hf h⟩
 cases x with
 |own l τ=>
   simp only[aB]at h;obtain⟨t,e1,e2,e3,e4⟩:=h;simp only[ek];split
   · rename_i ho
     have hm:m τ=none:=by
       cases hm:m τ with
       |none=>rfl
       |some k=>
         have:=hN.used τ t k e1 hm;rw[ho]at this;simp at this;omega
     have hlen:l.length=t.len:=by
       have:=hN.free τ t e1 hm;rw[ho]at this;simpa using this
     have hk:ts.length=tks.length:=(by rw[hN.ts];simp);refine⟨fun σ=>if σ=τ then some tks.length else m σ,tks++[t],⟨⟨?_,?_,?_,?_,?_,?_⟩,[t],rfl⟩,?_⟩
     ·rw[hN.ts,hlen];simp
     · intro σ k hk';split at hk'
       ·rename_i e;subst e;simp at hk';subst hk';exact⟨t,e1,by simp⟩
       ·obtain⟨t',g1,g2⟩:=hN.map σ k hk';exact⟨t',g1,by rw[List.getElem?_append_left (List.getElem?_eq_some_iff.1 g2).1];exact g2⟩
     · intro σ σ' k h1 h2;split at h1
       · rename_i e;subst e;split at h2
         ·rename_i e';exact e'.symm
         ·simp at h1;subst h1;obtain⟨t',_,g2⟩:=hN.map σ' _ h2;have:=(List.getElem?_eq_some_iff.1 g2).1;omega
       · split at h2
         ·rename_i e';subst e';simp at h2;subst h2;obtain⟨t',_,g2⟩:=hN.map σ _ h1;have:=(List.getElem?_eq_some_iff.1 g2).1;omega
         ·exact hN.inj σ σ' k h1 h2
     · intro σ t' h1 h2;split at h2
       ·simp at h2
       ·rename_i e;rw[List.getElem?_set,if_neg (fun e'=>e e'.symm)];exact hN.free σ t' h1 h2
     · intro σ t' k h1 h2;split at h2
       ·rename_i e;subst e;rw[e1]at h1;cases h1;rw[List.getElem?_set,if_pos rfl,if_pos (List.getElem?_eq_some_iff.1 ho).1,hlen]
       ·rename_i e;rw[List.getElem?_set,if_neg (fun e'=>e e'.symm)];exact hN.used σ t' k h1 h2
     · intro k t' hk';rw[List.getElem?_append]at hk';split at hk'
       · rcases hN.cap k t' hk' with⟨σ,hσ⟩|hc
         · left;refine⟨σ,?_⟩;rw[if_neg]
           ·exact hσ
           ·rintro rfl;rw[hm]at hσ;simp at hσ
         ·exact .inr hc
       · rename_i hge;left;refine⟨τ,?_⟩
         have:k=tks.length:=by
           have:=(List.getElem?_eq_some_iff.1 hk').1;simp at this;omega
         simp[this]
     ·simp only[aB];refine⟨t,by simp[Gh.lG,hk],⟨by omega,e2.2⟩,e3,fun _=>e4 hlen⟩
   ·exact⟨m,tks,⟨hN,[],by simp⟩,by simp only[aB];exact e3⟩
 |_=>exact flat (by simpa[jy] using hx) rfl
theorem oI:∀{xs:List AV} {vs:List Value} {aI ts:aG} {m:Nat→Option Nat} {tks:List Tk},NS G aI ts m tks→fp xs=true→aw (num ns) G xs vs →
   ∃m' tks',FY ns G m tks (cB aI ts xs).2.1 (cB aI ts xs).2.2 m' tks'∧aw (num ns) (G.lG m' tks') (cB aI ts xs).1 vs
 |[],vs,aI,ts,m,tks,hN,_,h=>⟨m,tks,⟨hN,[],by simp⟩,by simpa only[cB,aw] using h⟩
 |x::xs,vs,aI,ts,m,tks,hN,hl,h=>by
   simp only[fp,Bool.and_eq_true]at hl;simp only[aw]at h;obtain⟨v,r,e,e1,e2⟩:=h;subst e;obtain⟨m1,t1,g1,g2⟩:=qO hN hl.1 e1;obtain⟨m2,t2,k1,k2⟩:=oI g1.za hl.2 e2;refine⟨m2,t2,⟨k1.za,?_⟩,?_⟩
   ·obtain⟨a,ha⟩:=g1.ext;obtain⟨b,hb⟩:=k1.ext;exact⟨a++b,by rw[hb,ha,List.append_assoc]⟩
   ·simp only[cB,aw];exact⟨v,r,rfl,g2.mono k1.le,k2⟩
theorem lQ{aI ts:aG}{m:Nat→Option Nat}{tks:List Tk}(hN:NS G aI ts m tks){x:AV}{v:Value}(hx:lp x=true)(h:aB (num ns) G x v) :
   ∃m' tks',FY ns G m tks (bE aI ts x).2.1 (bE aI ts x).2.2 m' tks'∧aB (num ns) (G.lG m' tks') (bE aI ts x).1 v:=by
 have flat:bD x=true→bE aI ts x=(x,aI,ts)→∃m' tks',FY ns G m tks (bE aI ts x).2.1 (bE aI ts x).2.2 m' tks'∧aB (num ns) (G.lG m' tks') (bE aI ts x).1 v:=by
   intro hf e;rw[e];exact⟨m,tks,⟨hN,[],by simp⟩,y_ hf h⟩
 cases x with
 |own l τ=>exact qO (x:=.own l τ) hN rfl h
 |dB l=>
   simp only[aB]at h;obtain⟨base,len,rfl,hsl⟩:=h;have hk:ts.length=tks.length:=by rw[hN.ts];simp
   have hlen:=hsl.1
   obtain⟨sz,hrow⟩:∃sz,l=[]∨∃b o,base=some ⟨b,o,none⟩∧Row G.K b o sz l:=by
     rcases hsl.2 with h1|⟨b,o,sz,e,hr⟩
     ·exact⟨0,.inl h1⟩
     ·exact⟨sz,.inr ⟨b,o,e,hr⟩⟩
   let t:Tk:=⟨base,len,len,sz,false⟩
   refine⟨m,tks++[t],⟨⟨?_,?_,hN.inj,hN.free,hN.used,?_⟩,[t],rfl⟩,?_⟩
   ·simp only[bE];rw[hN.ts];simp[t,hlen]
   ·intro σ k hk';obtain⟨t',g1,g2⟩:=hN.map σ k hk';exact⟨t',g1,by rw[List.getElem?_append_left (List.getElem?_eq_some_iff.1 g2).1];exact g2⟩
   · intro k t' hk';rw[List.getElem?_append]at hk';split at hk'
     ·exact hN.cap k t' hk'
     · right
       have:t'=t:=by
         have h1:=List.mem_of_getElem? hk';simpa using h1
       rw[this];exact⟨rfl,rfl⟩
   ·simp only[bE,aB];refine⟨t,by simp[Gh.lG,hk],⟨by simp[t,hlen],t.rO⟩,ca.2 ⟨_,_,_,rfl,Nat.le_refl _,hsl⟩,fun _=>⟨rfl,hrow⟩⟩
 |az d o=>
   simp only[bE];exact⟨m,tks,⟨hN,[],by simp⟩,by simp only[aB]at h⊢;exact h⟩
 |jt d o=>
   simp only[bE];exact⟨m,tks,⟨hN,[],by simp⟩,by simp only[aB]at h⊢;exact h⟩
 |pv p=>exact flat rfl rfl
 |un=>exact flat rfl rfl
 |aW _ _=>exact flat rfl rfl
 |aP _ _ _ _=>exact flat rfl rfl
 |fH _=>exact flat rfl rfl
 |jT=>exact flat rfl rfl
 |fn _ _=>exact flat (by simpa[lp] using hx) rfl
 |agg cs=>
   by_cases hf:bD.d5 cs=true
   ·exact flat (by simpa[bD] using hf) (by simp only[bE];rw[if_pos hf])
   · simp only[aB]at h;obtain⟨vs,rfl,r⟩:=h;obtain⟨m',tks',g1,g2⟩:=oI hN (by simpa[lp] using hx) r;have e:bE aI ts (.agg cs)=(.agg (cB aI ts cs).1,(cB aI ts cs).2.1,(cB aI ts cs).2.2):=by simp only[bE];rw[if_neg hf]
     rw[e];exact⟨m',tks',g1,by simp only[aB];exact⟨vs,rfl,g2⟩⟩
 |qx _=>exact flat (by simpa[lp] using hx) rfl
 |jU _=>exact flat rfl rfl
 |pJ _ _ _=>exact flat rfl rfl
 |fJ _=>simp only[aB]at h
theorem BY{x:AV}(h:aT x=true):lp x=true:=by
 rcases nF h with hf|⟨l,τ,rfl⟩
 ·cases x<;>simp_all[lp,bD,aT]
 ·rfl
theorem BZ{aI ts:aG}{x:AV}(h:aT x=true):aT (bE aI ts x).1=true:=by
 cases x with
 |own l τ=>simp only[bE];split<;>rfl
 |dB l=>rfl
 |agg _=>simp[aT]at h
 |_=>exact h
theorem lR:∀{xs:List AV} {vs:List Value} {aI ts:aG} {m:Nat→Option Nat} {tks:List Tk},NS G aI ts m tks→xs.all aT=true→aw (num ns) G xs vs →
   ∃m' tks',FY ns G m tks (bj aI ts xs).2.1 (bj aI ts xs).2.2 m' tks'∧aw (num ns) (G.lG m' tks') (bj aI ts xs).1 vs∧(bj aI ts xs).1.all aT=true
 |[],vs,aI,ts,m,tks,hN,_,h=>⟨m,tks,⟨hN,[],by simp⟩,by simpa only[bj,aw] using h,rfl⟩
 |x::xs,vs,aI,ts,m,tks,hN,hl,h=>by
   simp only[List.all_cons,Bool.and_eq_true]at hl;simp only[aw]at h;obtain⟨v,r,e,e1,e2⟩:=h;subst e;obtain⟨m1,t1,g1,g2⟩:=lQ hN (BY hl.1) e1;obtain⟨m2,t2,k1,k2,k3⟩:=lR g1.za hl.2 e2;refine⟨m2,t2,⟨k1.za,?_⟩,?_,?_⟩
   ·obtain⟨a,ha⟩:=g1.ext;obtain⟨b,hb⟩:=k1.ext;exact⟨a++b,by rw[hb,ha,List.append_assoc]⟩
   ·simp only[bj,aw];exact⟨v,r,rfl,g2.mono k1.le,k2⟩
   ·simp only[bj,List.all_cons,k3,Bool.and_true];exact BZ hl.1
theorem qP{a:Act}:∀{env:List (Nat×AV)} {aI ts:aG} {m:Nat→Option Nat} {tks:List Tk},NS G aI ts m tks →
   (∀p∈env,lp p.2=true∧∃v,a.tmps[p.1]?=some v∧aB (num ns) G p.2 v) →
   ∃m' tks',FY ns G m tks (da aI ts env).2.1 (da aI ts env).2.2 m' tks'∧∀p∈(da aI ts env).1,∃v,a.tmps[p.1]?=some v∧aB (num ns) (G.lG m' tks') p.2 v
 |[],aI,ts,m,tks,hN,_=>⟨m,tks,⟨hN,[],by simp⟩,by simp[da]⟩
 |(t,x)::env,aI,ts,m,tks,hN,h=>by
   obtain⟨hx,v,hv,hr⟩:=h (t,x) (by simp);obtain⟨m1,t1,g1,g2⟩:=lQ hN hx hr;obtain⟨m2,t2,k1,k2⟩:=qP (env:=env) (a:=a) g1.za (fun p hp=>h p (by simp[hp]));refine⟨m2,t2,⟨k1.za,?_⟩,?_⟩
   ·obtain⟨a,ha⟩:=g1.ext;obtain⟨b,hb⟩:=k1.ext;exact⟨a++b,by rw[hb,ha,List.append_assoc]⟩
   · intro p hp;simp only[da,List.mem_cons]at hp;rcases hp with rfl|hp
     ·exact⟨v,hv,g2.mono k1.le⟩
     ·exact k2 p hp
def Qn(ns:Names)(G:Gh)(w:World)(d:Nat)(cells:List AV)(G':Gh):Prop:=
 ∃b c t,G.pm d=some b∧G.role b=.lB d∧w.heap[b]?=some (.cells c t (0,0))∧aw (num ns) G' cells c.toList∧cells.all aT=true
theorem qQ:∀{mem:List (Nat×List AV)} {aI ts:aG} {m:Nat→Option Nat} {tks:List Tk},NS G aI ts m tks →
   (∀p∈mem,Qn ns G w p.1 p.2 G) →
   ∃m' tks',FY ns G m tks (eW aI ts mem).2.1 (eW aI ts mem).2.2 m' tks'∧∀p∈(eW aI ts mem).1,Qn ns G w p.1 p.2 (G.lG m' tks')
 |[],aI,ts,m,tks,hN,_=>⟨m,tks,⟨hN,[],by simp⟩,by simp[eW]⟩
 |(d,cells)::mem,aI,ts,m,tks,hN,h=>by
   obtain⟨b,c,t,h1,h2,h3,h4,h5⟩:=h (d,cells) (by simp);obtain⟨m1,t1,g1,g2,g3⟩:=lR hN h5 h4;obtain⟨m2,t2,k1,k2⟩:=qQ (mem:=mem) g1.za (fun p hp=>h p (by simp[hp]));refine⟨m2,t2,⟨k1.za,?_⟩,?_⟩
   ·obtain⟨a,ha⟩:=g1.ext;obtain⟨b,hb⟩:=k1.ext;exact⟨a++b,by rw[hb,ha,List.append_assoc]⟩
   · intro p hp;simp only[eW,List.mem_cons]at hp;rcases hp with rfl|hp
     ·exact⟨b,c,t,h1,h2,h3,aw.mono k1.le g2,g3⟩
     ·exact k2 p hp
theorem B1{aI ts:aG}{n:Nat}{x:AV}(h:aK n x=true):aK n (ek aI ts x).1=true:=by
 unfold ek;split
 ·split<;>simp[aK]
 ·exact h
theorem qR{n:Nat}:∀{xs:List AV} {aI ts:aG},aK.cz n xs=true→aK.cz n (cB aI ts xs).1=true
 |[],_,_,_=>rfl
 |x::xs,aI,ts,h=>by
   simp only[aK.cz,Bool.and_eq_true]at h;simp only[cB,aK.cz,B1 h.1,Bool.true_and];exact qR h.2
theorem B2{aI ts:aG}{n:Nat}{x:AV}(h:aK n x=true):aK n (bE aI ts x).1=true:=by
 unfold bE;split
 ·split<;>simp[aK]
 ·simp[aK]
 · split
   ·exact h
   ·simp only[aK]at h⊢;exact qR h
 ·exact h
theorem sP{n:Nat}:∀{xs:List AV} {aI ts:aG},xs.all (aK n)=true→(bj aI ts xs).1.all (aK n)=true
 |[],_,_,_=>rfl
 |x::xs,aI,ts,h=>by
   simp only[List.all_cons,Bool.and_eq_true]at h;simp only[bj,List.all_cons,B2 h.1,Bool.true_and];exact sP h.2
theorem jF:∀{sh:Sh} {aI ts:aG} {m:Nat→Option Nat} {tks:List Tk} (R:Nat→Option (Obj×Nat)),NS G aI ts m tks →
   (∀s cells,sh[s]?=some (some cells)→cells.all aT=true∧∃o,R s=some o∧Holds (num ns) G o.1 o.2 cells) →
   ∃m' tks',FY ns G m tks (a9 aI ts sh).2.1 (a9 aI ts sh).2.2 m' tks'∧(a9 aI ts sh).1.length=sh.length ∧
     ∀s cells',(a9 aI ts sh).1[s]?=some (some cells')→∃cells,sh[s]?=some (some cells)∧(∃o,R s=some o∧Holds (num ns) (G.lG m' tks') o.1 o.2 cells')∧cells'.all aT=true∧∀n,cells.all (aK n)=true→cells'.all (aK n)=true
 |[],aI,ts,m,tks,R,hN,_=>⟨m,tks,⟨hN,[],by simp⟩,rfl,fun s cells' h=>by simp[a9]at h⟩
 |none::sh,aI,ts,m,tks,R,hN,h=>by
   obtain⟨m1,t1,g1,g2,g3⟩:=jF (sh:=sh) (fun s=>R (s+1)) hN (fun s cells hs=>h (s+1) cells (by simpa using hs));refine⟨m1,t1,g1,by simp[a9,g2],fun s cells' hs=>?_⟩;cases s with
   |zero=>simp[a9]at hs
   |succ s=>
     obtain⟨cells,k1,k2⟩:=g3 s cells' (by simpa[a9] using hs);exact⟨cells,by simpa using k1,k2⟩
 |some cs::sh,aI,ts,m,tks,R,hN,h=>by
   obtain⟨hl,o,hR,hr⟩:=h 0 cs rfl
   obtain⟨m1,t1,g1,g2,g3⟩:∃m' tks',FY ns G m tks (bj aI ts cs).2.1 (bj aI ts cs).2.2 m' tks'∧Holds (num ns) (G.lG m' tks') o.1 o.2 (bj aI ts cs).1∧(bj aI ts cs).1.all aT=true:=by
     rcases hr with⟨c,t,vs,suf,ho,e3,e4,hr⟩|⟨es,clock,kvs,ho,rfl,hm⟩
     ·obtain⟨m1,t1,g1,g2,g3⟩:=lR hN hl hr;exact⟨m1,t1,g1,.inl ⟨c,t,vs,suf,ho,e3,e4,g2⟩,g3⟩
     ·exact⟨m,tks,⟨hN,[],by simp⟩,.inr ⟨es,clock,kvs,ho,rfl,hm⟩,rfl⟩
   obtain⟨m2,t2,k1,k2,k3⟩:=jF (sh:=sh) (fun s=>R (s+1)) g1.za (fun s cells hs=>h (s+1) cells (by simpa using hs));refine⟨m2,t2,⟨k1.za,?_⟩,by simp[a9,k2],fun s cells' hs=>?_⟩
   ·obtain⟨a,ha⟩:=g1.ext;obtain⟨b,hb⟩:=k1.ext;exact⟨a++b,by rw[hb,ha,List.append_assoc]⟩
   · cases s with
     |zero=>
       simp only[a9,List.getElem?_cons_zero,Option.some.injEq]at hs;subst hs;exact⟨cs,rfl,⟨o,hR,g2.mono k1.le⟩,g3,fun n hn=>sP hn⟩
     |succ s=>
       obtain⟨cells,q1,q2⟩:=k3 s cells' (by simpa[a9] using hs);exact⟨cells,by simpa using q1,q2⟩
def kL(G:Gh)(w:World)(s:Nat):Option (Obj×Nat):=(G.sm s).bind fun b=>(w.heap[b.1]?).map fun o=>(o,b.2)
theorem Inv.kL{mem:List (Nat×List AV)}{sh:Sh}{aa:aG}(hi:Inv (num ns) G w mem sh aa):∀s cells,sh[s]?=some (some cells)→cells.all aT=true∧∃o,Go.Ab.kL G w s=some o∧Holds (num ns) G o.1 o.2 cells:=by
 intro s cells hs;obtain⟨b,e1,e2,e3,e4⟩:=hi.di s cells hs;obtain⟨hr,o,hh,hrel⟩:=e2;exact⟨e3,(o,b.2),by simp[Go.Ab.kL,e1,hh],hrel⟩
theorem Inv.Pf{mem:List (Nat×List AV)}{sh:Sh}{aa:aG}(hi:Inv (num ns) G w mem sh aa){sh':Sh}{G':Gh}(hsm:∀s,G'.sm s=G.sm s)(hrole:∀b s,G.role b=.shr s→G'.role b=.shr s)
   (h:∀s cells',sh'[s]?=some (some cells')→∃cells,sh[s]?=some (some cells)∧(∃o,Go.Ab.kL G w s=some o∧Holds (num ns) G' o.1 o.2 cells')∧cells'.all aT=true∧∀n,cells.all (aK n)=true→cells'.all (aK n)=true) :
   ∀s cells,sh'[s]?=some (some cells)→∃b,G'.sm s=some b∧wI (num ns) G' w b (.shr s) cells∧cells.all cL=true∧cells.all (aK (s+1))=true:=by
 intro s cells' hs;obtain⟨cells,h1,⟨o,h2,h2'⟩,h3,h4⟩:=h s cells' hs;obtain⟨b,e1,e2,e3,e4⟩:=hi.di s cells h1;simp only[Go.Ab.kL,e1,Option.bind_some,Option.map_eq_some_iff]at h2;obtain⟨o',h5,rfl⟩:=h2;exact⟨b,by rw[hsm];exact e1,⟨hrole b.1 s e2.role,o',h5,h2'⟩,h3,h4 _ e4⟩
theorem sQ{α:Type}:∀{l:List (Nat×α)} {t:Nat} {x:α},look l t=some x→(t,x)∈l
 |[],_,_,h=>by simp[look]at h
 |(s,y)::l,t,x,h=>by
   simp only[look]at h;split at h
   ·rename_i e;subst e;cases h;simp
   ·exact List.mem_cons_of_mem _ (sQ h)
theorem sR:∀{mem:List (Nat×List AV)} {aI ts:aG} {d:Nat},(look mem d).isSome=true→(look (eW aI ts mem).1 d).isSome=true
 |[],_,_,d,h=>by simp[look]at h
 |(s,y)::mem,aI,ts,d,h=>by
   simp only[eW,look]at h⊢;split
   ·rfl
   ·rename_i hne;rw[if_neg hne]at h;exact sR h
theorem NS.start{mem:List (Nat×List AV)}{sh:Sh}{aa:aG}(hi:Inv (num ns) G w mem sh aa):NS G aa [] (fun _=>none) [] where
 ts:=rfl
 map:=by intro τ k h;simp at h
 inj:=by intro τ σ k h;simp at h
 free:=fun τ t h _=>hi.eS τ t h
 used:=by intro τ t k _ h;simp at h
 cap:=by intro k t h;simp at h
theorem fY{live:List Nat}{env:List (Nat×AV)}:∀{l:List Nat} {p:Nat×AV},p∈bC live env l→look env p.1=some p.2∧dV live p.2=true
 |[],p,h=>by simp[bC]at h
 |s::l,p,h=>by
   simp only[bC]at h;split at h
   · rename_i u hu;split at h
     · rename_i hk;simp only[List.mem_cons]at h;rcases h with rfl|h
       ·exact⟨hu,hk⟩
       ·exact fY h
     ·exact fY h
   ·exact fY h
theorem iE{mem:List (Nat×List AV)}:∀{l:List Nat} {p:Nat×List AV},p∈bF mem l→look mem p.1=some p.2∧p.1∈l
 |[],p,h=>by simp[bF]at h
 |s::l,p,h=>by
   simp only[bF]at h;split at h
   · rename_i u hu;simp only[List.mem_cons]at h;rcases h with rfl|h
     ·exact⟨hu,by simp⟩
     ·obtain⟨h1,h2⟩:=iE h;exact⟨h1,by simp[h2]⟩
   ·obtain⟨h1,h2⟩:=iE h;exact⟨h1,by simp[h2]⟩
theorem gK.head{n0 N:Nat}{st:St}{a:Act}(h:gK (num ns) n0 N G st a w)(live:List Nat):∃G',gK (num ns) n0 N G' (norm (Go.Ab.restrict live st)) a w∧bJ G w G' w:=by
 have h0:=h.restrict live;have hi:=h0.inv
 have hE:∀p∈(Go.Ab.restrict live st).env,lp p.2=true∧∃v,a.tmps[p.1]?=some v∧aB (num ns) (G.aU live) p.2 v:=by
   intro p hp;obtain⟨h1,h2⟩:=fY hp;obtain⟨v,h3,h4⟩:=h.env.env p.1 p.2 h1;refine⟨?_,v,h3,y9 h2 h4⟩;cases hpx:p.2<;>rw[hpx]at h2<;>simp_all[lp,dV,bD]
 have hM:∀p∈(Go.Ab.restrict live st).mem,Qn ns (G.aU live) w p.1 p.2 (G.aU live):=by
   intro p hp;obtain⟨h1,h2⟩:=iE hp
   have h3:look (Go.Ab.restrict live st).mem p.1=some p.2:=by
     show look (bF st.mem live) p.1=some p.2;rw[dr,if_pos h2,h1]
   obtain⟨b,e1,e2,e3⟩:=hi.cR p.1 p.2 h3;obtain⟨hr,c,t,hh,hrel⟩:=e2;exact⟨b,c,t,e1,hr,hh,hrel,e3⟩
 obtain⟨m1,t1,g1,g2⟩:=qP (NS.start hi) hE;obtain⟨m3,t3,k1,k2⟩:=qQ (w:=w) g1.za hM;obtain⟨m2,t2,q1,q2,q3⟩:=jF (kL (G.aU live) w) k1.za hi.kL;have hN:=q1.za;have hle3:=q1.le;have hle:=Gh.le_trans k1.le q1.le
 have hrole:∀b r,(G.aU live).role b=r→(∀τ,r≠.tok τ)→((G.aU live).lG m2 t2).role b=r:=by
   intro b r hr hn;show (match (G.aU live).role b with| .tok τ=>(match m2 τ with|some k=>lL.tok k|none=>.eg)|r=>r)=r;rw[hr];cases r with
   |tok τ=>exact absurd rfl (hn τ)
   |_=>rfl
 have hevo:bJ G w ((G.aU live).lG m2 t2) w:={
   size:=Nat.le_refl _,os:=rfl,tape:=rfl,output:=rfl,K:=bl.le_refl G.K,sm:=fun _ _ h=>h,
   eg:=fun b _ hr=>⟨hrole b _ hr (by simp),rfl⟩
   iD:=fun b τ _ hr=>by
     have hr':(G.aU live).role b=.tok τ:=hr;rw[kK hr'];cases m2 τ with
     |none=>exact .inl rfl
     |some k=>exact .inr ⟨k,rfl⟩
   gB:=fun _ _ _ _ _ h=>h }
 refine⟨(G.aU live).lG m2 t2,⟨⟨h.env.size,fun t x hx=>?_⟩,?_,h.marks.qA hevo rfl⟩,hevo⟩
 ·obtain⟨v,h1,h2⟩:=g2 (t,x) (sQ hx);exact⟨v,h1,h2.mono hle⟩
 · constructor
   ·exact hi.known
   · intro b o v hk;rcases hi.aZ b o v hk with h1|⟨τ,h1⟩
     ·exact .inl (hrole b _ h1 (by simp))
     · rw[kK h1];cases m2 τ with
       |none=>exact .inl rfl
       |some k=>exact .inr ⟨k,rfl⟩
   ·intro b hb;exact hrole b _ (hi.fresh b hb) (by simp)
   ·intro d cells hd;obtain⟨b,c,t,h1,h2,h3,h4,h5⟩:=k2 (d,cells) (sQ hd);exact⟨b,h1,⟨hrole b _ h2 (by simp),c,t,h3,aw.mono hle3 h4⟩,h5⟩
   ·intro d b hd;exact sR (hi.gA d b hd)
   ·exact hi.Pf (G':=(G.aU live).lG m2 t2) (fun _=>rfl) (fun b s hr=>hrole b _ hr (by simp)) q3
   ·intro s b hs;have:=hi.eo s b hs;have e:(norm (Go.Ab.restrict live st)).sh.length=(Go.Ab.restrict live st).sh.length:=q2;omega
   · intro k n hn;have hts:(norm (Go.Ab.restrict live st)).aa=t2.map (·.len):=hN.ts;rw[hts,List.getElem?_map,Option.map_eq_some_iff]at hn;obtain⟨t,ht,rfl⟩:=hn;refine⟨t,ht,rfl,?_⟩;rcases hN.cap k t ht with⟨τ,hτ⟩|hc
     ·obtain⟨t',h1,h2⟩:=hN.map τ k hτ;rw[ht]at h2;cases h2;obtain⟨t'',e1,e2,e3⟩:=hi.db τ _ (hi.eS τ t h1);rw[h1]at e1;cases e1;refine⟨e3.cap,e3.zero,fun hlt=>?_⟩;obtain⟨b,o,c,ty,f1,f2,f3,f4,f5⟩:=e3.spare hlt;refine⟨b,o,c,ty,f1,?_,f3,f4,f5⟩;rw[kK f2,hτ]
     ·exact⟨by omega,fun h=>by omega,fun h=>h.elim (fun h=>by omega) (fun h=>by rw[hc.2]at h;cases h)⟩
   ·intro k t ht;have hts:(norm (Go.Ab.restrict live st)).aa=t2.map (·.len):=hN.ts;rw[hts,List.getElem?_map];have ht':t2[k]?=some t:=ht;rw[ht'];rfl
   ·exact fun b c hb=>⟨hrole b _ (hi.jX b c hb).1 (by simp),(hi.jX b c hb).2⟩
end
end Go.Ab
namespace Go.Ab
section
variable {P:Program} {ns:Names} {G:Gh} {w:World}
theorem zc{x:AV}(h:jW x=true):jy x=true:=by
 cases x with
 |own _ _=>rfl
 |_=>simpa[jy,jW] using kJ (by simpa[jW] using h)
theorem kM:∀{xs:List AV},eV xs=true→fp xs=true
 |[],_=>rfl
 |x::xs,h=>by
   simp only[eV,Bool.and_eq_true]at h;simp only[fp,zc h.1,kM h.2,Bool.and_self]
theorem zd{x:AV}(h:bI x=true):lp x=true:=by
 cases x with
 |own _ _=>rfl
 |az _ _=>rfl
 |agg cs=>simp only[lp];exact kM (by simpa[bI] using h)
 |_=>simpa[lp,bI] using kJ (by simpa[bI] using h)
theorem ze{aI ts:aG}{x:AV}(h:jW x=true):jW (ek aI ts x).1=true:=by
 unfold ek;split
 ·split<;>rfl
 ·exact h
theorem qS:∀{xs:List AV} {aI ts:aG},eV xs=true→eV (cB aI ts xs).1=true
 |[],_,_,_=>rfl
 |x::xs,aI,ts,h=>by
   simp only[eV,Bool.and_eq_true]at h;simp only[cB,eV,ze h.1,Bool.true_and];exact qS h.2
theorem zg{aI ts:aG}{x:AV}(h:bI x=true):bI (bE aI ts x).1=true:=by
 unfold bE;split
 ·split<;>rfl
 ·rfl
 · split
   ·exact h
   ·simp only[bI]at h⊢;exact qS h
 ·exact h
theorem iv:∀{xs:List AV} {aI ts:aG},xs.all bI=true→(bj aI ts xs).1.all bI=true
 |[],_,_,_=>rfl
 |x::xs,aI,ts,h=>by
   simp only[List.all_cons,Bool.and_eq_true]at h;simp only[bj,List.all_cons,zg h.1,Bool.true_and];exact iv h.2
theorem zh{x:AV}(h:aT x=true):bI x=true:=by
 cases x with
 |own _ _=>rfl
 |fn g cap=>simpa[aT,bI] using h
 |pv _=>rfl
 |dB _=>rfl
 |aW _ _=>rfl
 |aP _ _ _ _=>rfl
 |jT=>rfl
 |jU _=>rfl
 |fJ _=>rfl
 |_=>simp[aT]at h
theorem iO{xs:List AV}(h:xs.all aT=true):xs.all bI=true:=by
 rw[List.all_eq_true]at *;exact fun x hx=>zh (h x hx)
theorem oJ:∀{xs:List AV} {vs:List Value} {aI ts:aG} {m:Nat→Option Nat} {tks:List Tk},NS G aI ts m tks→xs.all bI=true→aw (num ns) G xs vs →
   ∃m' tks',FY ns G m tks (bj aI ts xs).2.1 (bj aI ts xs).2.2 m' tks'∧aw (num ns) (G.lG m' tks') (bj aI ts xs).1 vs
 |[],vs,aI,ts,m,tks,hN,_,h=>⟨m,tks,⟨hN,[],by simp[bj]⟩,by simpa only[bj,aw] using h⟩
 |x::xs,vs,aI,ts,m,tks,hN,hp,h=>by
   simp only[List.all_cons,Bool.and_eq_true]at hp;simp only[aw]at h;obtain⟨v,r,e,e1,e2⟩:=h;subst e;obtain⟨m1,t1,g1,g2⟩:=lQ hN (zd hp.1) e1;obtain⟨m2,t2,k1,k2⟩:=oJ g1.za hp.2 e2;refine⟨m2,t2,⟨k1.za,?_⟩,?_⟩
   ·obtain⟨a,ha⟩:=g1.ext;obtain⟨b,hb⟩:=k1.ext;exact⟨a++b,by rw[hb,ha,List.append_assoc]⟩
   ·simp only[bj,aw];exact⟨v,r,rfl,g2.mono k1.le,k2⟩
theorem FZ{aI ts:aG}{x:AV}:(ek aI ts x).2.1.length=aI.length:=by
 unfold ek;split
 ·split<;>simp
 ·rfl
theorem sS:∀{xs:List AV} {aI ts:aG},(cB aI ts xs).2.1.length=aI.length
 |[],_,_=>rfl
 |x::xs,aI,ts=>by simp only[cB];rw[sS,FZ]
theorem F3{aI ts:aG}{x:AV}:(bE aI ts x).2.1.length=aI.length:=by
 unfold bE;split
 ·split<;>simp
 ·rfl
 · split
   ·rfl
   ·exact sS
 ·rfl
theorem pU:∀{xs:List AV} {aI ts:aG},(bj aI ts xs).2.1.length=aI.length
 |[],_,_=>rfl
 |x::xs,aI,ts=>by simp only[bj];rw[pU,F3]
theorem pV:∀{sh:Sh} {aI ts:aG},(a9 aI ts sh).2.1.length=aI.length
 |[],_,_=>rfl
 |none::sh,aI,ts=>by simp only[a9];exact pV
 |some cs::sh,aI,ts=>by simp only[a9];rw[pV,pU]
def Gh.to(G:Gh)(m:Nat→Option Nat)(tks:List Tk):Gh:=
 { K:=G.K,role:=fun b=>match G.role b with| .shr s=>.shr s| .tok τ=>(match m τ with|some k=>.tok k|none=>.eg)|_=>.eg,pm:=fun _=>none,sm:=G.sm,tk:=fun k=>tks[k]? }
theorem Qo{m:Nat→Option Nat}{tks:List Tk}{b s:Nat}(h:G.role b=.shr s):(G.to m tks).role b=.shr s:=by simp[Gh.to,h]
theorem wZ{m:Nat→Option Nat}{tks:List Tk}{b τ k:Nat}(h:G.role b=.tok τ)(hm:m τ=some k):(G.to m tks).role b=.tok k:=by simp[Gh.to,h,hm]
theorem oK{m:Nat→Option Nat}{tks:List Tk}{b τ:Nat}(h:G.role b=.tok τ)(hm:m τ=none):(G.to m tks).role b=.eg:=by simp[Gh.to,h,hm]
theorem lS{m:Nat→Option Nat}{tks:List Tk}{b:Nat}(h:G.role b=.eg):(G.to m tks).role b=.eg:=by simp[Gh.to,h]
theorem w6{m:Nat→Option Nat}{tks:List Tk}{b d:Nat}(h:G.role b=.lB d):(G.to m tks).role b=.eg:=by simp[Gh.to,h]
theorem B3{ρ:bO}{G':Gh}(hK:G.K.le G'.K)(hs:∀s b,G.sm s=some b→G'.sm s=some b)(ht:∀τ t,G.tk τ=some t→G'.tk τ=some t){xs:List AV}{vs:List Value}(hp:eV xs=true)(h:aw ρ G xs vs):aw ρ G' xs vs:=
 ji hK hs ht (kM hp) h
theorem F4{ρ:bO}{G':Gh}(hK:G.K.le G'.K)(hs:∀s b,G.sm s=some b→G'.sm s=some b)(ht:∀τ t,G.tk τ=some t→G'.tk τ=some t){x:AV}{v:Value}(hp:bI x=true)(h:aB ρ G x v):aB ρ G' x v:=by
 cases x with
 |own l τ=>
   simp only[aB]at h⊢;obtain⟨t,e1,e2,e3,e4⟩:=h;exact⟨t,ht _ _ e1,e2,e3.mono hK,fun hl=>⟨(e4 hl).1,M3 (e4 hl).2 fun⟨b,o,e,r⟩=>⟨b,o,e,Row.mono hK _ _ _ _ r⟩⟩⟩
 |agg cs=>
   simp only[aB]at h⊢;obtain⟨vs,e,r⟩:=h;exact⟨vs,e,B3 hK hs ht (by simpa[bI] using hp) r⟩
 |_=>exact mE hK hs (by simpa[bI] using hp) h
theorem jj{ρ:bO}{G':Gh}(hK:G.K.le G'.K)(hs:∀s b,G.sm s=some b→G'.sm s=some b)(ht:∀τ t,G.tk τ=some t→G'.tk τ=some t):∀{xs:List AV} {vs:List Value},xs.all bI=true→aw ρ G xs vs→aw ρ G' xs vs
 |[],_,_,h=>by simpa only[aw] using h
 |x::xs,_,hp,h=>by
   simp only[List.all_cons,Bool.and_eq_true]at hp;simp only[aw]at h⊢;obtain⟨v,r,e,e1,e2⟩:=h;exact⟨v,r,e,F4 hK hs ht hp.1 e1,jj hK hs ht hp.2 e2⟩
theorem Inv.Jf{mem:List (Nat×List AV)}{sh:Sh}{aa:aG}(hi:Inv (num ns) G w mem sh aa){xs:List AV}{vs:List Value}(hp:xs.all bI=true)(hr:aw (num ns) G xs vs) :
   ∃m tks,NS G (cQ aa xs sh).2.2.1 (cQ aa xs sh).2.2.2 m tks∧Inv (num ns) (G.to m tks) w [] (cQ aa xs sh).2.1 (cQ aa xs sh).2.2.2∧aw (num ns) (G.to m tks) (cQ aa xs sh).1 vs:=by
 obtain⟨m0,tks0,hR,hrel⟩:=oJ (NS.start hi) hp hr;obtain⟨m,tks,q1,q2,q3⟩:=jF (Go.Ab.kL G w) hR.za hi.kL;have hN:=q1.za;refine⟨m,tks,hN,?_,jj (G:=G.lG m tks) (G':=G.to m tks) (bl.le_refl _) (fun _ _ h=>h) (fun _ _ h=>h) (iv hp) (aw.mono q1.le hrel)⟩;constructor
 ·exact hi.known
 · intro b o v hk;rcases hi.aZ b o v hk with h|⟨τ,h⟩
   ·exact .inl (lS h)
   · cases hm:m τ with
     |none=>exact .inl (oK h hm)
     |some k=>exact .inr ⟨k,wZ h hm⟩
 ·intro b hb;exact lS (hi.fresh b hb)
 ·intro d cells h;simp[look]at h
 ·intro d b h;simp[Gh.to]at h
 ·refine hi.Pf (G':=G.to m tks) (fun _=>rfl) (fun b s hr=>Qo hr) fun s cells' hs=>?_;obtain⟨cells,h1,h2,h3,h4⟩:=q3 s cells' hs;obtain⟨o,h2,h2'⟩:=h2;exact⟨cells,h1,⟨o,h2,h2'.to (fun _ _ _ h=>h) (fun _ e=>e) (fun _ r=>jj (G:=G.lG m tks) (G':=G.to m tks) (bl.le_refl _) (fun _ _ h=>h) (fun _ _ h=>h) (iO h3) r)⟩,h3,h4⟩
 ·intro s b hs;have:=hi.eo s b hs;have e:(cQ aa xs sh).2.1.length=sh.length:=q2;omega
 · intro k n hn;have hts:(cQ aa xs sh).2.2.2=tks.map (·.len):=hN.ts;rw[hts,List.getElem?_map,Option.map_eq_some_iff]at hn;obtain⟨t,ht,rfl⟩:=hn;refine⟨t,ht,rfl,?_⟩;rcases hN.cap k t ht with⟨τ,hτ⟩|hc
   ·obtain⟨t',h1,h2⟩:=hN.map τ k hτ;rw[ht]at h2;cases h2;obtain⟨t'',e1,e2,e3⟩:=hi.db τ _ (hi.eS τ t h1);rw[h1]at e1;cases e1;refine⟨e3.cap,e3.zero,fun hlt=>?_⟩;obtain⟨b,o,c,ty,f1,f2,f3,f4,f5⟩:=e3.spare hlt;exact⟨b,o,c,ty,f1,wZ f2 hτ,f3,f4,f5⟩
   ·exact⟨by omega,fun h=>by omega,fun h=>h.elim (fun h=>by omega) (fun h=>by rw[hc.2]at h;cases h)⟩
 ·intro k t ht;have hts:(cQ aa xs sh).2.2.2=tks.map (·.len):=hN.ts;rw[hts,List.getElem?_map];have ht':tks[k]?=some t:=ht;rw[ht'];rfl
 ·exact fun b c hb=>⟨lS (hi.jX b c hb).1,(hi.jX b c hb).2⟩
theorem F5{aa:aG}{xs:List AV}{sh:Sh}:(cQ aa xs sh).2.2.1.length=aa.length:=by
 unfold cQ;simp only[pV,pU]
theorem bJ.to{G1:Gh}{w1:World}(h:bJ G w G1 w1)(m:Nat→Option Nat)(tks:List Tk):bJ G w (G1.to m tks) w1 where
 size:=h.size
 os:=h.os
 tape:=h.tape
 output:=h.output
 K:=h.K
 sm:=h.sm
 eg:=fun b hb hr=>⟨lS (h.eg b hb hr).1,(h.eg b hb hr).2⟩
 iD:=fun b τ hb hr=>by
   rcases h.iD b τ hb hr with h1|⟨τ',h1⟩
   ·exact .inl (lS h1)
   · cases hm:m τ' with
     |none=>exact .inl (oK h1 hm)
     |some k=>exact .inr ⟨k,wZ h1 hm⟩
 gB:=h.gB
def nG(N:Nat):lL→lL
 | .tok k=>.tok (k+N)
 | .shr s=>.shr s
 |_=>.eg
def Gh.back(G:Gh)(m:Nat→Option Nat)(G1:Gh)(n N:Nat):Gh:=
 { K:=G1.K,
   role:=fun b=>if b<n then (match G.role b with| .shr _=>nG N (G1.role b)| .tok τ=>(match m τ with|some _=>nG N (G1.role b)|none=>.tok τ)|r=>r) else nG N (G1.role b),
   pm:=G.pm,sm:=G1.sm,
   tk:=fun τ=>if τ<N then (match G.tk τ with|some t=>(match m τ with|some _=>some { t with base:=none,len:=t.len+1,cap:=t.len+1,own:=false }|none=>some t)|none=>none) else G1.tk (τ-N) }
theorem sT{G1 G':Gh}{N:Nat}(hK:G1.K.le G'.K)(hs:∀s b,G1.sm s=some b→G'.sm s=some b)(ht:∀τ t,G1.tk τ=some t→G'.tk (τ+N)=some t){x:AV}{v:Value}(hp:jW x=true)(h:aB (num ns) G1 x v):aB (num ns) G' (iZ N x) v:=by
 cases x with
 |own l τ=>
   simp only[iZ,aB]at h⊢;obtain⟨t,e1,e2,e3,e4⟩:=h;exact⟨t,ht _ _ e1,e2,e3.mono hK,fun hl=>⟨(e4 hl).1,M3 (e4 hl).2 fun⟨b,o,e,r⟩=>⟨b,o,e,Row.mono hK _ _ _ _ r⟩⟩⟩
 |_=>
   simp only[iZ];exact mE (G:=G1) (G':=G') hK hs (by simpa[jW] using hp) h
theorem qT{G1 G':Gh}{N:Nat}(hK:G1.K.le G'.K)(hs:∀s b,G1.sm s=some b→G'.sm s=some b)(ht:∀τ t,G1.tk τ=some t→G'.tk (τ+N)=some t):∀{xs:List AV} {vs:List Value},eV xs=true→aw (num ns) G1 xs vs→aw (num ns) G' (xs.map (iZ N)) vs
 |[],_,_,h=>by simpa only[List.map_nil,aw] using h
 |x::xs,_,hp,h=>by
   simp only[eV,Bool.and_eq_true]at hp;simp only[List.map_cons,aw]at h⊢;obtain⟨v,r,e,e1,e2⟩:=h;exact⟨v,r,e,sT hK hs ht hp.1 e1,qT hK hs ht hp.2 e2⟩
theorem vn{G1 G':Gh}{N:Nat}(hK:G1.K.le G'.K)(hs:∀s b,G1.sm s=some b→G'.sm s=some b)(ht:∀τ t,G1.tk τ=some t→G'.tk (τ+N)=some t){x:AV}{v:Value}(hp:bI x=true)(h:aB (num ns) G1 x v):aB (num ns) G' (cZ N x) v:=by
 cases x with
 |own l τ=>exact sT (x:=.own l τ) hK hs ht rfl h
 |agg cs=>
   simp only[cZ];split
   ·rename_i hf;exact iT (G:=G1) (G':=G') hK hs (by simpa[bD] using hf) h
   ·simp only[aB]at h⊢;obtain⟨vs,e,r⟩:=h;exact⟨vs,e,qT hK hs ht (by simpa[bI] using hp) r⟩
 |_=>
   simp only[cZ];exact mE (G:=G1) (G':=G') hK hs (by simpa[bI] using hp) h
theorem nH{G1 G':Gh}{N:Nat}(hK:G1.K.le G'.K)(hs:∀s b,G1.sm s=some b→G'.sm s=some b)(ht:∀τ t,G1.tk τ=some t→G'.tk (τ+N)=some t):∀{xs:List AV} {vs:List Value},xs.all bI=true→aw (num ns) G1 xs vs→aw (num ns) G' (xs.map (cZ N)) vs
 |[],_,_,h=>by simpa only[List.map_nil,aw] using h
 |x::xs,_,hp,h=>by
   simp only[List.all_cons,Bool.and_eq_true]at hp;simp only[List.map_cons,aw]at h⊢;obtain⟨v,r,e,e1,e2⟩:=h;exact⟨v,r,e,vn hK hs ht hp.1 e1,nH hK hs ht hp.2 e2⟩
theorem EC{m:Nat→Option Nat}{G1:Gh}{n N:Nat}:∀τ t,G1.tk τ=some t→(G.back m G1 n N).tk (τ+N)=some t:=by
 intro τ t h;simp only[Gh.back];rw[if_neg (by omega),Nat.add_sub_cancel];exact h
theorem F6{m:Nat→Option Nat}{G1:Gh}{n N:Nat}{xs:List AV}{vs:List Value}(hp:xs.all bI=true)(h:aw (num ns) G1 xs vs):aw (num ns) (G.back m G1 n N) (xs.map (cZ N)) vs:=
 nH (G1:=G1) (G':=G.back m G1 n N) (N:=N) (bl.le_refl G1.K) (fun _ _ h=>h) EC hp h
theorem zi{N n:Nat}{x:AV}(h:aK n x=true):aK n (iZ N x)=true:=by
 cases x with
 |own _ _=>rfl
 |_=>exact h
theorem oL{N n:Nat}:∀{xs:List AV},aK.cz n xs=true→aK.cz n (xs.map (iZ N))=true
 |[],_=>rfl
 |x::xs,h=>by
   simp only[aK.cz,Bool.and_eq_true]at h;simp only[List.map_cons,aK.cz,zi h.1,oL h.2,Bool.and_self]
theorem zj{N n:Nat}{x:AV}(h:aK n x=true):aK n (cZ N x)=true:=by
 cases x with
 |own _ _=>rfl
 |agg cs=>
   simp only[cZ];split
   ·exact h
   ·simp only[aK]at h⊢;exact oL h
 |_=>exact h
theorem zk{N:Nat}{x:AV}(h:aT x=true):aT (cZ N x)=true:=by
 cases x with
 |own _ _=>rfl
 |agg _=>simp[aT]at h
 |_=>exact h
theorem Inv.back{G1:Gh}{w1:World}{mem:List (Nat×List AV)}{sh sh':Sh}{aa aI ts ts':aG}{m:Nat→Option Nat}{tks:List Tk}(hi:Inv (num ns) G w mem sh aa)(hN:NS G aI ts m tks)(hol:aI.length=aa.length)
   (h1:Inv (num ns) G1 w1 [] sh' ts') (he:bJ (G.to m tks) w G1 w1) :
   Inv (num ns) (G.back m G1 w.heap.size aa.length) w1 mem (d6 aa.length sh') (aI++ts')∧G.le (G.back m G1 w.heap.size aa.length)∧bJ G w (G.back m G1 w.heap.size aa.length) w1:=by
 have htl:∀τ t,G.tk τ=some t→τ<aa.length:=fun τ t h=>(List.getElem?_eq_some_iff.1 (hi.eS τ t h)).1
 have tkNone:∀τ t,G.tk τ=some t→m τ=none→(G.back m G1 w.heap.size aa.length).tk τ=some t:=by
   intro τ t h hm;simp only[Gh.back,if_pos (htl τ t h),h,hm]
 have tkSome:∀τ t k,G.tk τ=some t→m τ=some k→(G.back m G1 w.heap.size aa.length).tk τ=some { t with base:=none,len:=t.len+1,cap:=t.len+1,own:=false }:=by
   intro τ t k h hm;simp only[Gh.back,if_pos (htl τ t h),h,hm]
 have hle:G.le (G.back m G1 w.heap.size aa.length):=⟨he.K,fun _ _ h=>h,he.sm,fun τ t h=>by
   cases hm:m τ with
   |none=>exact⟨t,tkNone τ t h hm,⟨Nat.le_refl _,Tk.gw _⟩,fun _=>rfl⟩
   |some k=>exact⟨_,tkSome τ t k h hm,⟨by simp,fun _=>⟨rfl,by simp⟩,.inl ⟨rfl,by simp⟩⟩,fun e=>by simp at e⟩⟩
 have rImm:∀b,b<w.heap.size→G.role b=.eg→(G.back m G1 w.heap.size aa.length).role b=.eg:=by intro b hb hr;simp only[Gh.back,if_pos hb,hr]
 have rPriv:∀b d,b<w.heap.size→G.role b=.lB d→(G.back m G1 w.heap.size aa.length).role b=.lB d:=by intro b d hb hr;simp only[Gh.back,if_pos hb,hr]
 have rFree:∀b τ,b<w.heap.size→G.role b=.tok τ→m τ=none→(G.back m G1 w.heap.size aa.length).role b=.tok τ:=by intro b τ hb hr hm;simp only[Gh.back,if_pos hb,hr,hm]
 have rTok:∀b τ k,b<w.heap.size→G.role b=.tok τ→m τ=some k→(G.back m G1 w.heap.size aa.length).role b=nG aa.length (G1.role b):=by intro b τ k hb hr hm;simp only[Gh.back,if_pos hb,hr,hm]
 have rShr:∀b s,b<w.heap.size→G.role b=.shr s→(G.back m G1 w.heap.size aa.length).role b=nG aa.length (G1.role b):=by intro b s hb hr;simp only[Gh.back,if_pos hb,hr]
 have rNew:∀b,¬b<w.heap.size→(G.back m G1 w.heap.size aa.length).role b=nG aa.length (G1.role b):=by intro b hb;simp only[Gh.back,if_neg hb]
 have rOut:∀b,G1.role b≠.eg→(G.back m G1 w.heap.size aa.length).role b=nG aa.length (G1.role b):=by
   intro b hn;by_cases hb:b<w.heap.size
   · cases hr:G.role b with
     |shr s=>exact rShr b s hb hr
     |eg=>exact absurd (he.eg b hb (lS hr)).1 hn
     |lB d=>exact absurd (he.eg b hb (w6 hr)).1 hn
     |tok τ=>
       cases hm:m τ with
       |none=>exact absurd (he.eg b hb (oK hr hm)).1 hn
       |some k=>exact rTok b τ k hb hr hm
   ·exact rNew b hb
 have shKnown:∀b o v,G1.K b o=some v→nG aa.length (G1.role b)=.eg∨∃τ,nG aa.length (G1.role b)=.tok τ:=by
   intro b o v hk;rcases h1.aZ b o v hk with h|⟨τ,h⟩
   ·left;rw[h];rfl
   ·right;exact⟨τ+aa.length,by rw[h];rfl⟩
 have hevo:bJ G w (G.back m G1 w.heap.size aa.length) w1:={
           size:=he.size,os:=he.os,tape:=he.tape,output:=he.output,K:=he.K,sm:=he.sm,
           eg:=fun b hb hr=>⟨rImm b hb hr,(he.eg b hb (lS hr)).2⟩
           iD:=fun b τ hb hr=>by
             cases hm:m τ with
             |none=>exact .inr ⟨τ,rFree b τ hb hr hm⟩
             |some k=>
               rw[rTok b τ k hb hr hm];rcases he.iD b k hb (wZ hr hm) with h|⟨τ',h⟩
               ·left;rw[h];rfl
               ·right;exact⟨τ'+aa.length,by rw[h];rfl⟩
           gB:=fun b o v hb hr hk=>he.gB b o v hb (lS hr) hk }
 refine⟨⟨h1.known,?_,?_,?_,hi.gA,?_,?_,?_,?_,hi.gV hevo⟩,hle,hevo⟩
 · intro b o v hk;have hk1:G1.K b o=some v:=hk;by_cases hb:b<w.heap.size
   · cases hr:G.role b with
     |shr s=>rw[rShr b s hb hr];exact shKnown b o v hk1
     |eg=>exact .inl (rImm b hb hr)
     |tok τ=>
       cases hm:m τ with
       |none=>exact .inr ⟨τ,rFree b τ hb hr hm⟩
       |some k=>rw[rTok b τ k hb hr hm];exact shKnown b o v hk1
     |lB d=>
       exfalso;have hk0:G.K b o=some v:=he.gB b o v hb (w6 hr) hk1;rcases hi.aZ b o v hk0 with h|⟨τ,h⟩<;>rw[hr]at h<;>simp at h
   ·rw[rNew b hb];exact shKnown b o v hk1
 ·intro b hb;have:=he.size;rw[rNew b (by omega),h1.fresh b hb];rfl
 ·intro d cs hd;obtain⟨b,e1,e2,e3⟩:=hi.cR d cs hd;obtain⟨hr,c,t,hh,hrel⟩:=e2;have hb:=cp hh;exact⟨b,e1,⟨rPriv b d hb hr,c,t,((he.eg b hb (w6 hr)).2).trans hh,aw.mono hle hrel⟩,e3⟩
 · intro s cs0 hs0;simp only[d6,List.getElem?_map,Option.map_eq_some_iff]at hs0;obtain⟨o,hs,ho⟩:=hs0;cases o with
   |none=>simp at ho
   |some cs=>
     simp at ho;subst ho;obtain⟨b,e1,e2,e3,e4⟩:=h1.di s cs hs;obtain⟨hr,o,hh,hrel⟩:=e2;refine⟨b,e1,⟨?_,o,hh,hrel.to (fun _ _ _ h=>h) (fun kvs e=>by subst e;rfl) (fun _ r=>F6 (iO e3) r)⟩,?_,?_⟩
     ·rw[rOut b.1 (by rw[hr];simp),hr];rfl
     ·rw[List.all_eq_true];intro x hx;obtain⟨y,hy,rfl⟩:=List.mem_map.1 hx;exact zk (List.all_eq_true.1 e3 y hy)
     ·rw[List.all_eq_true];intro x hx;obtain⟨y,hy,rfl⟩:=List.mem_map.1 hx;exact zj (List.all_eq_true.1 e4 y hy)
 ·intro s b h;have:=h1.eo s b h;simp only[d6,List.length_map];exact this
 · intro τ n hn;by_cases hτ:τ<aa.length
   · rw[List.getElem?_append_left (by omega)]at hn;obtain⟨t,e1,e2,e3⟩:=hi.db τ _ (List.getElem?_eq_getElem hτ);cases hm:m τ with
     |none=>
       have:=hN.free τ t e1 hm;rw[hn]at this;simp at this;refine⟨t,tkNone τ t e1 hm,this.symm,e3.cap,e3.zero,fun hlt=>?_⟩;obtain⟨b,o,c,ty,f1,f2,f3,f4,f5⟩:=e3.spare hlt;have hb:=cp f3;exact⟨b,o,c,ty,f1,rFree b τ hb f2 hm,((he.eg b hb (oK f2 hm)).2).trans f3,f4,fun j v hk=>f5 j v (he.gB b j v hb (oK f2 hm) hk)⟩
     |some k=>
       have:=hN.used τ t k e1 hm;rw[hn]at this;simp at this;exact⟨_,tkSome τ t k e1 hm,this.symm,⟨Nat.le_refl _,fun h=>by simp at h,fun h=>by simp at h⟩⟩
   ·rw[List.getElem?_append_right (by omega),hol]at hn;obtain⟨t,e1,e2,e3⟩:=h1.db _ n hn;refine⟨t,by simp only[Gh.back,if_neg hτ];exact e1,e2,e3.cap,e3.zero,fun hlt=>?_⟩;obtain⟨b,o,c,ty,f1,f2,f3,f4,f5⟩:=e3.spare hlt;refine⟨b,o,c,ty,f1,?_,f3,f4,f5⟩;rw[rOut b (by rw[f2];simp),f2];simp only[nG];rw[Nat.sub_add_cancel (by omega)]
 · intro τ t ht;simp only[Gh.back]at ht;split at ht
   · rename_i hτ;rw[List.getElem?_append_left (by omega)];split at ht
     · rename_i t0 h0;split at ht
       ·rename_i k hm;simp at ht;subst ht;exact hN.used τ t0 k h0 hm
       ·rename_i hm;simp at ht;subst ht;exact hN.free τ t0 h0 hm
     ·simp at ht
   ·rename_i hτ;rw[List.getElem?_append_right (by omega),hol];exact h1.eS _ t ht
theorem oM{G1 G':Gh}{N:Nat}(hK:G1.K.le G'.K)(hs:∀s b,G1.sm s=some b→G'.sm s=some b)(ht:∀τ t,G1.tk τ=some t→G'.tk (τ+N)=some t){rs:List AV}{v:Value}(hp:rs.all bI=true)(h:cS (num ns) G1 rs v):cS (num ns) G' (rs.map (cZ N)) v:=by
 unfold cS at h;split at h
 ·rename_i r;simp only[List.all_cons,List.all_nil,Bool.and_true]at hp;simp only[List.map_cons,List.map_nil,cS];exact vn hK hs ht hp h
 · rename_i hn;obtain⟨vs,e,h⟩:=h;unfold cS;split
   · rename_i r he;cases rs with
     |nil=>simp at he
     |cons a rs=>
       cases rs with
       |nil=>exact absurd rfl (hn a)
       |cons _ _=>simp at he
   ·exact⟨vs,e,nH hK hs ht hp h⟩
theorem zm{m:Nat→Option Nat}{G1:Gh}{n N:Nat}{rs:List AV}{v:Value}(hp:rs.all bI=true)(h:cS (num ns) G1 rs v):cS (num ns) (G.back m G1 n N) (rs.map (cZ N)) v:=
 oM (G1:=G1) (G':=G.back m G1 n N) (N:=N) (bl.le_refl G1.K) (fun _ _ h=>h) EC hp h
def VB(N:Nat):lL→lL
 | .tok k=>.tok (k+N)
 |_=>.eg
def Gh.ED(G:Gh):Gh:={ K:=G.K,role:=fun _=>.eg,pm:=fun _=>none,sm:=fun _=>none,tk:=fun _=>none }
theorem Inv.ED{mem:List (Nat×List AV)}{sh:Sh}{aa:aG}(hi:Inv (num ns) G w mem sh aa):Inv (num ns) G.ED w [] [] [] where
 known:=hi.known
 aZ:=fun _ _ _ _=>.inl rfl
 fresh:=fun _ _=>rfl
 cR:=fun d c h=>by simp[look]at h
 gA:=fun d b h=>by simp[Gh.ED]at h
 di:=fun s c h=>by simp at h
 eo:=fun s b h=>by simp[Gh.ED]at h
 db:=fun τ n h=>by simp at h
 eS:=fun τ t h=>by simp[Gh.ED]at h
 jX:=fun b c hb=>⟨rfl,(hi.jX b c hb).2⟩
def Gh.gS(G:Gh)(G1:Gh)(n N:Nat):Gh:=
 { K:=G1.K,role:=fun b=>if b<n then G.role b else VB N (G1.role b),pm:=G.pm,sm:=G.sm,tk:=fun τ=>if τ<N then G.tk τ else G1.tk (τ-N) }
theorem Inv.gS{G1:Gh}{w1:World}{mem:List (Nat×List AV)}{sh:Sh}{aa ts':aG}(hi:Inv (num ns) G w mem sh aa)
   (h1:Inv (num ns) G1 w1 [] [] ts') (he:bJ G.ED w G1 w1) :
   Inv (num ns) (G.gS G1 w.heap.size aa.length) w1 mem sh (aa++ts')∧G.le (G.gS G1 w.heap.size aa.length)∧bJ G w (G.gS G1 w.heap.size aa.length) w1:=by
 have htl:∀τ t,G.tk τ=some t→τ<aa.length:=fun τ t h=>(List.getElem?_eq_some_iff.1 (hi.eS τ t h)).1;have hK:G.K.le G1.K:=he.K
 have rOld:∀b,b<w.heap.size→(G.gS G1 w.heap.size aa.length).role b=G.role b:=fun b hb=>by simp only[Gh.gS,if_pos hb]
 have rNew:∀b,¬b<w.heap.size→(G.gS G1 w.heap.size aa.length).role b=VB aa.length (G1.role b):=fun b hb=>by simp only[Gh.gS,if_neg hb]
 have same:∀b,b<w.heap.size→w1.heap[b]?=w.heap[b]?:=fun b hb=>(he.eg b hb rfl).2;have Kold:∀b o v,b<w.heap.size→G1.K b o=some v→G.K b o=some v:=fun b o v hb hk=>he.gB b o v hb rfl hk
 have hle:G.le (G.gS G1 w.heap.size aa.length):=⟨hK,fun _ _ h=>h,fun _ _ h=>h,fun τ t h=>⟨t,by simp only[Gh.gS,if_pos (htl τ t h)];exact h,⟨Nat.le_refl _,Tk.gw _⟩,fun _=>rfl⟩⟩
 have hevo:bJ G w (G.gS G1 w.heap.size aa.length) w1:={
           size:=he.size,os:=he.os,tape:=he.tape,output:=he.output,K:=hK,sm:=fun _ _ h=>h,
           eg:=fun b hb hr=>⟨(rOld b hb).trans hr,same b hb⟩
           iD:=fun b τ hb hr=>.inr ⟨τ,(rOld b hb).trans hr⟩
           gB:=fun b o v hb _ hk=>Kold b o v hb hk }
 refine⟨⟨h1.known,?_,?_,?_,hi.gA,?_,hi.eo,?_,?_,hi.gV hevo⟩,hle,hevo⟩
 · intro b o v hk;by_cases hb:b<w.heap.size
   ·rw[rOld b hb];exact hi.aZ b o v (Kold b o v hb hk)
   · rw[rNew b hb];rcases h1.aZ b o v hk with h|⟨τ,h⟩
     ·left;rw[h];rfl
     ·right;exact⟨τ+aa.length,by rw[h];rfl⟩
 ·intro b hb;have:=he.size;rw[rNew b (by omega),h1.fresh b hb];rfl
 · intro d cs hd;obtain⟨b,e1,e2,e3⟩:=hi.cR d cs hd;have hlt:b<w.heap.size:=by obtain⟨_,_,_,hh,_⟩:=e2;exact cp hh
   exact⟨b,e1,e2.mono hle (rOld b hlt) (same b hlt),e3⟩
 ·intro s cs hs;obtain⟨b,e1,e2,e3⟩:=hi.di s cs hs;have hlt:b.1<w.heap.size:=e2.lt;exact⟨b,e1,e2.mono hle (rOld b.1 hlt) (same b.1 hlt),e3⟩
 · intro τ n hn;by_cases hτ:τ<aa.length
   ·rw[List.getElem?_append_left hτ]at hn;obtain⟨t,e1,e2,e3⟩:=hi.db τ n hn;refine⟨t,by simp only[Gh.gS,if_pos hτ];exact e1,e2,e3.cap,e3.zero,fun hlt=>?_⟩;obtain⟨b,o,c,ty,f1,f2,f3,f4,f5⟩:=e3.spare hlt;have hlt':=cp f3;exact⟨b,o,c,ty,f1,(rOld b hlt').trans f2,(same b hlt').trans f3,f4,fun j v hkk=>f5 j v (Kold b j v hlt' hkk)⟩
   · rw[List.getElem?_append_right (by omega)]at hn;obtain⟨t,e1,e2,e3⟩:=h1.db _ n hn;refine⟨t,by simp only[Gh.gS,if_neg hτ];exact e1,e2,e3.cap,e3.zero,fun hlt=>?_⟩;obtain⟨b,o,c,ty,f1,f2,f3,f4,f5⟩:=e3.spare hlt
     have hb:¬b<w.heap.size:=fun hb=>by
       have:=(he.eg b hb rfl).1;rw[f2]at this;cases this
     refine⟨b,o,c,ty,f1,?_,f3,f4,f5⟩;rw[rNew b hb,f2];simp only[VB];rw[Nat.sub_add_cancel (by omega)]
 · intro τ t ht;simp only[Gh.gS]at ht;split at ht
   ·rename_i hτ;rw[List.getElem?_append_left hτ];exact hi.eS τ t ht
   ·rename_i hτ;rw[List.getElem?_append_right (by omega)];exact h1.eS _ t ht
theorem F7{G1:Gh}{w1:World}{ts':aG}{n N:Nat}(h1:Inv (num ns) G1 w1 [] [] ts'){rs:List AV}{v:Value}(hp:rs.all bI=true)(h:cS (num ns) G1 rs v):cS (num ns) (G.gS G1 n N) (rs.map (cZ N)) v:=
 oM (G1:=G1) (G':=G.gS G1 n N) (N:=N) (bl.le_refl G1.K) (fun s b h=>by have:=h1.eo s b h;simp at this) (fun τ t h=>by simp only[Gh.gS];rw[if_neg (by omega),Nat.add_sub_cancel];exact h) hp h
end
end Go.Ab
namespace Go.Ab
section
variable {P:Program} {ns:Names} {G:Gh} {w:World}
theorem vp{rs:List PV}{v:Value}(h:gZ G.K rs v):aB (num ns) G (su rs) v:=by
 match rs,h with
 |[r],h=>simp only[gZ]at h;simp only[su,aB];exact h
 |[],h=>simp only[gZ]at h;simp only[su,aB];obtain⟨vs,e,h⟩:=h;exact⟨vs,e,fQ h⟩
 |_::_::_,h=>simp only[gZ]at h;simp only[su,aB];obtain⟨vs,e,h⟩:=h;exact⟨vs,e,fQ h⟩
theorem vq{rs:List AV}{v:Value}(h:cS (num ns) G rs v):aB (num ns) G (sv rs) v:=by
 match rs,h with
 |[r],h=>simp only[cS]at h;simp only[sv];exact h
 |[],h=>simp only[cS]at h;simp only[sv,aB];exact h
 |_::_::_,h=>simp only[cS]at h;simp only[sv,aB];exact h
theorem F8{v:AV}{rv:Value}(h:aB (num ns) G v rv):aB (num ns) G (lh v) rv:=by
 unfold lh;split
 ·rename_i p hp;simp only[aB];exact wL hp h
 ·exact h
theorem sU{own:List Nat}:∀{i:Nat} {xs:List AV} {vs:List Value},aw (num ns) G xs vs→aw (num ns) G (dP own i xs) vs
 |_,[],_,h=>by simpa[dP,aw] using h
 |i,x::xs,_,h=>by
   simp only[aw]at h;obtain⟨v,r,rfl,e1,e2⟩:=h;simp only[dP,aw];refine⟨v,r,rfl,?_,sU e2⟩;split
   ·exact e1
   ·exact F8 e1
theorem Jr{A:jS}{dst:Option Nat}{c:Call}{k:AK}{args:List Operand}(h:bG P ns A dst (.call c)=some (k,args))(hk:k.calls=true) :
   (∃f g,c.callee=.value (.func f)∧ns.of f=some g∧args=c.args.toList∧(k=.aJ g∨k=.en g∨(∃own,k=.bz g own)∨(∃sz by_,(k=.clone sz by_∨∃ag,k=.gr sz by_ ag)∧look ns.cl g=some (sz,by_))∨k=.lH g)) ∨
   (∃t,c.callee=.value (.tmp t)∧args=.tmp t::c.args.toList∧(k=.fm∨k=.eU)):=by
 obtain⟨callee,cargs,ctypes⟩:=c;simp only[bG]at h;split at h
 ·split at h<;>simp at h<;>(obtain⟨rfl,_⟩:=h;simp[AK.calls]at hk)
 ·split at h<;>simp at h;obtain⟨rfl,_⟩:=h;simp[AK.calls]at hk
 ·split at h<;>simp at h;obtain⟨rfl,_⟩:=h;simp[AK.calls]at hk
 · split at h
   · split at h
     · rw[Option.ite_none_right_eq_some]at h;obtain⟨_,h⟩:=h;split at h
       ·simp only[Option.map_eq_some_iff,Prod.mk.injEq]at h;obtain⟨_,_,rfl,_⟩:=h;simp[AK.calls]at hk
       ·split at h<;>(simp at h;obtain⟨rfl,_⟩:=h;simp[AK.calls]at hk)
     ·simp at h
   ·simp at h
 · split at h
   · split at h
     · split at h<;>simp at h
       obtain⟨rfl,_⟩:=h;simp[AK.calls]at hk
     ·simp at h
   ·simp at h
 · split at h
   · split at h<;>simp at h
     obtain⟨rfl,_⟩:=h;simp[AK.calls]at hk
   ·simp at h
 · rename_i f;left;split at h
   · rename_i g hg;split at h
     · rename_i sz by_ hcl;rw[Option.ite_none_right_eq_some]at h;obtain⟨_,h⟩:=h;split at h
       · split at h
         ·simp only[Option.map_eq_some_iff,Prod.mk.injEq]at h;obtain⟨ag,_,h1,h2⟩:=h;exact⟨f,g,rfl,hg,h2.symm,.inr (.inr (.inr (.inl ⟨sz,by_,.inr ⟨ag,h1.symm⟩,hcl⟩)))⟩
         ·simp at h
       ·simp only[Option.some.injEq,Prod.mk.injEq]at h;exact⟨f,g,rfl,hg,h.2.symm,.inr (.inr (.inr (.inl ⟨sz,by_,.inl h.1.symm,hcl⟩)))⟩
     · split at h
       ·simp at h;exact⟨f,g,rfl,hg,h.2.symm,.inr (.inr (.inr (.inr h.1.symm)))⟩
       · split at h
         ·simp at h;exact⟨f,g,rfl,hg,h.2.symm,.inr (.inr (.inl ⟨_,h.1.symm⟩))⟩
         · split at h
           ·simp at h;exact⟨f,g,rfl,hg,h.2.symm,.inr (.inl h.1.symm)⟩
           ·simp at h;exact⟨f,g,rfl,hg,h.2.symm,.inl h.1.symm⟩
   ·simp at h
 · rename_i t;right;split at h
   ·simp at h;exact⟨t,rfl,h.2.symm,.inr h.1.symm⟩
   ·simp at h;exact⟨t,rfl,h.2.symm,.inl h.1.symm⟩
 ·simp at h
mutual
theorem EE:∀{a b:PV},na a b=true→a=b
 | .bool a,b,h=>by cases b<;>simp[na]at h;rw[h]
 | .int k n,b,h=>by cases b<;>simp[na]at h;rw[h.1,h.2]
 | .str s,b,h=>by cases b<;>simp[na]at h;rw[h]
 | .agg l,b,h=>by
   cases b with
   |agg q=>simp only[na]at h;rw[sV h]
   |_=>simp[na]at h
 | .au l,b,h=>by
   cases b with
   |au q=>simp only[na]at h;rw[sV h]
   |_=>simp[na]at h
theorem sV:∀{a b:List PV},oz a b=true→a=b
 |[],b,h=>by cases b with|nil=>rfl|cons _ _=>simp[oz]at h
 |x::r,b,h=>by
   cases b with
   |nil=>simp[oz]at h
   |cons y q=>
     simp only[oz,Bool.and_eq_true]at h;rw[EE h.1,sV h.2]
end
theorem EF:∀{a b:List AV},FI a b=true→a=b
 |[],b,h=>by cases b with|nil=>rfl|cons _ _=>simp[FI]at h
 |x::r,b,h=>by
   cases b with
   |nil=>simp[FI]at h
   |cons y q=>
     simp only[FI,Bool.and_eq_true]at h;rw[EF h.2];have h1:=h.1;cases x with
     |pv p=>cases y with
       |pv p'=>simp only[Sn]at h1;rw[EE h1]
       |_=>simp[Sn]at h1
     |_=>simp[Sn]at h1
theorem w7:∀{a b:Sh},ru a b=true→a=b
 |[],b,h=>by cases b with|nil=>rfl|cons _ _=>simp[ru]at h
 |none::r,b,h=>by
   cases b with
   |nil=>simp[ru]at h
   |cons y q=>cases y with
     |none=>simp only[ru]at h;rw[w7 h]
     |some _=>simp[ru]at h
 |some x::r,b,h=>by
   cases b with
   |nil=>simp[ru]at h
   |cons y q=>cases y with
     |none=>simp[ru]at h
     |some y=>
       simp only[ru,Bool.and_eq_true]at h;rw[EF h.1,w7 h.2]
theorem uM{orc:dX}{vals:List AV}{cells:Option (List AV)}{sh:Sh}{aa:aG}{out:Out}(h:exec orc .eU vals cells sh aa=some out):exec orc .fm vals cells sh aa=some out:=by
 cases vals with
 |nil=>simp[exec]at h
 |cons f vals=>
   cases f with
   |fn g cap=>
     simp only[exec,Option.bind_eq_some_iff]at h;obtain⟨⟨v,sh',ts⟩,h1,h2⟩:=h;simp only[Vx,Option.ite_none_right_eq_some,Option.some.injEq]at h2;obtain⟨h3,rfl⟩:=h2;have:=w7 h3;subst this;simp[exec,h1]
   |_=>simp[exec]at h
theorem lT{orc:dX}(horc:gi P ns orc){f g:Nat}{own:List Nat}(hg:ns.of f=some g){vals:List AV}{vs:List Value}{x:AV}{mem:List (Nat×List AV)}{sh sh':Sh}{aa toks':aG}
   (hr:aw (num ns) G vals vs) (hi:Inv (num ns) G w mem sh aa) (h:dM orc g own vals sh aa=some (x,sh',toks')) :
   Calls P f vs.toArray w fun e w'=>∃v G',e=.returned v∧aB (num ns) G' x v∧Inv (num ns) G' w' mem sh' toks'∧G.le G'∧bJ G w G' w':=by
 unfold dM at h;simp only[Option.ite_none_right_eq_some,Option.map_eq_some_iff]at h;obtain⟨hp,⟨rs,sh1,ts1⟩,h1,h2⟩:=h;simp only[Prod.mk.injEq]at h2;obtain⟨rfl,rfl,rfl⟩:=h2;obtain⟨hC,hpr⟩:=horc.i g f _ _ rs _ sh1 ts1 hg (iv hp) h1;obtain⟨m,tks,hN,hto,hargs⟩:=hi.Jf hp (sU (own:=own) (i:=0) hr);refine (hC (G.to m tks) w vs hto hargs).mono ?_
 rintro e w' ⟨v,G1,rfl,gW,hi1,hevo⟩
 obtain⟨g1,g2,g3⟩:=hi.back hN F5 hi1 hevo;exact⟨v,_,rfl,vq (zm hpr gW),g1,g2,g3⟩
theorem zn{orc:dX}(horc:gi P ns orc){f g:Nat}(hg:ns.of f=some g){cV:List PV}{vs:List Value}{rs:List AV}{ts1:aG}{mem:List (Nat×List AV)}{sh:Sh}{aa:aG}
   (hr:ja G.K cV vs) (hi:Inv (num ns) G w mem sh aa) (h:orc.i g (cV.map .pv) [] []=some (rs,[],ts1)) :
   Calls P f vs.toArray w fun e w'=>∃v G',e=.returned v∧aB (num ns) G' (sv (rs.map (cZ aa.length))) v∧Inv (num ns) G' w' mem sh (aa++ts1)∧G.le G'∧bJ G w G' w':=by
 have hpass:(cV.map AV.pv).all bI=true:=by
   rw[List.all_eq_true];intro x hx;obtain⟨p,_,rfl⟩:=List.mem_map.1 hx;rfl
 obtain⟨hC,hpr⟩:=horc.i g f _ _ rs _ _ ts1 hg hpass h;refine (hC G.ED w vs hi.ED (fQ (ρ:=num ns) (G:=G.ED) hr)).mono ?_
 rintro e w' ⟨v,G1,rfl,gW,hi1,hevo⟩
 obtain⟨g1,g2,g3⟩:=hi.gS hi1 hevo;exact⟨v,_,rfl,vq (F7 hi1 hpr gW),g1,g2,g3⟩
theorem M_(hB:eK P ns){orc:dX}(horc:gi P ns orc){A:jS}{o:Oper}{k:AK}{args:List Operand}(hc:bG P ns A o.dst o.op=some (k,args)){a:Act}{vals:List AV}{out:Out}
   {mem:List (Nat×List AV)} {sh:Sh} {aa:aG} (hr:aw (num ns) G vals (args.map a.eval)) (hi:Inv (num ns) G w mem sh aa)
   (h:exec orc k vals (k.key.bind (look mem)) sh aa=some out) {next:Act→World→Prop} {Q:Exit→Act→World→Prop}
   (hn:∀v w' G',aB (num ns) G' out.val v→Inv (num ns) G' w' (eR mem k.key out.cells) out.sh out.aa→G.le G'→bJ G w G' w'→next (a.put o.dst v) w'):o.wp P a w next Q:=by
 cases hk:k.calls with
 |false=>
   obtain⟨n,v,w',G',g1,g2,g3,g4,g5,g6⟩:=qM hc hk hr hi h;unfold Oper.wp;rw[g1];rcases g2 with rfl|⟨rfl,rfl⟩
   ·exact hn v w' G' g3 g4 g5 g6
   ·exact hn undef w' G' g3 g4 g5 g6
 |true=>
   obtain⟨dst,op,type,pos,after,guard⟩:=o;have hcall:∃c,op=.call c:=BX (k:=k) (by cases k<;>simp_all[AK.calls]) hc;obtain⟨c,rfl⟩:=hcall;rcases Jr hc hk with⟨f,g,hcal,hg,rfl,hk'⟩|⟨t,hcal,rfl,hkv⟩
   · have hrun:(execOp a.eval ⟨dst,.call c,type,pos,after,guard⟩).run P w=.ok (.enter f ((c.args.toList.map a.eval).toArray)) w:=by
       obtain⟨callee,cargs,ctypes⟩:=c;simp only at hcal;subst hcal;simp only[execOp,resolve,Sem.run_bind,Act.eval,Deferred.ofValue,Sem.run_pure,Result.andThen_ok,invoke];rw[oF hB hg];congr 2;apply Array.ext';simp
     rcases hk' with rfl|rfl|⟨own,rfl⟩|⟨sz,by_,hkc,hcl⟩|rfl
     · -- for pure data
       simp only[exec]at h;split at h
       · rename_i cV hp;simp only[Option.map_eq_some_iff]at h;obtain⟨rs,h1,rfl⟩:=h;have hC:=horc.p g f cV rs hg h1 G.K w _ (fun b c hb=>(hi.jX b c hb).2) hi.known (ky hp hr);unfold Oper.wp;rw[hrun];refine hC.mono ?_
         rintro e w' ⟨v,K',rfl,gW,hK,hold,hkk,hb⟩
         obtain⟨g1,g2,g3⟩:=hi.pure hK hold hkk hb;exact hn v w' _ (vp gW) (by simpa[AK.key,eR] using g1) g2 g3
       ·simp at h
     · -- for pure data,arrays frozen
       simp only[exec]at h;split at h
       · rename_i cV hp;simp only[Option.map_eq_some_iff]at h;obtain⟨rs,h1,rfl⟩:=h;obtain⟨G1,k1,k2,k3,k4,k5⟩:=Inv.kill (vals.flatMap ei) hi;have hC:=horc.p g f cV rs hg h1 G1.K w _ (fun b c hb=>(k1.jX b c hb).2) k1.known (qN k2 k4 hi.sO (fun s hs=>hs) hp hr);unfold Oper.wp;rw[hrun];refine hC.mono ?_
         rintro e w' ⟨v,K',rfl,gW,hK,hold,hkk,hb⟩
         obtain⟨g1,g2,g3⟩:=k1.pure hK hold hkk hb;exact hn v w' _ (vp gW) (by simpa[AK.key,eR,cy] using g1) (Gh.le_trans k2 g2) (k3.trans g3)
       ·simp at h
     · -- with the shared memory
       simp only[exec,Option.map_eq_some_iff]at h;obtain⟨⟨x,sh',ts'⟩,h1,rfl⟩:=h;have hC:=lT horc hg hr hi h1;unfold Oper.wp;rw[hrun];refine hC.mono ?_
       rintro e w' ⟨v,G',rfl,g1,g2,g3,g4⟩
       exact hn v w' G' g1 (by simpa[AK.key,eR] using g2) g3 g4
     · -- slices.Clone
       have hkey:k.key=none:=by rcases hkc with rfl|⟨ag,rfl⟩<;>rfl
       rw[hkey]at hn;rcases vals with _|⟨x,_|⟨_,_⟩⟩
       ·rcases hkc with rfl|⟨ag,rfl⟩<;>simp[exec]at h
       · obtain⟨oc,y,sh',ts',h1,rfl⟩:∃oc y sh' ts',fu oc sz by_ x sh aa=some (y,sh',ts')∧out=⟨y,none,sh',ts'⟩:=by
           rcases hkc with rfl|⟨ag,rfl⟩
           ·simp only[exec,Option.map_eq_some_iff]at h;obtain⟨⟨y,ts'⟩,h1,rfl⟩:=h;exact⟨none,y,sh,ts',by simp[fu,h1],rfl⟩
           ·simp only[exec,Option.map_eq_some_iff]at h;obtain⟨⟨y,sh',ts'⟩,h1,rfl⟩:=h;exact⟨some ag,y,sh',ts',h1,rfl⟩
         have hl:=hr.length;obtain⟨v,hv⟩:∃v,c.args.toList.map a.eval=[v]:=List.length_eq_one_iff.1 (by simpa using hl);rw[hv]at hr;simp only[aw]at hr;obtain⟨v',r,e,hx,rfl⟩:=hr;cases e;have hC:=horc.c g sz by_ f hcl hg oc G w mem sh sh' aa ts' x y v hi hx h1;unfold Oper.wp;rw[hrun,hv];refine hC.mono ?_
         rintro e w' ⟨u,G',rfl,g1,g2,g3,g4⟩
         exact hn u w' G' g1 (by simpa[eR] using g2) g3 g4
       ·rcases hkc with rfl|⟨ag,rfl⟩<;>simp[exec]at h
     · -- without the shared memory
       simp only[exec]at h;split at h
       · rename_i cV hp;split at h
         · rename_i rs ts1 h1;cases h;have hC:=zn horc hg (ky hp hr) hi h1;unfold Oper.wp;rw[hrun];refine hC.mono ?_
           rintro e w' ⟨v,G',rfl,g1,g2,g3,g4⟩
           exact hn v w' G' g1 (by simpa[AK.key,eR] using g2) g3 g4
         ·simp at h
       ·simp at h
   · -- a function value
     have hkey:k.key=none:=by rcases hkv with rfl|rfl<;>rfl
     replace h:exec orc .fm vals none sh aa=some out:=by
       rcases hkv with rfl|rfl
       ·exact h
       ·exact uM h
     rw[hkey]at hn;cases vals with
     |nil=>simp[aw]at hr
     |cons x0 vals=>
       simp only[List.map_cons,aw]at hr;obtain⟨fv,r,e,hf,hr⟩:=hr;simp only[List.cons.injEq]at e;obtain⟨rfl,rfl⟩:=e;cases x0 with
       |fn g cap=>
         simp only[exec,Option.map_eq_some_iff]at h;obtain⟨⟨x,sh',ts'⟩,h1,rfl⟩:=h;simp only[aB]at hf;obtain⟨f,vs,hg,hv,hcap⟩:=hf
         have hrun:(execOp a.eval ⟨dst,.call c,type,pos,after,guard⟩).run P w=.ok (.enter f ((c.args.toList.map a.eval++vs).toArray)) w:=by
           obtain⟨callee,cargs,ctypes⟩:=c;simp only at hcal;subst hcal;simp only[execOp,resolve,Sem.run_bind];rw[hv];simp only[Deferred.ofValue,Sem.run_pure,Result.andThen_ok,invoke];rw[oF hB hg];congr 2;apply Array.ext';simp
         have hC:=lT horc hg (aw.append hr hcap) hi h1;unfold Oper.wp;rw[hrun];refine hC.mono ?_
         rintro e w' ⟨v,G',rfl,g1,g2,g3,g4⟩
         exact hn v w' G' g1 (by simpa[AK.key,eR] using g2) g3 g4
       |_=>simp[exec]at h
end
end Go.Ab
namespace Go.Ab
section
variable {n0:Nat} {P:Program} {ns:Names} {G:Gh} {w:World}
theorem lM.mono{G':Gh}{N:Nat}{env:List (Nat×AV)}{a:Act}(h:lM (num ns) G N env a)(hle:G.le G'):lM (num ns) G' N env a:=
 ⟨h.size,fun t x hx=>let ⟨v,h1,h2⟩:=h.env t x hx;⟨v,h1,h2.mono hle⟩⟩
theorem lM.put{N:Nat}{env:List (Nat×AV)}{a:Act}(h:lM (num ns) G N env a){dst:Option Nat}(hd:(dst.map (fun d=>decide (d<N))).getD true=true){x:AV}{v:Value}(hx:aB (num ns) G x v) :
   lM (num ns) G N (fy env dst x) (a.put dst v):=by
 cases dst with
 |none=>exact h
 |some d=>
   simp at hd;refine⟨by simp[Act.put,h.size],fun t y hy=>?_⟩;simp only[fy]at hy;by_cases ht:d=t
   ·subst ht;rw[bt]at hy;cases hy;exact⟨v,by simp[Act.put,h.size,hd],hx⟩
   ·rw[bK _ _ _ _ ht]at hy;obtain⟨u,h1,h2⟩:=h.env t y hy;exact⟨u,by simp only[Act.put];rw[Array.getElem?_setIfInBounds_ne ht];exact h1,h2⟩
theorem put_defers(a:Act)(dst:Option Nat)(v:Value):(a.put dst v).defers=a.defers:=by cases dst<;>rfl
theorem kN{A:jS}{N:Nat}{ops:Array Oper}{o:Oper}{ao:dI}(h:cI P ns A N ops o=some ao) :
   ∃args,bG P ns A o.dst o.op=some (ao.op,args)∧cd (iJ ns) args=some ao.args∧ao.dst=o.dst∧(o.dst.map (fun d=>decide (d<N))).getD true=true ∧
     ((o.guard=none∧ao.guard=none)∨∃j b t,o.guard=some (j,b)∧(ops[j]?).bind (·.dst)=some t∧ao.guard=some (t,b)):=by
 unfold cI at h;split at h
 · rename_i k args hk;split at h
   · rename_i as ha;simp only[Option.ite_none_right_eq_some]at h;obtain⟨hd,h⟩:=h;split at h
     ·rename_i hg;simp at h;subst h;exact⟨args,hk,ha,rfl,hd,.inl ⟨hg,rfl⟩⟩
     · rename_i j b hg;split at h
       ·rename_i t ht;simp at h;subst h;exact⟨args,hk,ha,rfl,hd,.inr ⟨j,b,t,hg,ht,rfl⟩⟩
       ·simp at h
   ·simp at h
 ·simp at h
theorem oN{A:jS}{N:Nat}{ops:Array Oper}{o:Oper}{ao:dI}{env:List (Nat×AV)}{a:Act}(h:cI P ns A N ops o=some ao)(he:lM (num ns) G N env a){r:Bool}
   (hw:fc env ao.guard=some r):Region.wanted o (yielded ops a.tmps)=r:=by
 obtain⟨_,_,_,_,_,hg⟩:=kN h;rcases hg with⟨h1,h2⟩|⟨j,b,t,h1,h2,h3⟩
 ·rw[h2]at hw;simp[fc]at hw;simp[Region.wanted,h1,hw]
 · rw[h3]at hw;simp only[fc]at hw;split at hw
   ·rename_i c hc;obtain⟨v,e1,e2⟩:=he.env t _ hc;simp only[aB,jb]at e2;simp at hw;simp[Region.wanted,h1,yielded,h2,e1,e2,hw]
   ·rename_i hc;obtain⟨v,e1,e2⟩:=he.env t _ hc;simp only[aB]at e2;simp at hw;simp[Region.wanted,h1,yielded,h2,e1,e2,undef,←hw]
   ·simp at hw
theorem B4(hB:eK P ns){orc:dX}(horc:gi P ns orc){A:jS}{N:Nat}{ops:Array Oper}{o:Oper}{ao:dI}(hc:cI P ns A N ops o=some ao)
   {st st':St} {a:Act} (hs:gK (num ns) n0 N G st a w) (hev:dN orc ao st=some st') {next:Act→World→Prop} {Q:Exit→Act→World→Prop}
   (hn:∀G' v w',gK (num ns) n0 N G' st' (a.put o.dst v) w'→bJ G w G' w'→next (a.put o.dst v) w') :
   (Region.wanted o (yielded ops a.tmps)=true∧o.wp P a w next Q)∨(Region.wanted o (yielded ops a.tmps)=false∧next (a.put o.dst undef) w):=by
 obtain⟨args,h1,h2,h3,h4,_⟩:=kN hc;unfold dN at hev;split at hev
 ·simp at hev
 ·rename_i hw;right;refine⟨oN hc hs.env hw,?_⟩;simp at hev;subst hev;refine hn G _ w ⟨?_,hs.inv,hs.marks.qA (bJ.refl G w) (put_defers _ _ _)⟩ (bJ.refl G w);simp only[h3];exact hs.env.put h4 (by simp[aB])
 · rename_i hw;left;refine⟨oN hc hs.env hw,?_⟩;split at hev
   ·simp at hev
   · rename_i vals hv;split at hev
     ·simp at hev
     ·rename_i out ho;simp at hev;subst hev;have hr:=yE hs.env h2 hv;refine M_ hB horc h1 hr hs.inv ho ?_;intro v w' G' g1 g2 g3 g4;refine hn G' _ w' ⟨?_,g2,hs.marks.qA g4 (put_defers _ _ _)⟩ g4;simp only[h3];exact (hs.env.mono g3).put h4 g1
end
end Go.Ab
namespace Go.Ab
section
variable {orc:dX}
def Js(E:Nat→Option AV):eJ→Option AV
 | .t n=>E n
 | .c v=>some v
def j8(E:Nat→Option AV):List eJ→Option (List AV)
 |[]=>some []
 |x::r=>match Js E x,j8 E r with
   |some v,some vs=>some (v::vs)
   |_,_=>none
def mG(E:Nat→Option AV):Option (Nat×Bool)→Option Bool
 |none=>some true
 |some (t,b)=>match E t with
   |some (.pv (.bool c))=>some (c == b)
   |some .un=>some false
   |_=>none
def cO(orc:dX)(o:dI)(E:Nat→Option AV)(M:Nat→Option (List AV))(sh:Sh)(aa:aG):Option Out:=
 match mG E o.guard with
 |none=>none
 |some false=>some ⟨.un,none,sh,aa⟩
 |some true=>match j8 E o.args with
   |none=>none
   |some vals=>exec orc o.op vals (o.op.key.bind M) sh aa
theorem sW(env:List (Nat×AV)):∀l,dQ env l=j8 (look env) l
 |[]=>rfl
 |x::l=>by
   have:gQ env x=Js (look env) x:=by cases x<;>rfl
   simp only[dQ,j8,this,sW env l];rfl
theorem d_(o:dI)(st:St):dN orc o st=(cO orc o (look st.env) (look st.mem) st.sh st.aa).map
   fun r=>{ env:=fy st.env o.dst r.val,mem:=eR st.mem o.op.key r.cells,sh:=r.sh,aa:=r.aa }:=by
 unfold dN cO
 have hw:fc st.env o.guard=mG (look st.env) o.guard:=by
   cases o.guard with
   |none=>rfl
   |some g=>rfl
 rw[hw];cases mG (look st.env) o.guard with
 |none=>rfl
 |some b=>cases b with
   |false=>simp[ff]
   |true=>
     simp only[sW];cases j8 (look st.env) o.args with
     |none=>rfl
     |some vals=>
       simp only;cases exec orc o.op vals (o.op.key.bind (look st.mem)) st.sh st.aa<;>rfl
theorem lU{E E':Nat→Option AV}:∀{l:List eJ},(∀t∈l.filterMap (fun| .t n=>some n|_=>none),E t=E' t)→j8 E l=j8 E' l
 |[],_=>rfl
 | .c v::l,h=>by
   simp only[j8,Js];rw[lU (l:=l) (fun t ht=>h t (by simpa using ht))]
 | .t n::l,h=>by
   simp only[j8,Js];rw[lU (l:=l) (fun t ht=>h t (by simp only[List.filterMap_cons,List.mem_cons];exact .inr ht)),h n (by simp)]
theorem gC{o:dI}{E E':Nat→Option AV}{M M':Nat→Option (List AV)}{sh:Sh}{aa:aG}(hE:∀t∈o.looks,E t=E' t)(hM:∀k,o.op.key=some k→M k=M' k) :
   cO orc o E M sh aa=cO orc o E' M' sh aa:=by
 have h1:mG E o.guard=mG E' o.guard:=by
   cases hg:o.guard with
   |none=>rfl
   |some g=>
     obtain⟨t,b⟩:=g;simp only[mG];rw[hE t (by simp[dI.looks,hg])]
 have h2:j8 E o.args=j8 E' o.args:=lU fun t ht=>hE t (by simp only[dI.looks,List.mem_append];exact .inl ht)
 have h3:o.op.key.bind M=o.op.key.bind M':=by
   cases hk:o.op.key with
   |none=>rfl
   |some k=>exact hM k hk
 unfold cO;rw[h1,h2,h3]
theorem Qp{op:AK}{vals:List AV}{cells:Option (List AV)}{sh:Sh}{aa:aG}{r:Out}(ht:op.iC=false)(h:exec orc op vals cells sh aa=some r) :
   r.sh=sh∧∀sh',exec orc op vals cells sh' aa=some { r with sh:=sh' }:=by
 cases op with
 |v vo=>
   simp only[exec,Option.map_eq_some_iff]at h⊢;obtain⟨x,h1,rfl⟩:=h;exact⟨rfl,fun sh'=>⟨x,h1,rfl⟩⟩
 |bX k o s ag=>
   obtain⟨cs,x,rfl,rfl,hx,rfl⟩:=gY h;exact⟨rfl,fun sh'=>by simp[exec,hx]⟩
 |bB k o s=>
   obtain⟨cs,v,rfl,rfl,h1,h2,h3,rfl⟩:=ir h;exact⟨rfl,fun sh'=>by simp[exec,h1,h2,h3]⟩
 |alloc k z=>
   obtain⟨rfl,rfl,rfl⟩:=jg h;exact⟨rfl,fun sh'=>by simp[exec]⟩
 |box k s=>
   obtain⟨v,rfl,rfl,h1,h2,rfl⟩:=lO h;exact⟨rfl,fun sh'=>by simp only[exec];rw[if_pos ⟨h1,h2⟩]⟩
 |ik d s b z=>
   obtain⟨k,k',n,rfl,h1,h2,h3,h4,rfl,rfl⟩:=jh h;exact⟨rfl,fun sh'=>by simp[exec,h1,h2,h3,h4]⟩
 |append s b=>
   obtain⟨s,x,y,ts,rfl,h1,rfl⟩:=jE h;exact⟨rfl,fun sh'=>by simp[exec,h1]⟩
 |dC s b ag=>simp[AK.iC]at ht
 |ot s b=>first|(simp[exec]at h;done)|(simp[exec]at e;done)|(simp[exec];done)
 |gv s z=>simp[AK.iC]at ht
 |jx s=>simp[AK.iC]at ht
 |clone s b=>
   obtain⟨x,y,ts,rfl,h1,rfl⟩:=nC h;exact⟨rfl,fun sh'=>by simp[exec,h1]⟩
 |aJ g=>
   simp only[exec]at h⊢;split at h
   ·rename_i cV hp;simp only[Option.map_eq_some_iff]at h;obtain⟨rs,h1,rfl⟩:=h;exact⟨rfl,fun sh'=>by simp[h1]⟩
   ·simp at h
 |lH g=>
   simp only[exec]at h⊢;split at h
   · rename_i cV hp;split at h
     ·rename_i rs ts1 h1;cases h;exact⟨rfl,fun sh'=>by simp[h1]⟩
     ·simp at h
   ·simp at h
 |_=>simp[AK.iC]at ht
theorem Qq{op:AK}{vals:List AV}{cells:Option (List AV)}{sh:Sh}{aa:aG}{r:Out}(ht:op.f_=false)(h:exec orc op vals cells sh aa=some r) :
   r.aa=aa∧∀ts,exec orc op vals cells sh ts=some { r with aa:=ts }:=by
 cases op with
 |v vo=>
   simp only[exec,Option.map_eq_some_iff]at h⊢;obtain⟨x,h1,rfl⟩:=h;exact⟨rfl,fun ts=>⟨x,h1,rfl⟩⟩
 |bX k o s ag=>
   obtain⟨cs,x,rfl,rfl,hx,rfl⟩:=gY h;exact⟨rfl,fun ts=>by simp[exec,hx]⟩
 |bB k o s=>
   obtain⟨cs,v,rfl,rfl,h1,h2,h3,rfl⟩:=ir h;exact⟨rfl,fun ts=>by simp[exec,h1,h2,h3]⟩
 |alloc k z=>
   obtain⟨rfl,rfl,rfl⟩:=jg h;exact⟨rfl,fun ts=>by simp[exec]⟩
 |box k s=>
   obtain⟨v,rfl,rfl,h1,h2,rfl⟩:=lO h;exact⟨rfl,fun ts=>by simp only[exec];rw[if_pos ⟨h1,h2⟩]⟩
 |ik d s b z=>
   obtain⟨k,k',n,rfl,h1,h2,h3,h4,rfl,rfl⟩:=jh h;exact⟨rfl,fun ts=>by simp[exec,h1,h2,h3,h4]⟩
 |append s b=>simp[AK.f_]at ht
 |dC s b ag=>simp[AK.f_]at ht
 |ot s b=>first|(simp[exec]at h;done)|(simp[exec]at e;done)|(simp[exec];done)
 |clone s b=>simp[AK.f_]at ht
 |gr s b ag=>
   rcases vals with _|⟨x,_|⟨_,_⟩⟩
   ·simp[exec]at h
   · simp only[exec,fu]at h⊢;split at h
     · rename_i xs hx;split at h
       ·rename_i hh;simp only[Option.map_map,Option.map_eq_some_iff]at h;obtain⟨⟨y,sh'⟩,h1,rfl⟩:=h;refine⟨rfl,fun ts=>?_⟩;simp[hx,hh,h1]
       ·simp at h
     ·simp at h
   ·simp[exec]at h
 |gv s z=>
   obtain⟨x,sh',rfl,h1,rfl⟩:=qK h;exact⟨rfl,fun ts=>by simp[exec,h1]⟩
 |jx s=>
   obtain⟨x,y,xs,k,sh',rfl,h0,h1,rfl⟩:=kG h;exact⟨rfl,fun ts=>by simp[exec,h0,h1]⟩
 |Ew=>first|(simp[exec]at h;done)|(simp[exec]at e;done)|(simp[exec];done)
 |sr c ok z=>first|(simp[exec]at h;done)|(simp[exec]at e;done)|(simp[exec];done)
 |M0 c=>first|(simp[exec]at h;done)|(simp[exec]at e;done)|(simp[exec];done)
 |aJ g=>
   simp only[exec]at h⊢;split at h
   ·rename_i cV hp;simp only[Option.map_eq_some_iff]at h;obtain⟨rs,h1,rfl⟩:=h;exact⟨rfl,fun ts=>by simp[h1]⟩
   ·simp at h
 |en g=>
   simp only[exec]at h⊢;split at h
   ·rename_i cV hp;simp only[Option.map_eq_some_iff]at h;obtain⟨rs,h1,rfl⟩:=h;exact⟨rfl,fun ts=>by simp[h1]⟩
   ·simp at h
 |bz g own=>simp[AK.f_]at ht
 |lH g=>simp[AK.f_]at ht
 |fm=>simp[AK.f_]at ht
 |eU=>simp[AK.f_]at ht
 |dU s ag=>
   obtain⟨p,x,rfl,rfl,hor⟩:=kE h;refine⟨rfl,fun ts=>?_⟩;rcases hor with⟨cs,rfl,hx⟩|⟨b,off,cs,rfl,hcs,hm,hx⟩
   ·simp[exec,hx]
   ·simp[exec,hcs,hm,hx]
 |fo s=>
   obtain⟨b,off,v,cs,rfl,hcs,h0,h1,h2,h3,h4,rfl⟩:=iu h;refine⟨rfl,fun ts=>?_⟩;simp only[exec,hcs];rw[if_pos ⟨h0,h1,h2,h3,h4⟩]
 |wE s=>first|(simp[exec]at h;done)|(simp[exec]at e;done)|(simp[exec];done)
 |oq s=>
   obtain⟨v,rfl,h1,h2,h3,rfl⟩:=mD h;refine⟨rfl,fun ts=>?_⟩;simp only[exec];rw[if_pos ⟨h1,h2,h3⟩]
 |MZ s=>first|(simp[exec]at h;done)|(simp[exec]at e;done)|(simp[exec];done)
 |iX z=>
   obtain⟨rfl,rfl⟩:=jD h;exact⟨rfl,fun ts=>by simp[exec]⟩
 |iY s b ag z=>
   obtain⟨k,k',n,rfl,h1,h2,h3,h4,rfl⟩:=kF h;exact⟨rfl,fun ts=>by simp[exec,h1,h2,h3,h4]⟩
theorem Qr{op:AK}{vals:List AV}{cells:Option (List AV)}{sh:Sh}{aa:aG}{r:Out}(ht:op.ie=false)(hk:op.key≠none)(h:exec orc op vals cells sh aa=some r):r.cells=none:=by
 cases op with
 |bX k o s ag=>
   obtain⟨cs,x,rfl,rfl,hx,rfl⟩:=gY h;rfl
 |bB k o s=>simp[AK.ie]at ht
 |alloc k z=>simp[AK.ie]at ht
 |box k s=>simp[AK.ie]at ht
 |ik d s b z=>simp[AK.ie]at ht
 |_=>simp[AK.key]at hk
theorem uN{sz:Nat}{ag:Bool}{vals:List AV}{cells:Option (List AV)}{sh:Sh}{aa:aG}{r:Out}(h:exec orc (.dU sz ag) vals cells sh aa=some r):r.sh=sh:=by
 obtain⟨p,x,rfl,rfl,_⟩:=kE h;rfl
theorem uO{c:CK}{ok:Bool}{z:PV}{vals:List AV}{cells:Option (List AV)}{sh:Sh}{aa:aG}{r:Out}(h:exec orc (.sr c ok z) vals cells sh aa=some r):r.sh=sh:=by simp[exec]at h
theorem sX{vals:List AV}{cells:Option (List AV)}{sh:Sh}{aa:aG}{r:Out}(h:exec orc .eU vals cells sh aa=some r):r.sh=sh:=by
 cases vals with
 |nil=>simp[exec]at h
 |cons f vals=>
   cases f with
   |fn g cap=>
     simp only[exec,Option.bind_eq_some_iff]at h;obtain⟨⟨v,sh',ts⟩,_,h2⟩:=h;simp only[Vx,Option.ite_none_right_eq_some,Option.some.injEq]at h2;rw[←h2.2]
   |_=>simp[exec]at h
theorem sY{o:dI}{E:Nat→Option AV}{M:Nat→Option (List AV)}{sh:Sh}{aa:aG}{r:Out}(ht:o.op.iC=false)(h:cO orc o E M sh aa=some r) :
   r.sh=sh∧∀sh',cO orc o E M sh' aa=some { r with sh:=sh' }:=by
 unfold cO at *;split at h
 ·simp at h
 ·simp at h;subst h;exact⟨rfl,fun _=>rfl⟩
 · split at h
   ·simp at h
   ·exact Qp ht h
theorem zo{o:dI}{E:Nat→Option AV}{M:Nat→Option (List AV)}{sh:Sh}{aa:aG}{r:Out}(ht:o.op.ve=true)(h:cO orc o E M sh aa=some r):r.sh=sh:=by
 unfold cO at *;split at h
 ·simp at h
 ·simp at h;subst h;rfl
 · split at h
   ·simp at h
   · rename_i vals _;cases ho:o.op with
     |dU sz ag=>
       rw[ho]at h;have hl:=uN h;exact hl
     |sr c ok z=>
       rw[ho]at h;exact uO h
     |eU=>
       rw[ho]at h;exact sX h
     |_=>rw[ho]at ht;simp[AK.ve]at ht
theorem oO{o:dI}{E:Nat→Option AV}{M:Nat→Option (List AV)}{sh:Sh}{aa:aG}{r:Out}(ht:o.op.f_=false)(h:cO orc o E M sh aa=some r) :
   r.aa=aa∧∀ts,cO orc o E M sh ts=some { r with aa:=ts }:=by
 unfold cO at *;split at h
 ·simp at h
 ·simp at h;subst h;exact⟨rfl,fun _=>rfl⟩
 · split at h
   ·simp at h
   ·exact Qq ht h
theorem oP{o:dI}{E:Nat→Option AV}{M:Nat→Option (List AV)}{sh:Sh}{aa:aG}{r:Out}(ht:o.op.ie=false)(hk:o.op.key≠none)(h:cO orc o E M sh aa=some r):r.cells=none:=by
 unfold cO at h;split at h
 ·simp at h
 ·simp at h;subst h;rfl
 · split at h
   ·simp at h
   ·exact Qr ht hk h
structure jK(x y:St):Prop where
 env:∀t,look x.env t=look y.env t
 mem:∀t,look x.mem t=look y.mem t
 sh:x.sh=y.sh
 aa:x.aa=y.aa
theorem jK.refl(x:St):jK x x:=⟨fun _=>rfl,fun _=>rfl,rfl,rfl⟩
theorem jK.symm{x y:St}(h:jK x y):jK y x:=⟨fun t=>(h.env t).symm,fun t=>(h.mem t).symm,h.sh.symm,h.aa.symm⟩
theorem jK.trans{x y z:St}(h:jK x y)(k:jK y z):jK x z:=⟨fun t=>(h.env t).trans (k.env t),fun t=>(h.mem t).trans (k.mem t),h.sh.trans k.sh,h.aa.trans k.aa⟩
theorem eE(env:List (Nat×AV))(d:Option Nat)(v:AV)(t:Nat):look (fy env d v) t=if d=some t then some v else look env t:=by
 cases d with
 |none=>simp[fy]
 |some d=>
   simp only[fy,Option.some.injEq];by_cases h:d=t
   ·subst h;rw[if_pos rfl,bt]
   ·rw[if_neg h,bK _ _ _ _ h]
theorem mH(mem:List (Nat×List AV))(k:Option Nat)(c:Option (List AV))(t:Nat):look (eR mem k c) t=if k=some t then (match c with|some cs=>some cs|none=>look mem t) else look mem t:=by
 cases c with
 |none=>rw[ff];split<;>rfl
 |some cs=>
   cases k with
   |none=>simp[eR]
   |some k=>
     simp only[eR,Option.some.injEq];by_cases h:k=t
     ·subst h;rw[if_pos rfl,bt]
     ·rw[if_neg h,bK _ _ _ _ h]
theorem F9{o:dI}{x y x':St}(h:jK x y)(he:dN orc o x=some x'):∃y',dN orc o y=some y'∧jK x' y':=by
 rw[d_,Option.map_eq_some_iff]at he;obtain⟨r,hr,rfl⟩:=he
 have:cO orc o (look y.env) (look y.mem) y.sh y.aa=some r:=by
   rw[←h.sh,←h.aa,←hr];exact (gC (fun t _=>h.env t) (fun t _=>h.mem t)).symm
 refine⟨{ env:=fy y.env o.dst r.val,mem:=eR y.mem o.op.key r.cells,sh:=r.sh,aa:=r.aa },by rw[d_,this];rfl,⟨fun t=>?_,fun t=>?_,rfl,rfl⟩⟩
 ·simp only[eE,h.env]
 ·simp only[mH,h.mem]
end
end Go.Ab
namespace Go.Ab
section
variable {orc:dX}
theorem pW{x y:dI}(h:indep x y=true) :
   (∀d,x.dst=some d→d∉y.looks∧y.dst≠some d)∧(∀d,y.dst=some d→d∉x.looks)∧(x.op.iC=false∨y.op.iC=false∨(x.op.ve=true∧y.op.ve=true))∧(x.op.f_=false∨y.op.f_=false) ∧
   (∀k,x.op.key=some k→y.op.key=some k→x.op.ie=false∧y.op.ie=false):=by
 simp only[indep,Bool.and_eq_true,Bool.or_eq_true,Bool.not_eq_true',Bool.and_eq_false_iff]at h;obtain⟨⟨⟨⟨h1,h2⟩,h3⟩,h4⟩,h5⟩:=h;refine⟨fun d hd=>?_,fun d hd=>?_,h3.elim (fun h=>h.elim .inl fun h=>.inr (.inl h)) fun h=>.inr (.inr h),h4,fun k hx hy=>?_⟩
 ·rw[hd]at h1;simp at h1;exact h1
 ·rw[hd]at h2;simpa using h2
 ·rw[hx,hy]at h5;simp at h5;exact h5
theorem Na{x y:dI}(h:indep x y=true){st st1 st2:St}(h1:dN orc x st=some st1)(h2:dN orc y st1=some st2) :
   ∃st1' st2',dN orc y st=some st1'∧dN orc x st1'=some st2'∧jK st2' st2:=by
 obtain⟨hd1,hd2,hS,hT,hK⟩:=pW h;rw[d_,Option.map_eq_some_iff]at h1 h2;obtain⟨r1,hr1,rfl⟩:=h1;obtain⟨r2,hr2,rfl⟩:=h2;simp only at hr2
 have hr2':cO orc y (look st.env) (look st.mem) r1.sh r1.aa=some r2:=by
   rw[←hr2];refine gC (fun t ht=>?_) (fun k hk=>?_)
   ·rw[eE,if_neg];intro e;exact (hd1 t e).1 ht
   · rw[mH];split
     ·rename_i e;have:=oP (hK k e hk).1 (by rw[e];simp) hr1;rw[this]
     ·rfl
 obtain⟨sh',ts',hy,hsh,hts⟩:∃sh' ts',cO orc y (look st.env) (look st.mem) st.sh st.aa=some { r2 with sh:=sh',aa:=ts' } ∧
     ((x.op.iC=false∧sh'=r2.sh∧r1.sh=st.sh)∨(sh'=st.sh∧r2.sh=r1.sh)) ∧
     ((x.op.f_=false∧ts'=r2.aa∧r1.aa=st.aa)∨(y.op.f_=false∧ts'=st.aa∧r2.aa=r1.aa)):=by
   have stepS:∃sh',cO orc y (look st.env) (look st.mem) st.sh r1.aa=some { r2 with sh:=sh' }∧((x.op.iC=false∧sh'=r2.sh∧r1.sh=st.sh)∨(sh'=st.sh∧r2.sh=r1.sh)):=by
     rcases hS with hS|hS|⟨hS,hS'⟩
     ·have e:=(sY hS hr1).1;exact⟨r2.sh,by rw[←e];exact hr2',.inl ⟨hS,rfl,e⟩⟩
     ·obtain⟨e,f⟩:=sY hS hr2';exact⟨st.sh,f st.sh,.inr ⟨rfl,e⟩⟩
     ·have e:=zo hS hr1;have e2:=zo hS' hr2';exact⟨r2.sh,by rw[←e];exact hr2',.inr ⟨e2.trans e,e2⟩⟩
   obtain⟨sh',hy1,hsh⟩:=stepS;rcases hT with hT|hT
   ·have e:=(oO hT hr1).1;exact⟨sh',r2.aa,by rw[←e];exact hy1,hsh,.inl ⟨hT,rfl,e⟩⟩
   ·obtain⟨_,f⟩:=oO hT hy1;have e:=(oO hT hr2').1;exact⟨sh',st.aa,f st.aa,hsh,.inr ⟨hT,rfl,e⟩⟩
 refine⟨{ env:=fy st.env y.dst r2.val,mem:=eR st.mem y.op.key r2.cells,sh:=sh',aa:=ts' },?_⟩
 have hx:cO orc x (look (fy st.env y.dst r2.val)) (look (eR st.mem y.op.key r2.cells)) st.sh st.aa=some r1:=by
   rw[←hr1];refine gC (fun t ht=>?_) (fun k hk=>?_)
   ·rw[eE,if_neg];intro e;exact hd2 t e ht
   · rw[mH];split
     ·rename_i e;have:=oP (hK k hk e).2 (by rw[e];simp) hr2';rw[this]
     ·rfl
 obtain⟨r1',hx',hval,hcells,hsh2,hts2⟩:∃r1',cO orc x (look (fy st.env y.dst r2.val)) (look (eR st.mem y.op.key r2.cells)) sh' ts'=some r1'∧r1'.val=r1.val∧r1'.cells=r1.cells∧r1'.sh=r2.sh∧r1'.aa=r2.aa:=by
   have stepS:∃r1',cO orc x (look (fy st.env y.dst r2.val)) (look (eR st.mem y.op.key r2.cells)) sh' st.aa=some r1'∧r1'.val=r1.val∧r1'.cells=r1.cells∧r1'.sh=r2.sh∧r1'.aa=r1.aa:=by
     rcases hsh with⟨hS,rfl,_⟩|⟨rfl,e⟩
     ·exact⟨_,(sY hS hx).2 r2.sh,rfl,rfl,rfl,rfl⟩
     ·exact⟨r1,hx,rfl,rfl,e.symm,rfl⟩
   obtain⟨ra,ha,a1,a2,a3,a4⟩:=stepS;rcases hts with⟨hT,rfl,_⟩|⟨_,rfl,e⟩
   ·exact⟨_,(oO hT ha).2 r2.aa,a1,a2,a3,rfl⟩
   ·exact⟨ra,ha,a1,a2,a3,a4.trans e.symm⟩
 refine⟨{ env:=fy (fy st.env y.dst r2.val) x.dst r1'.val,mem:=eR (eR st.mem y.op.key r2.cells) x.op.key r1'.cells,sh:=r1'.sh,aa:=r1'.aa },?_,?_,?_⟩
 ·rw[d_,hy];rfl
 ·rw[d_,hx'];rfl
 · refine⟨fun t=>?_,fun t=>?_,hsh2,hts2⟩
   · simp only[eE,hval];by_cases hx:x.dst=some t
     ·rw[if_pos hx,if_neg (hd1 t hx).2,if_pos hx]
     ·rw[if_neg hx,if_neg hx]
   · simp only[mH,hcells];by_cases hx:x.op.key=some t
     · rw[if_pos hx,if_pos hx];by_cases hy:y.op.key=some t
       ·rw[if_pos hy,if_pos hy];have e1:=oP (hK t hx hy).1 (by rw[hx];simp) hr1;have e2:=oP (hK t hx hy).2 (by rw[hy];simp) hr2';rw[e1,e2]
       ·rw[if_neg hy,if_neg hy]
     ·rw[if_neg hx,if_neg hx]
theorem w8{o:dI}{a:Nat}(h:o.addr=some a):∃r,o.args=.t a::r∧((∃sz ag,o.op=.dU sz ag)∨∃sz,o.op=.fo sz):=by
 unfold dI.addr at h;split at h
 ·rename_i sz ag a' r h1 h2;cases h;exact⟨r,h2,.inl ⟨sz,ag,h1⟩⟩
 ·rename_i sz a' r h1 h2;cases h;exact⟨r,h2,.inr ⟨sz,h1⟩⟩
 ·cases h
theorem sZ{o:dI}{a:Nat}(h:o.addr=some a):a∈o.looks:=by
 obtain⟨r,h1,_⟩:=w8 h;simp[dI.looks,h1]
theorem zp{o:dI}{a:Nat}(h:o.addr=some a):o.op.key=none:=by
 obtain⟨r,_,h|h⟩:=w8 h
 ·obtain⟨_,_,h⟩:=h;rw[h];rfl
 ·obtain⟨_,h⟩:=h;rw[h];rfl
def F_(b:Nat)(g:Sh→Sh):Prop:=g=id∨∃x,g=fun s=>s.set b x
theorem F_.other{b b':Nat}{g:Sh→Sh}(h:F_ b g)(hb:b≠b')(s:Sh):(g s)[b']?=s[b']?:=by
 rcases h with rfl|⟨x,rfl⟩
 ·rfl
 ·exact List.getElem?_set_ne hb
theorem F_.comm{b b':Nat}{g g':Sh→Sh}(h:F_ b g)(h':F_ b' g')(hb:b≠b')(s:Sh):g (g' s)=g' (g s):=by
 rcases h with rfl|⟨x,rfl⟩
 ·rfl
 · rcases h' with rfl|⟨y,rfl⟩
   ·rfl
   ·exact (List.set_comm _ _ hb.symm)
theorem qU{o:dI}{a:Nat}(h:o.addr=some a){E:Nat→Option AV}{M:Nat→Option (List AV)}{sh:Sh}{aa:aG}{r:Out}{b off:Nat}(hE:E a=some (.aW b off))
   (hr:cO orc o E M sh aa=some r):r.cells=none∧r.aa=aa∧∃g,F_ b g∧r.sh=g sh∧∀sh',sh'[b]?=sh[b]?→cO orc o E M sh' aa=some { r with sh:=g sh' }:=by
 obtain⟨rest,h1,h2⟩:=w8 h;unfold cO at hr⊢;split at hr
 ·simp at hr
 ·simp at hr;subst hr;exact⟨rfl,rfl,id,.inl rfl,rfl,fun sh' _=>rfl⟩
 · rw[h1]at hr⊢;simp only[j8,Js,hE]at hr⊢;cases hv:j8 E rest with
   |none=>rw[hv]at hr;simp at hr
   |some vs=>
     rw[hv]at hr;simp only at hr⊢;rcases h2 with⟨sz,ag,h2⟩|⟨sz,h2⟩
     · rw[h2]at hr⊢;obtain⟨p,x,hp,rfl,hor⟩:=kE hr;refine⟨rfl,rfl,id,.inl rfl,rfl,fun sh' hs=>?_⟩;cases vs with
       |cons _ _=>simp at hp
       |nil=>
         simp at hp;rcases hor with⟨cs,rfl,hx⟩|⟨b',off',cs,rfl,hcs,hm,hx⟩
         ·simp at hp
         ·simp at hp;obtain⟨rfl,rfl⟩:=hp;simp[exec,hs,hcs,hm,hx]
     ·rw[h2]at hr⊢;obtain⟨b',off',v,cs,hp,hcs,h0,h1',h2',h3,h4,rfl⟩:=iu hr;simp at hp;obtain⟨⟨rfl,rfl⟩,rfl⟩:=hp;refine⟨rfl,rfl,fun s=>s.set b (some (aQ cs off (cr v))),.inr ⟨_,rfl⟩,rfl,fun sh' hs=>?_⟩;simp only[exec,hs,hcs];rw[if_pos ⟨h0,h1',h2',h3,h4⟩]
def Ss(F:Nat→Option AV)(x y:dI):Prop:=indep x y=true ∨
 ((∀d,x.dst=some d→d∉y.looks∧y.dst≠some d)∧(∀d,y.dst=some d→d∉x.looks)∧∃a b,x.addr=some a∧y.addr=some b∧apart (F a) (F b)=true)
theorem vt{x y:Option AV}(h:apart x y=true):∃b o b' o',x=some (.aW b o)∧y=some (.aW b' o')∧b≠b':=by
 unfold apart at h;split at h
 ·rename_i b o b' o';exact⟨b,o,b',o',rfl,rfl,by simpa using h⟩
 ·cases h
theorem Jt{F:Nat→Option AV}{x y:dI}(h:Ss F x y){st st1 st2:St}(hx:∀a,x.addr=some a→look st.env a=F a)(hy:∀a,y.addr=some a→look st1.env a=F a)
   (h1:dN orc x st=some st1) (h2:dN orc y st1=some st2) :
   ∃st1' st2',dN orc y st=some st1'∧dN orc x st1'=some st2'∧jK st2' st2∧(∀a,y.addr=some a→look st.env a=F a)∧(∀a,x.addr=some a→look st1'.env a=F a):=by
 have hside:(∀d,x.dst=some d→d∉y.looks∧y.dst≠some d)∧(∀d,y.dst=some d→d∉x.looks):=by
   rcases h with h|h
   ·exact⟨(pW h).1,(pW h).2.1⟩
   ·exact⟨h.1,h.2.1⟩
 have hyst:∀a,y.addr=some a→look st.env a=F a:=by
   intro a ha;have h3:=hy a ha;rw[d_,Option.map_eq_some_iff]at h1;obtain⟨r1,_,rfl⟩:=h1;rw[←h3];simp only[eE];rw[if_neg];intro e;exact (hside.1 a e).1 (sZ ha)
 have hxst:∀st1',dN orc y st=some st1'→∀a,x.addr=some a→look st1'.env a=F a:=by
   intro st1' h3 a ha;rw[d_,Option.map_eq_some_iff]at h3;obtain⟨r1,_,rfl⟩:=h3;rw[←hx a ha];simp only[eE];rw[if_neg];intro e;exact hside.2 a e (sZ ha)
 rcases h with h|⟨hd1,hd2,a,b,ha,hb,hap⟩
 ·obtain⟨st1',st2',g1,g2,g3⟩:=Na h h1 h2;exact⟨st1',st2',g1,g2,g3,hyst,hxst st1' g1⟩
 · obtain⟨ba,oa,bb,ob,fa,fb,hne⟩:=vt hap;have hE1:look st.env a=some (.aW ba oa):=(hx a ha).trans fa;have hE2:look st.env b=some (.aW bb ob):=(hyst b hb).trans fb;have h1':=h1;rw[d_,Option.map_eq_some_iff]at h1 h2;obtain⟨r1,hr1,rfl⟩:=h1;obtain⟨r2,hr2,rfl⟩:=h2;obtain⟨c1,t1,gx,tx,s1,k1⟩:=qU ha hE1 hr1;simp only at hr2
   have hr2':cO orc y (look st.env) (look st.mem) (gx st.sh) st.aa=some r2:=by
     rw[←hr2,s1,t1];refine gC (fun t ht=>?_) (fun k hk=>?_)
     ·rw[eE,if_neg];intro e;exact (hd1 t e).1 ht
     ·rw[zp hb]at hk;cases hk
   obtain⟨c2,t2,gy,ty,s2,k2⟩:=qU hb hE2 hr2';have hy0:=k2 st.sh (tx.other hne st.sh).symm
   have hy1:dN orc y st=some { env:=fy st.env y.dst r2.val,mem:=eR st.mem y.op.key r2.cells,sh:=gy st.sh,aa:=r2.aa }:=by
     rw[d_,hy0];rfl
   have hx0:cO orc x (look (fy st.env y.dst r2.val)) (look (eR st.mem y.op.key r2.cells)) (gy st.sh) r2.aa=some { r1 with sh:=gx (gy st.sh) }:=by
     rw[←k1 (gy st.sh) (ty.other (Ne.symm hne) st.sh),t2];refine gC (fun t ht=>?_) (fun k hk=>?_)
     ·rw[eE,if_neg];intro e;exact hd2 t e ht
     ·rw[zp ha]at hk;cases hk
   refine⟨_,{ env:=fy (fy st.env y.dst r2.val) x.dst r1.val,mem:=eR (eR st.mem y.op.key r2.cells) x.op.key r1.cells,sh:=gx (gy st.sh),aa:=r1.aa },hy1,?_,?_,hyst,hxst _ hy1⟩
   ·rw[d_,hx0];rfl
   · refine⟨fun t=>?_,fun t=>?_,?_,?_⟩
     · simp only[eE];by_cases hx:x.dst=some t
       ·rw[if_pos hx,if_neg (hd1 t hx).2,if_pos hx]
       ·rw[if_neg hx,if_neg hx]
     ·simp only[c1,c2,ff]
     ·simp only[s2];exact tx.comm ty hne st.sh
     ·simp only[t1,t2]
variable {ops:Array Oper} {as:List dI} {R:St→Prop} {F:Nat→Option AV}
def zq(orc:dX)(ops:Array Oper)(as:List dI)(F:Nat→Option AV)(R:St→Prop):Nat→Array Bool→St→Prop
 |0,listed,st=>Region.ready .any ops listed=[]∧R st
 |fuel+1,listed,st=>(Region.ready .any ops listed=[]→R st) ∧
   ∀i∈Region.ready .any ops listed,∃ao st',as[i]?=some ao∧(∀a,ao.addr=some a→look st.env a=F a)∧dN orc ao st=some st'∧zq orc ops as F R fuel (listed.setIfInBounds i true) st'
theorem vu(hR:∀x y,jK x y→R x→R y):∀{fuel:Nat} {listed:Array Bool} {x y:St},jK x y→zq orc ops as F R fuel listed x→zq orc ops as F R fuel listed y
 |0,_,_,_,hl,h=>⟨h.1,hR _ _ hl h.2⟩
 |fuel+1,_,_,_,hl,h=>⟨fun h0=>hR _ _ hl (h.1 h0),fun i hi=>by
     obtain⟨ao,st',h1,h6,h2,h3⟩:=h.2 i hi;obtain⟨y',h4,h5⟩:=F9 hl h2;exact⟨ao,y',h1,fun a ha=>(hl.env a).symm.trans (h6 a ha),h4,vu hR h5 h3⟩⟩
def Down(ops:Array Oper)(listed:Array Bool):Prop:=∀k o,ops[k]?=some o→listed.getD k false=true→∀e∈o.after,Region.binds .any e=true→listed.getD e.on false=true
theorem Down.step{listed:Array Bool}(h:Down ops listed){i:Nat}(hi:i∈Region.ready .any ops listed):Down ops (listed.setIfInBounds i true):=by
 intro k o ho hk e he hb;by_cases hik:i=k
 ·subst hik;obtain⟨_,o',ho',hall⟩:=mem_ready.1 hi;rw[ho]at ho';cases ho';exact getD_set_true (hall e he hb)
 ·rw[getD_set_ne false hik]at hk;exact getD_set_true (h k o ho hk e he hb)
theorem B5(hR:∀x y,jK x y→R x→R y){i:Nat}{ai:dI}(hai:as[i]?=some ai){waits:Nat→Bool}
   (hwait:∀(listed:Array Bool),Down ops listed→∀j∈Region.ready .any ops listed,waits j=true→listed.getD i false=true) :
   ∀(fuel:Nat) (listed:Array Bool) (st st1:St),Down ops listed →
     (∀j aj,as[j]?=some aj→j≠i→listed.getD j true=false→waits j=false→Ss F ai aj)→(∀a,ai.addr=some a→look st.env a=F a) →
     i∈Region.ready .any ops listed→dN orc ai st=some st1→zq orc ops as F R fuel (listed.setIfInBounds i true) st1→zq orc ops as F R (fuel+1) listed st:=by
 intro fuel;induction fuel with
 |zero=>
   intro listed st st1 hdown hfree haddr hi hev H;refine⟨fun h=>(by rw[h]at hi;cases hi),fun j hj=>?_⟩;by_cases hji:j=i
   ·subst hji;exact⟨ai,st1,hai,haddr,hev,H⟩
   ·have:=ready_mono hj hji;rw[H.1]at this;cases this
 |succ fuel ih=>
   intro listed st st1 hdown hfree haddr hi hev H;refine⟨fun h=>(by rw[h]at hi;cases hi),fun j hj=>?_⟩;by_cases hji:j=i
   ·subst hji;exact⟨ai,st1,hai,haddr,hev,H⟩
   · obtain⟨aj,st2,h1,h6,h2,h3⟩:=H.2 j (ready_mono hj hji);obtain⟨hun,_⟩:=mem_ready.1 hj
     have hw:waits j=false:=by
       cases hw:waits j with
       |false=>rfl
       |true=>
         have h1:=hwait listed hdown j hj hw;have h0:=(mem_ready.1 hi).1;rcases Nat.lt_or_ge i listed.size with h'|h'
         ·simp[h']at h0 h1;rw[h0]at h1;cases h1
         ·simp[Array.getElem?_eq_none h']at h1
     obtain⟨st1',st2',g1,g2,g3,g4,g5⟩:=Jt (hfree j aj h1 hji hun hw) haddr h6 hev h2;refine⟨aj,st1',h1,g4,g1,ih (listed.setIfInBounds j true) st1' st2' (hdown.step hj) ?_ g5 (ready_mono hi (Ne.symm hji)) g2 ?_⟩
     · intro k ak hk hki hun' hwk;refine hfree k ak hk hki ?_ hwk;by_cases hjk:j=k
       ·subst hjk;exact hun
       ·rw[getD_set_ne true hjk]at hun';exact hun'
     ·rw[Array.setIfInBounds_comm _ _ hji];exact vu hR g3.symm h3
theorem oQ(acc:List Nat)(i:Nat):∀(l:List Edge) (s:Nat),
   (l.foldl (fun s e=>if Region.binds .any e then s ||| 2 ^ e.on ||| acc.getD e.on 0 else s) s).testBit i=true →
   s.testBit i=true∨∃e∈l,Region.binds .any e=true∧(e.on=i∨(acc.getD e.on 0).testBit i=true)
 |[],s,h=>.inl h
 |e::l,s,h=>by
   simp only[List.foldl_cons]at h;rcases oQ acc i l _ h with h1|⟨e',h2,h3⟩
   · split at h1
     · rename_i hb;rw[Nat.testBit_or,Nat.testBit_or,Bool.or_eq_true,Bool.or_eq_true]at h1;rcases h1 with (h1|h1)|h1
       ·exact .inl h1
       ·refine .inr ⟨e,by simp,hb,.inl ?_⟩;rw[Nat.testBit_two_pow]at h1;simpa using h1
       ·exact .inr ⟨e,by simp,hb,.inr h1⟩
     ·exact .inl h1
   ·exact .inr ⟨e',by simp[h2],h3⟩
theorem s7:∀(l:List Oper) (acc:List Nat),(lJ l acc).length=acc.length+l.length∧(∀j,j<acc.length→(lJ l acc).getD j 0=acc.getD j 0) ∧
   ∀k o,l[k]?=some o→∀i,((lJ l acc).getD (acc.length+k) 0).testBit i=true→∃e∈o.after.toList,Region.binds .any e=true∧(e.on=i∨((lJ l acc).getD e.on 0).testBit i=true)
 |[],acc=>⟨by simp[lJ],fun j _=>rfl,fun k o h=>by simp at h⟩
 |o::l,acc=>by
   simp only[lJ];obtain⟨h1,h2,h3⟩:=s7 l (acc++[o.after.toList.foldl (fun s e=>if Region.binds .any e then s ||| 2 ^ e.on ||| acc.getD e.on 0 else s) 0]);refine⟨by rw[h1];simp;omega,fun j hj=>?_,fun k o' ho i hi=>?_⟩
   ·rw[h2 j (by simp;omega)];simp[List.getD,List.getElem?_append_left hj]
   · cases k with
     |zero=>
       simp at ho;subst ho;rw[Nat.add_zero,h2 acc.length (by simp)]at hi
       have:(acc++[o.after.toList.foldl (fun s e=>if Region.binds .any e then s ||| 2 ^ e.on ||| acc.getD e.on 0 else s) 0]).getD acc.length 0 =
           o.after.toList.foldl (fun s e=>if Region.binds .any e then s ||| 2 ^ e.on ||| acc.getD e.on 0 else s) 0:=by
         simp[List.getD]
       rw[this]at hi;rcases oQ acc i _ _ hi with h|⟨e,h4,h5,h6⟩
       ·simp at h
       · refine⟨e,h4,h5,M3 h6 fun h=>?_⟩
         have hlt:e.on<acc.length:=by
           rcases Nat.lt_or_ge e.on acc.length with h'|h'
           ·exact h'
           ·simp[List.getD,List.getElem?_eq_none h']at h
         rw[h2 e.on (by simp;omega)];simpa[List.getD,List.getElem?_append_left hlt] using h
     |succ k=>
       have:=h3 k o' (by simpa using ho) i (by simpa[Nat.add_assoc,Nat.add_comm 1 k] using hi);exact this
theorem jk:∀(l:List Oper) (i:Nat),gU i l=true→∀k o,l[k]?=some o→∀e∈o.after,Region.binds .any e=true→e.on<i+k
 |[],_,_,k,o,h,_,_,_=>by simp at h
 |o::l,i,hd,k,o',ho,e,he,hb=>by
   simp only[gU,Bool.and_eq_true,List.all_eq_true]at hd;cases k with
   |zero=>
     simp at ho;subst ho;have:=hd.1 e (by simpa using he);simpa[hb] using this
   |succ k=>
     have:=jk l (i+1) hd.2 k o' (by simpa using ho) e he hb;omega
theorem w_{l:List Oper}(hl:ops.toList=l)(hd:gU 0 l=true){listed:Array Bool}(hdown:Down ops listed)(i:Nat):∀(j:Nat) (o:Oper),ops[j]?=some o →
   (∀e∈o.after,Region.binds .any e=true→listed.getD e.on false=true)→((lJ l []).getD j 0).testBit i=true→listed.getD i false=true:=by
 intro j;induction j using Nat.strongRecOn with
 |_ j ih=>
   intro o ho hall hbit;have hlo:l[j]?=some o:=by rw[←hl];simpa using ho
   obtain⟨e,h1,h2,h3⟩:=(s7 l []).2.2 j o hlo i (by simpa using hbit);have he:e∈o.after:=by simpa using h1
   rcases h3 with h3|h3
   ·rw[←h3];exact hall e he h2
   ·have hlt:=jk l 0 hd j o hlo e he h2;have hlt':e.on<j:=(by omega);have hjs:j<ops.size:=(Array.getElem?_eq_some_iff.1 ho).1;have hoo:ops[e.on]?=some (ops[e.on]'(by omega)):=Array.getElem?_eq_getElem (by omega);exact ih e.on hlt' _ hoo (fun e' he' hb'=>hdown e.on _ hoo (hall e he h2) e' he' hb') h3
theorem oR{ds:List (Nat×Nat)}{ms:List Nat}{i:Nat}{x:dI}:∀(l:List dI) (j:Nat),rM ds ms i x j l=true→∀k y,l[k]?=some y→(ms.getD (j+k) 0).testBit i=true∨(indep x y || yD ds x y)=true
 |[],_,_,k,y,h=>by simp at h
 |z::l,j,hp,k,y,hy=>by
   simp only[rM,Bool.and_eq_true,Bool.or_eq_true]at hp;cases k with
   |zero=>simp at hy;subst hy;simpa[or_assoc] using hp.1
   |succ k=>
     have:=oR l (j+1) hp.2 k y (by simpa using hy)
     rwa [show j+1+k=j+(k+1) from by omega]at this
theorem nj{ds:List (Nat×Nat)}{ms:List Nat}:∀(l:List dI) (i:Nat),lK ds ms i l=true→∀k m x y,k<m→l[k]?=some x→l[m]?=some y→(ms.getD (i+m) 0).testBit (i+k)=true∨(indep x y || yD ds x y)=true
 |[],_,_,k,m,x,y,_,h,_=>by simp at h
 |z::l,i,hp,k,m,x,y,hkm,hx,hy=>by
   simp only[lK,Bool.and_eq_true]at hp;cases m with
   |zero=>omega
   |succ m=>
     cases k with
     |zero=>
       simp at hx;subst hx;have:=oR l (i+1) hp.1 m y (by simpa using hy)
       rwa [show i+1+m=i+(m+1) from by omega]at this
     |succ k=>
       have:=nj l (i+1) hp.2 k m x y (by omega) (by simpa using hx) (by simpa using hy)
       rwa [show i+1+m=i+(m+1) from by omega,show i+1+k=i+(k+1) from by omega]at this
theorem rD{n:Nat}(hd:gU 0 ops.toList=true){k:Nat}{o:Oper}{listed:Array Bool}(hs:listed.size=n)(hl:∀j,j<n→listed[j]?=some (decide (j<k)))(hn:ops.size=n)(ho:ops[k]?=some o) :
   k∈Region.ready .any ops listed:=by
 have hk:k<ops.size:=(Array.getElem?_eq_some_iff.1 ho).1;rw[mem_ready];refine⟨by simp[hl k (by omega)],o,ho,fun e he hb=>?_⟩;have:=jk _ 0 hd k o (by simpa using ho) e he hb;simp[hl e.on (by omega)];omega
theorem F'{ds:List (Nat×Nat)}{x y:dI}(h:yD ds x y=true) :
   (∀d,x.dst=some d→d∉y.looks∧y.dst≠some d)∧(∀d,y.dst=some d→d∉x.looks)∧∃a b,x.addr=some a∧y.addr=some b∧(a,b)∈ds:=by
 simp only[yD,Bool.and_eq_true]at h;obtain⟨⟨h1,h2⟩,h3⟩:=h;refine⟨fun d hd=>?_,fun d hd=>?_,?_⟩
 ·rw[hd]at h1;simp at h1;exact h1
 ·rw[hd]at h2;simpa using h2
 · split at h3
   ·rename_i a b ha hb;exact⟨a,b,ha,hb,by simpa using h3⟩
   ·cases h3
theorem s8{env:List (Nat×AV)}:∀{ds:List (Nat×Nat)},iB env ds=true→∀a b,(a,b)∈ds→apart (look env a) (look env b)=true
 |[],_,a,b,h=>by simp at h
 |(a',b')::r,h,a,b,hm=>by
   simp only[iB,Bool.and_eq_true]at h;simp only[List.mem_cons,Prod.mk.injEq]at hm;rcases hm with⟨rfl,rfl⟩|hm
   ·exact h.1
   ·exact s8 h.2 a b hm
theorem s9{t:Nat}:∀{l:List dI} {st st':St},l.all (fun o=>o.dst != some t)=true→bo orc l st=some st'→look st'.env t=look st.env t
 |[],st,st',_,h=>by simp[bo]at h;subst h;rfl
 |o::l,st,st',hl,h=>by
   simp only[List.all_cons,Bool.and_eq_true,bne_iff_ne,ne_eq]at hl;simp only[bo]at h;split at h
   ·simp at h
   ·rename_i st1 h1;rw[s9 (by simpa using hl.2) h];rw[d_,Option.map_eq_some_iff]at h1;obtain⟨r1,_,rfl⟩:=h1;simp only[eE];rw[if_neg hl.1]
theorem zt{ds:List (Nat×Nat)}(hR:∀x y,jK x y→R x→R y)(hd:gU 0 ops.toList=true)(hp:lK ds (lJ ops.toList []) 0 as=true)(hlen:as.length=ops.size)
   (hF:∀a b,(a,b)∈ds→apart (F a) (F b)=true) :
   ∀(l:List dI) (k:Nat) (listed:Array Bool) (st st':St),(∀j,l[j]?=as[k+j]?)→l.length+k=ops.size→listed.size=ops.size→(∀j,j<ops.size→listed[j]?=some (decide (j<k)))→Down ops listed →
     wG l=true→(∀a,F a=look st'.env a)→bo orc l st=some st'→R st'→zq orc ops as F R l.length listed st
 |[],k,listed,st,st',_,hk,hs,hl,_,_,_,hev,hr=>by
   simp[bo]at hev;subst hev;refine⟨?_,hr⟩;rw[List.eq_nil_iff_forall_not_mem];intro i hi;obtain⟨h1,o,ho,_⟩:=mem_ready.1 hi;have hi':i<ops.size:=(Array.getElem?_eq_some_iff.1 ho).1;simp at hk;simp[hl i hi']at h1;omega
 |x::l,k,listed,st,st',hlk,hk,hs,hl,hdown,hlt,hFe,hev,hr=>by
   have hev0:=hev;simp only[wG,Bool.and_eq_true]at hlt;simp only[bo]at hev;split at hev
   ·simp at hev
   · rename_i st1 hst1;simp only[List.length_cons]at hk⊢;have hx:as[k]?=some x:=by simpa using (hlk 0).symm
     have hks:k<ops.size:=(by omega);have ho:ops[k]?=some ops[k]:=Array.getElem?_eq_getElem hks;have hready:=rD hd hs hl rfl ho;refine B5 hR hx (waits:=fun j=>((lJ ops.toList []).getD j 0).testBit k) ?_ l.length listed st st1 hdown ?_ (fun a ha=>?_) hready hst1 ?_
     ·intro listed' hdown' j hj hw;obtain⟨_,o,hoj,hall⟩:=mem_ready.1 hj;exact w_ rfl hd hdown' k j o hoj hall hw
     · intro j aj hj hjk hun hw;have hj':j<ops.size:=by rw[←hlen];exact (List.getElem?_eq_some_iff.1 hj).1
       have hkj:k<j:=by
         simp[hl j hj']at hun;omega
       have:=nj as 0 hp k j x aj hkj hx hj;simp only[Nat.zero_add]at this;rcases this with h|h
       ·rw[h]at hw;simp at hw
       · rcases Bool.or_eq_true _ _ |>.mp h with h|h
         ·exact .inl h
         ·obtain⟨f1,f2,a,b,f3,f4,f5⟩:=F' h;exact .inr ⟨f1,f2,a,b,f3,f4,hF a b f5⟩
     ·have h1:=hlt.1;rw[ha]at h1;rw[hFe a];exact (s9 h1 hev0).symm
     · refine zt hR hd hp hlen hF l (k+1) (listed.setIfInBounds k true) st1 st' (fun j=>?_) (by omega) (by simp[hs]) (fun j hj=>?_) (hdown.step hready) hlt.2 hFe hev hr
       ·have:=hlk (j+1);rw[show k+(j+1)=k+1+j from by omega]at this;simpa using this
       · by_cases hkj:k=j
         ·subst hkj;simp[hs,hks]
         ·rw[Array.getElem?_setIfInBounds_ne hkj,hl j hj];congr 1;simp;omega
end
section
variable {n0:Nat} {P:Program} {ns:Names}
theorem gK.Qs{n0 N:Nat}{G:Gh}{x y:St}{a:Act}{w:World}(h:gK (num ns) n0 N G x a w)(hl:jK x y):gK (num ns) n0 N G y a w:=by
 refine⟨⟨h.env.size,fun t v ht=>h.env.env t v (by rw[hl.env];exact ht)⟩,?_,h.marks⟩;have hi:=h.inv;rw[hl.sh,hl.aa]at hi
 exact { hi with
   cR:=fun d cells hd=>hi.cR d cells (by rw[hl.mem];exact hd)
   gA:=fun d b hd=>by rw[←hl.mem];exact hi.gA d b hd }
theorem gK.drew{n0 N:Nat}{G:Gh}{x:St}{a:Act}{w:World}(h:gK (num ns) n0 N G x a w):gK (num ns) n0 N G x a w.drew:=⟨h.env,h.inv.drew,h.marks.qA (bJ.drew G w) rfl⟩
end
end Go.Ab
namespace Go.Ab
section
variable {n0:Nat} {P:Program} {ns:Names} {ro:Option Nat} {n:Nat}
def uH(ro:Option Nat):Fence:={ Fence.wide with round:=ro }
theorem Ga{f:FuncId}{args:Array Value}{w:World}{R:Ending→World→Prop}(h:Calls P f args w R):CallsIn (uH ro) n P f args w R:=by
 have h0:=callsIn_wide (n:=n).2 h;cases ro with
 |none=>exact h0
 |some l=>exact h0.inRound l
theorem Ju{row:String}{args:Array Value}{w:World}{R:Value→World→Prop}(h:Rows P row args w R):RowsIn (uH ro) n P row args w R:=by
 intro c cs _;obtain⟨v,w',r,s⟩:=h c cs;have h0:=stepsIn_wide.2 s;exact⟨v,w',r,h0⟩
theorem rQ{o:Oper}(hd:∀c,o.op≠.defer c){a:Act}{w:World}{next:Act→World→Prop}{Q:Exit→Act→World→Prop}
   (h:o.wp P a w next (fun _ _ _=>False)):o.wpIn (uH ro) n P a w next Q:=by
 refine⟨fun _ _=>trivial,?_⟩;rw[Oper.semAt_eq _ _ _ hd];unfold Oper.wp at h;generalize (execOp a.eval o).run P w=r at h⊢;cases r with
 |ok x w'=>
   cases x<;>simp only[Oper.upon,Oper.uponIn]at h⊢<;>try exact h
   · refine⟨fun e=>by simp[uH,Fence.wide]at e,Ga (h.mono ?_)⟩;intro e w'' he;cases e with
     |returned v=>exact he
     |panicked c=>exact he.elim
     |outgrown=>obtain⟨_,_,hf⟩:=he;exact hf.elim
   ·exact⟨fun e=>by simp[uH,Fence.wide]at e,Ju h⟩
 |halt x w'=>cases x<;>simp only[Oper.upon,Oper.uponIn]at h⊢<;>exact h.elim
theorem xa{A:jS}{N:Nat}{ops:Array Oper}{o:Oper}{ao:dI}(hc:cI P ns A N ops o=some ao):∀c,o.op≠.defer c:=by
 intro c e;obtain⟨args,h1,_⟩:=kN hc;rw[e]at h1;simp[bG]at h1
theorem xd{G:Gh}{w:World}(hB:eK P ns){orc:dX}(horc:gi P ns orc){A:jS}{N:Nat}{ops:Array Oper}{o:Oper}{ao:dI}(hc:cI P ns A N ops o=some ao)
   {st st':St} {a:Act} (hs:gK (num ns) n0 N G st a w) (hev:dN orc ao st=some st') {next:Act→World→Prop} {Q:Exit→Act→World→Prop}
   (hn:∀G' v w',gK (num ns) n0 N G' st' (a.put o.dst v) w'→bJ G w G' w'→next (a.put o.dst v) w') :
   if Region.wanted o (yielded ops a.tmps) then o.wpIn (uH ro) n P a w next Q else (∀f,o.about P w a.eval=some f→(uH ro).fn f)∧next (a.put o.dst undef) w:=by
 rcases B4 (Q:=fun _ _ _=>False) hB horc hc hs hev hn with⟨h1,h2⟩|⟨h1,h2⟩
 ·rw[if_pos h1];exact rQ (xa hc) h2
 ·rw[h1,if_neg (by simp)];exact⟨fun _ _=>trivial,h2⟩
theorem zu(hB:eK P ns){orc:dX}(horc:gi P ns orc){A:jS}{N:Nat}{ops:Array Oper}{Q:Exit→Act→World→Prop}:∀{l:List Oper} {as:List dI} {st st':St} {G:Gh} {a:Act} {w:World},
   cd (cI P ns A N ops) l=some as→gK (num ns) n0 N G st a w→bo orc as st=some st' →
   (∀G' a' w',gK (num ns) n0 N G' st' a' w'→bJ G w G' w'→Q .normal a' w')→wpListIn (uH ro) n P ops Q l a w
 |[],as,st,st',G,a,w,hc,hs,hev,hq=>by
   simp[cd]at hc;subst hc;simp[bo]at hev;subst hev;exact hq G a w hs (bJ.refl G w)
 |o::l,as,st,st',G,a,w,hc,hs,hev,hq=>by
   simp only[cd]at hc;split at hc
   · rename_i ao aos h1 h2;simp at hc;subst hc;simp only[bo]at hev;split at hev
     ·simp at hev
     ·rename_i st1 hst1;unfold wpListIn;exact xd hB horc h1 hs hst1 (fun G' a' w' hs' he=>zu hB horc h2 hs' hev (fun G'' a'' w'' hs'' he'=>hq G'' a'' w'' hs'' (he.trans he')))
   ·simp at hc
theorem EG(hB:eK P ns){orc:dX}(horc:gi P ns orc){A:jS}{N:Nat}{ops:Array Oper}{as:List dI}(hc:cd (cI P ns A N ops) ops.toList=some as){F:Nat→Option AV}{R:St→Prop}{Q:Exit→Act→World→Prop} :
   ∀{fuel:Nat} {listed:Array Bool} {st:St} {G:Gh} {a:Act} {w:World},gK (num ns) n0 N G st a w→zq orc ops as F R fuel listed st →
     (∀st' G' a' w',R st'→gK (num ns) n0 N G' st' a' w'→bJ G w G' w'→Q .normal a' w')→wpAnyIn (uH ro) n P .any ops Q fuel listed a w
 |0,_,st,G,a,w,hs,h,hq=>⟨h.1,hq st G a w h.2 hs (bJ.refl G w)⟩
 |fuel+1,listed,st,G,a,w,hs,h,hq=>by
   refine⟨fun h0=>hq st G a w (h.1 h0) hs (bJ.refl G w),fun i hi=>?_⟩;obtain⟨ao,st',h1,_,h2,h3⟩:=h.2 i hi;obtain⟨_,o,ho,_⟩:=mem_ready.1 hi
   have hco:cI P ns A N ops o=some ao:=by
     obtain⟨y,g1,g2⟩:=yL hc (i:=i) (x:=o) (by simpa using ho);rw[h1]at g1;cases g1;exact g2
   unfold wpOpIn;simp only[ho];exact xd hB horc hco hs h2 (fun G' a' w' hs' he=>EG hB horc hc hs' h3 (fun st'' G'' a'' w'' hr hs'' he'=>hq st'' G'' a'' w'' hr hs'' (he.trans he')))
theorem vv(hm:P.follows .mixedOrders=true)(hB:eK P ns){orc:dX}(horc:gi P ns orc){A:jS}{N id:Nat}{ops:Array Oper}{draw:Bool}{as:List dI}
   (hc:cd (cI P ns A N ops) ops.toList=some as) {ds:List (Nat×Nat)} (hd:draw=true→wH ds ops.toList as=true) {st st':St} {G:Gh} {a:Act} {w:World} (hs:gK (num ns) n0 N G st a w) (hev:bo orc as st=some st') (hfar:iB st'.env ds=true)
   {Q:Exit→Act→World→Prop} (hq:∀G' a' w',gK (num ns) n0 N G' st' a' w'→bJ G w G' w'→Q .normal a' w'):(Code.region id ops draw).wpIn (uH ro) n P Q a w:=by
 cases draw with
 |false=>exact wpIn_region_list (zu hB horc hc hs hev hq)
 |true=>
   have hd':=hd rfl;simp only[wH,Bool.and_eq_true]at hd';have hlen:as.length=ops.size:=by have:=gg hc;simpa using this
   refine wpIn_region_any hm ?_
   have hany:zq orc ops as (look st'.env) (fun s=>jK s st') ops.size (Array.replicate ops.size false) st:=by
     have:=zt (orc:=orc) (ops:=ops) (as:=as) (F:=look st'.env) (R:=fun s=>jK s st') (fun x y hl hr=>hl.symm.trans hr) hd'.1 hd'.2.1 hlen (fun a b=>s8 hfar a b) as 0 (Array.replicate ops.size false) st st' (fun j=>by simp) (by simp[hlen]) (by simp)
       (fun j hj=>by simp[hj]) (fun k o ho hk=>by
         exfalso;have hk':k<ops.size:=(Array.getElem?_eq_some_iff.1 ho).1;simp[hk']at hk) hd'.2.2 (fun _=>rfl) hev (jK.refl _)
     rwa [hlen]at this
   exact EG hB horc hc hs.drew hany fun s G' a' w' hl hs' he=>hq G' a' w' (hs'.Qs hl) ((bJ.drew G w).trans he)
end
end Go.Ab
namespace Go.Ab
def zw{α:Type}(f:Nat→Option α):Prop:=∀k k' r,k≤k'→f k=some r→f k'=some r
open Classical in
noncomputable def Ja{α:Type}(f:Nat→Option α):Option α:=if h:∃r k,f k=some r then some h.choose else none
theorem s_{α:Type}{f:Nat→Option α}(hf:zw f){k:Nat}{r:α}(h:f k=some r):Ja f=some r:=by
 have hex:∃r k,f k=some r:=⟨r,k,h⟩;unfold Ja;rw[dif_pos hex];obtain⟨k',h'⟩:=hex.choose_spec;have h1:=hf _ (max k k') _ (Nat.le_max_right _ _) h';have h2:=hf _ (max k k') _ (Nat.le_max_left _ _) h;rw[h1]at h2;exact h2
theorem gD{α:Type}{f:Nat→Option α}{r:α}(h:Ja f=some r):∃k,f k=some r:=by
 unfold Ja at h;split at h
 ·rename_i hex;obtain⟨k,hk⟩:=hex.choose_spec;cases h;exact⟨k,hk⟩
 ·simp at h
theorem tc{α:Type}{f:Nat→Option α}(h:∀k,f k=none):Ja f=none:=by
 cases hl:Ja f with
 |none=>rfl
 |some r=>obtain⟨k,hk⟩:=gD hl;rw[h k]at hk;simp at hk
theorem mI{α:Type}{f:Nat→Option α}(hf:zw f){o:Option α}(h1:∀k r,f k=some r→o=some r)(h2:∀r,o=some r→∃k,f k=some r):Ja f=o:=by
 cases ho:o with
 |none=>exact tc fun k=>by cases hk:f k with|none=>rfl|some r=>rw[h1 k r hk]at ho;simp at ho
 |some r=>obtain⟨k,hk⟩:=h2 r ho;exact s_ hf hk
structure dX.le(a b:dX):Prop where
 p:∀g x r,a.p g x=some r→b.p g x=some r
 i:∀g x s t r,a.i g x s t=some r→b.i g x s t=some r
theorem dX.le_refl(a:dX):a.le a:=⟨fun _ _ _ h=>h,fun _ _ _ _ _ h=>h⟩
theorem jL{a b:dX}(h:a.le b){g:Nat}{own:List Nat}{vals:List AV}{sh:Sh}{aa:aG}{r:AV×Sh×aG}(e:dM a g own vals sh aa=some r):dM b g own vals sh aa=some r:=by
 unfold dM at *;split at e
 ·rename_i hp;rw[if_pos hp];simp only[Option.map_eq_some_iff]at e⊢;obtain⟨x,h1,h2⟩:=e;exact⟨x,h.i _ _ _ _ _ h1,h2⟩
 ·simp at e
theorem Gb{a b:dX}(h:a.le b){op:AK}{vals:List AV}{cells:Option (List AV)}{sh:Sh}{aa:aG}{r:Out}(e:exec a op vals cells sh aa=some r):exec b op vals cells sh aa=some r:=by
 cases op with
 |aJ g=>
   simp only[exec]at e⊢;split at e
   ·simp only[Option.map_eq_some_iff]at e⊢;obtain⟨x,h1,h2⟩:=e;exact⟨x,h.p _ _ _ h1,h2⟩
   ·simp at e
 |en g=>
   simp only[exec]at e⊢;split at e
   ·simp only[Option.map_eq_some_iff]at e⊢;obtain⟨x,h1,h2⟩:=e;exact⟨x,h.p _ _ _ h1,h2⟩
   ·simp at e
 |bz g own=>
   simp only[exec,Option.map_eq_some_iff]at e⊢;obtain⟨x,h1,h2⟩:=e;exact⟨x,jL h h1,h2⟩
 |lH g=>
   simp only[exec]at e⊢;split at e
   · split at e
     ·rename_i rs ts h1;rw[h.i _ _ _ _ _ h1];exact e
     ·simp at e
   ·simp at e
 |eU=>
   cases vals with
   |nil=>simp[exec]at e
   |cons f vals=>
     cases f with
     |fn g cap=>
       simp only[exec,Option.bind_eq_some_iff]at e⊢;obtain⟨x,h1,h2⟩:=e;exact⟨x,jL h h1,h2⟩
     |_=>simp[exec]at e
 |fm=>
   cases vals with
   |nil=>simp[exec]at e
   |cons f vals=>
     cases f with
     |fn g cap=>
       simp only[exec,Option.map_eq_some_iff]at e⊢;obtain⟨x,h1,h2⟩:=e;exact⟨x,jL h h1,h2⟩
     |_=>simp[exec]at e
 |_=>rw[←e];unfold exec;split<;>first|rfl|(rename_i heq;cases heq;done)|(simp at *;done)
theorem vw{a b:dX}(h:a.le b){o:dI}{st r:St}(e:dN a o st=some r):dN b o st=some r:=by
 unfold dN at *;cases hw:fc st.env o.guard with
 |none=>rw[hw]at e;simp at e
 |some t=>
   cases t with
   |false=>rw[hw]at e;exact e
   |true=>
     rw[hw]at e;dsimp only at e⊢;cases hv:dQ st.env o.args with
     |none=>rw[hv]at e;simp at e
     |some vals=>
       rw[hv]at e;dsimp only at e⊢;cases ho:exec a o.op vals (o.op.key.bind (look st.mem)) st.sh st.aa with
       |none=>rw[ho]at e;simp at e
       |some out=>
         rw[ho]at e;rw[Gb h ho];exact e
theorem nI{a b:dX}(h:a.le b):∀{l:List dI} {st r:St},bo a l st=some r→bo b l st=some r
 |[],_,_,e=>e
 |o::l,st,r,e=>by
   simp only[bo]at e⊢;split at e
   ·simp at e
   ·rename_i st' ho;rw[vw h ho];exact nI h e
theorem jl{f f':St→Option (bg×St)}{pre:St→St}(h:∀s r,f s=some r→f' s=some r):∀{n n':Nat} {st:St} {r:bg×St},n≤n'→eX f pre n st=some r→eX f' pre n' st=some r
 |0,_,_,_,_,e=>by simp[eX]at e
 |n+1,0,_,_,hn,_=>by omega
 |n+1,n'+1,st,r,hn,e=>by
   simp only[eX]at e⊢;cases hf:f (pre st) with
   |none=>rw[hf]at e;simp at e
   |some q=>
     rw[h _ _ hf];rw[hf]at e;obtain⟨x,s⟩:=q;cases x with
     |normal=>exact jl h (by omega) e
     |ret=>exact e
     |exit id=>exact e
theorem nJ{f f':St→Option (bg×St)}(h:∀s r,f s=some r→f' s=some r){live:List Nat}{pi px sz:Nat}{ag:Bool}{env:List (Nat×AV)}:∀{l:List (PV×Nat)} {st:St} {r:bg×St},
   qy f live pi px sz ag env l st=some r→qy f' live pi px sz ag env l st=some r
 |[],_,_,e=>e
 |(el,i)::l,st,r,e=>by
   simp only[qy]at e⊢;cases hv:Qh sz ag el with
   |none=>rw[hv]at e;simp at e
   |some v=>
     rw[hv]at e;simp only at e⊢;cases hf:f (norm (restrict live { st with env:=cW (cW env pi (.pv (.int .i64 i))) px v })) with
     |none=>rw[hf]at e;simp at e
     |some q=>
       rw[h _ _ hf];rw[hf]at e;obtain⟨x,s⟩:=q;cases x with
       |normal=>exact nJ h e
       |ret=>exact e
       |exit id=>exact e
theorem uP{f f':St→Option (bg×St)}(h:∀s r,f s=some r→f' s=some r){v:Option AV}{gb pi px sz:Nat}{ag:Bool}{live:List Nat}{st:St}{r:bg×St}
   (e:lI f v gb pi px sz ag live st=some r):lI f' v gb pi px sz ag live st=some r:=by
 unfold lI at e⊢;split at e
 · split at e
   · rename_i hg;rw[if_pos hg];split at e
     · split at e
       ·rename_i hl;rw[if_pos hl];exact nJ h e
       ·simp at e
     ·simp at e
   ·simp at e
 ·simp at e
theorem oS{f g f' g':St→Option (bg×St)}(h:∀s r,f s=some r→f' s=some r)(k:∀s r,g s=some r→g' s=some r):∀s r,andThen f g s=some r→andThen f' g' s=some r:=by
 intro s r e;unfold andThen at e⊢;cases hf:f s with
 |none=>rw[hf]at e;simp at e
 |some q=>
   rw[h _ _ hf];rw[hf]at e;obtain⟨x,t⟩:=q;cases x with
   |normal=>exact k _ _ e
   |ret=>simp at e
   |exit id=>simp at e
theorem ck{a b:dX}(h:a.le b){k k':Nat}(hk:k≤k'):∀{c:aq} {st:St} {r:bg×St},cK a k c st=some r→cK b k' c st=some r
 | .skip,_,_,e=>e
 | .dv _,_,_,e=>e
 | .Pb _,_,_,e=>e
 | .lA _,_,_,e=>e
 | .lG _,_,_,e=>e
 | .Pc _,_,_,e=>e
 | .iA ops live,st,r,e=>by
   simp only[cK]at e⊢;split at e
   ·rename_i st' ho;rw[nI h ho];exact e
   ·simp at e
 | .seq x y,st,r,e=>by
   simp only[cK]at e⊢;cases hx:cK a k x st with
   |none=>rw[hx]at e;simp at e
   |some q=>
     rw[ck h hk hx];rw[hx]at e;obtain⟨ex,s⟩:=q;cases ex with
     |normal=>exact ck h hk e
     |ret=>exact e
     |exit id=>exact e
 | .cond c x y,st,r,e=>by
   simp only[cK]at e⊢;split at e
   · rename_i t hc;split at e
     ·rename_i ht;rw[if_pos ht];exact ck h hk e
     ·rename_i ht;rw[if_neg ht];exact ck h hk e
   ·simp at e
 | .block id x,st,r,e=>by
   simp only[cK]at e⊢;cases hx:cK a k x st with
   |none=>rw[hx]at e;simp at e
   |some q=>
     rw[ck h hk hx];rw[hx]at e;exact e
 | .loop live x,st,r,e=>by
   simp only[cK]at e⊢;exact jl (fun s r hs=>ck h hk hs) hk e
 | .exit id,_,_,e=>e
 | .ret,_,_,e=>e
 | .back c gb pi px sz ag live x y,st,r,e=>by
   simp only[cK]at e⊢;exact uP (oS (fun s r hs=>ck h hk hs) (fun s r hs=>ck h hk hs)) e
theorem eF{a b:dX}(h:a.le b){k k':Nat}(hk:k≤k'){aU:Bool}{af:aA}{args:List AV}{sh:Sh}{ts:aG}{r:List AV×Sh×aG}(e:bZ a k aU af args sh ts=some r):bZ b k' aU af args sh ts=some r:=by
 unfold bZ at *;cases hc:cK a k af.body { env:=bY 0 args,mem:=[],sh,aa:=ts } with
 |none=>rw[hc]at e;simp at e
 |some q=>rw[ck h hk hc];rw[hc]at e;exact e
variable {AP:Nat→Option aA}
theorem cE:∀{n n' k k':Nat},n≤n'→k≤k'→(run AP k n).le (run AP k' n')
 |0,_,_,_,_,_=>⟨fun g x r e=>by simp[run]at e,fun g x s t r e=>by simp[run]at e⟩
 |n+1,0,_,_,h,_=>by omega
 |n+1,n'+1,k,k',h,hk=>by
   have ih:(run AP k n).le (run AP k' n'):=cE (by omega) hk;refine⟨fun g x r e=>?_,fun g x s t r e=>?_⟩
   · simp only[run]at e⊢;cases hg:AP g with
     |none=>rw[hg]at e;simp at e
     |some af=>
       rw[hg]at e;dsimp only at e⊢;cases hp:af.pM with
       |some f=>rw[hp]at e;exact f.mono ih.p e
       |none=>
         rw[hp]at e;dsimp only at e⊢;split at e
         · rename_i hc;rw[if_pos hc];cases hb:bZ (run AP k n) k false af (x.map .pv) [] [] with
           |none=>rw[hb]at e;simp at e
           |some q=>rw[eF ih hk hb];rw[hb]at e;exact e
         ·simp at e
   · simp only[run]at e⊢;cases hg:AP g with
     |none=>rw[hg]at e;simp at e
     |some af=>
       rw[hg]at e;dsimp only at e⊢;split at e
       ·rename_i hc;rw[if_pos hc];exact eF ih hk e
       ·simp at e
noncomputable def aC(AP:Nat→Option aA):dX where
 p:=fun g x=>Ja fun n=>(run AP n n).p g x
 i:=fun g x s t=>Ja fun n=>(run AP n n).i g x s t
theorem rR(g:Nat)(x:List PV):zw fun n=>(run AP n n).p g x:=fun _ _ _ h e=>(cE h h).p _ _ _ e
theorem EH(g:Nat)(x:List AV)(s:Sh)(t:aG):zw fun n=>(run AP n n).i g x s t:=fun _ _ _ h e=>(cE h h).i _ _ _ _ _ e
theorem Jv(n:Nat):(run AP n n).le (aC AP):=⟨fun g x _ e=>s_ (rR g x) e,fun g x s t _ e=>s_ (EH g x s t) e⟩
theorem rS{g:Nat}{x:List PV}{r:List PV}(h:(aC AP).p g x=some r):∃n,(run AP n n).p g x=some r:=gD h
theorem EI{g:Nat}{x:List AV}{s:Sh}{t:aG}{r:List AV×Sh×aG}(h:(aC AP).i g x s t=some r):∃n,(run AP n n).i g x s t=some r:=gD h
theorem nK{g:Nat}{own:List Nat}{vals:List AV}{sh:Sh}{aa:aG}{r:AV×Sh×aG}(e:dM (aC AP) g own vals sh aa=some r):∃n,dM (run AP n n) g own vals sh aa=some r:=by
 unfold dM at *;split at e
 ·rename_i hp;simp only[Option.map_eq_some_iff]at e;obtain⟨x,h1,h2⟩:=e;obtain⟨n,hn⟩:=EI h1;exact⟨n,by rw[if_pos hp,hn];simp only[Option.map_some,h2]⟩
 ·simp at e
theorem B6{op:AK}{vals:List AV}{cells:Option (List AV)}{sh:Sh}{aa:aG}{r:Out}(e:exec (aC AP) op vals cells sh aa=some r):∃n,exec (run AP n n) op vals cells sh aa=some r:=by
 cases op with
 |aJ g=>
   simp only[exec]at e⊢;split at e
   ·rename_i cV hp;simp only[Option.map_eq_some_iff]at e;obtain⟨x,h1,h2⟩:=e;obtain⟨n,hn⟩:=rS h1;exact⟨n,by rw[hn];simp only[Option.map_some,h2]⟩
   ·simp at e
 |en g=>
   simp only[exec]at e⊢;split at e
   ·rename_i cV hp;simp only[Option.map_eq_some_iff]at e;obtain⟨x,h1,h2⟩:=e;obtain⟨n,hn⟩:=rS h1;exact⟨n,by rw[hn];simp only[Option.map_some,h2]⟩
   ·simp at e
 |bz g own=>
   simp only[exec,Option.map_eq_some_iff]at e⊢;obtain⟨x,h1,h2⟩:=e;obtain⟨n,hn⟩:=nK h1;exact⟨n,x,hn,h2⟩
 |lH g=>
   simp only[exec]at e⊢;split at e
   · split at e
     ·rename_i rs ts h1;obtain⟨n,hn⟩:=EI h1;exact⟨n,by rw[hn];exact e⟩
     ·simp at e
   ·simp at e
 |eU=>
   cases vals with
   |nil=>simp[exec]at e
   |cons f vals=>
     cases f with
     |fn g cap=>
       simp only[exec,Option.bind_eq_some_iff]at e⊢;obtain⟨x,h1,h2⟩:=e;obtain⟨n,hn⟩:=nK h1;exact⟨n,x,hn,h2⟩
     |_=>simp[exec]at e
 |fm=>
   cases vals with
   |nil=>simp[exec]at e
   |cons f vals=>
     cases f with
     |fn g cap=>
       simp only[exec,Option.map_eq_some_iff]at e⊢;obtain⟨x,h1,h2⟩:=e;obtain⟨n,hn⟩:=nK h1;exact⟨n,x,hn,h2⟩
     |_=>simp[exec]at e
 |_=>exact⟨0,by rw[←e];unfold exec;split<;>first|rfl|(rename_i heq;cases heq;done)|(simp at *;done)⟩
theorem Jw{o:dI}{st r:St}(e:dN (aC AP) o st=some r):∃n,dN (run AP n n) o st=some r:=by
 unfold dN at *;cases hw:fc st.env o.guard with
 |none=>rw[hw]at e;simp at e
 |some t=>
   cases t with
   |false=>rw[hw]at e;exact⟨0,e⟩
   |true=>
     rw[hw]at e;dsimp only at e⊢;cases hv:dQ st.env o.args with
     |none=>rw[hv]at e;simp at e
     |some vals=>
       rw[hv]at e;dsimp only at e⊢;cases ho:exec (aC AP) o.op vals (o.op.key.bind (look st.mem)) st.sh st.aa with
       |none=>rw[ho]at e;simp at e
       |some out=>
         obtain⟨n,hn⟩:=B6 ho;rw[ho]at e;exact⟨n,by rw[hn];exact e⟩
theorem vz:∀{l:List dI} {st r:St},bo (aC AP) l st=some r→∃n,bo (run AP n n) l st=some r
 |[],_,_,e=>⟨0,e⟩
 |o::l,st,r,e=>by
   simp only[bo]at e⊢;cases ho:dN (aC AP) o st with
   |none=>rw[ho]at e;simp at e
   |some s=>
     rw[ho]at e;obtain⟨n,hn⟩:=Jw ho;obtain⟨m,hm⟩:=vz (l:=l) e;refine⟨max n m,?_⟩;rw[vw (cE (Nat.le_max_left n m) (Nat.le_max_left n m)) hn];exact nI (cE (Nat.le_max_right n m) (Nat.le_max_right n m)) hm
theorem th{k:Nat}{c:aq}{pre:St→St}(ih:∀{st:St} {r:bg×St},cK (aC AP) k c st=some r→∃n,cK (run AP n n) n c st=some r) :
   ∀{j:Nat} {st:St} {r:bg×St},eX (cK (aC AP) k c) pre j st=some r→∃n,eX (cK (run AP n n) n c) pre n st=some r
 |0,_,_,e=>by simp[eX]at e
 |j+1,st,r,e=>by
   simp only[eX]at e;cases hf:cK (aC AP) k c (pre st) with
   |none=>rw[hf]at e;simp at e
   |some q=>
     obtain⟨n,hn⟩:=ih hf;rw[hf]at e;obtain⟨x,s⟩:=q;cases x with
     |normal=>
       obtain⟨m,hm⟩:=th ih e;refine⟨max n m+1,?_⟩;simp only[eX];rw[ck (cE (n:=n) (n':=max n m+1) (by omega) (by omega)) (k:=n) (k':=max n m+1) (by omega) hn];exact jl (fun s r hs=>ck (cE (n:=m) (by omega) (by omega)) (k:=m) (by omega) hs) (n:=m) (by omega) hm
     |ret=>
       refine⟨n+1,?_⟩;simp only[eX];rw[ck (cE (n:=n) (n':=n+1) (by omega) (by omega)) (k:=n) (k':=n+1) (by omega) hn];exact e
     |exit id=>
       refine⟨n+1,?_⟩;simp only[eX];rw[ck (cE (n:=n) (n':=n+1) (by omega) (by omega)) (k:=n) (k':=n+1) (by omega) hn];exact e
theorem pX{n m:Nat}(h:n≤m){c:aq}{st:St}{r:bg×St}(e:cK (run AP n n) n c st=some r):cK (run AP m m) m c st=some r:=ck (cE h h) h e
theorem uQ{k:Nat}{x y:aq}(ihx:∀{st:St} {r:bg×St},cK (aC AP) k x st=some r→∃n,cK (run AP n n) n x st=some r)(ihy:∀{st:St} {r:bg×St},cK (aC AP) k y st=some r→∃n,cK (run AP n n) n y st=some r)
   {st:St} {r:bg×St} (e:andThen (cK (aC AP) k x) (cK (aC AP) k y) st=some r):∃n,andThen (cK (run AP n n) n x) (cK (run AP n n) n y) st=some r:=by
 unfold andThen at e⊢;cases hx:cK (aC AP) k x st with
 |none=>rw[hx]at e;simp at e
 |some q=>
   obtain⟨n,hn⟩:=ihx hx;rw[hx]at e;obtain⟨ex,s⟩:=q;cases ex with
   |normal=>
     obtain⟨m,hm⟩:=ihy e;exact⟨max n m,by rw[pX (Nat.le_max_left n m) hn];exact pX (Nat.le_max_right n m) hm⟩
   |ret=>simp at e
   |exit id=>simp at e
theorem tj{F:St→Option (bg×St)}{f:Nat→St→Option (bg×St)}(hm:∀{n m:Nat},n≤m→∀s r,f n s=some r→f m s=some r)(ih:∀{st:St} {r:bg×St},F st=some r→∃n,f n st=some r)
   {live:List Nat} {pi px sz:Nat} {ag:Bool} {env:List (Nat×AV)}:∀{l:List (PV×Nat)} {st:St} {r:bg×St},qy F live pi px sz ag env l st=some r→∃n,qy (f n) live pi px sz ag env l st=some r
 |[],_,_,e=>⟨0,e⟩
 |(el,i)::l,st,r,e=>by
   simp only[qy]at e⊢;cases hv:Qh sz ag el with
   |none=>rw[hv]at e;simp at e
   |some v=>
     rw[hv]at e;simp only at e⊢;cases hf:F (norm (restrict live { st with env:=cW (cW env pi (.pv (.int .i64 i))) px v })) with
     |none=>rw[hf]at e;simp at e
     |some q=>
       obtain⟨n,hn⟩:=ih hf;rw[hf]at e;obtain⟨x,s⟩:=q;cases x with
       |normal=>
         obtain⟨m,hm'⟩:=tj hm ih e;exact⟨max n m,by rw[hm (Nat.le_max_left n m) _ _ hn];exact nJ (hm (Nat.le_max_right n m)) hm'⟩
       |ret=>exact⟨n,by rw[hn];exact e⟩
       |exit id=>exact⟨n,by rw[hn];exact e⟩
theorem iP{k:Nat}:∀{c:aq} {st:St} {r:bg×St},cK (aC AP) k c st=some r→∃n,cK (run AP n n) n c st=some r
 | .skip,_,_,e=>⟨0,e⟩
 | .dv _,_,_,e=>⟨0,e⟩
 | .Pb _,_,_,e=>⟨0,e⟩
 | .lA _,_,_,e=>⟨0,e⟩
 | .lG _,_,_,e=>⟨0,e⟩
 | .Pc _,_,_,e=>⟨0,e⟩
 | .iA ops live,st,r,e=>by
   simp only[cK]at e⊢;cases ho:bo (aC AP) ops st with
   |none=>rw[ho]at e;simp at e
   |some s=>obtain⟨n,hn⟩:=vz ho;rw[ho]at e;exact⟨n,by rw[hn];exact e⟩
 | .seq x y,st,r,e=>by
   simp only[cK]at e⊢;cases hx:cK (aC AP) k x st with
   |none=>rw[hx]at e;simp at e
   |some q=>
     obtain⟨n,hn⟩:=iP hx;rw[hx]at e;obtain⟨ex,s⟩:=q;cases ex with
     |normal=>
       obtain⟨m,hm⟩:=iP (c:=y) e;exact⟨max n m,by rw[pX (Nat.le_max_left n m) hn];exact pX (Nat.le_max_right n m) hm⟩
     |ret=>exact⟨n,by rw[hn];exact e⟩
     |exit id=>exact⟨n,by rw[hn];exact e⟩
 | .cond c x y,st,r,e=>by
   simp only[cK]at e⊢;split at e
   · rename_i t hc;split at e
     ·rename_i ht;obtain⟨n,hn⟩:=iP e;exact⟨n,by rw[if_pos ht];exact hn⟩
     ·rename_i ht;obtain⟨n,hn⟩:=iP e;exact⟨n,by rw[if_neg ht];exact hn⟩
   ·simp at e
 | .block id x,st,r,e=>by
   simp only[cK]at e⊢;cases hx:cK (aC AP) k x st with
   |none=>rw[hx]at e;simp at e
   |some q=>
     obtain⟨n,hn⟩:=iP hx;rw[hx]at e;exact⟨n,by rw[hn];exact e⟩
 | .loop live x,st,r,e=>by
   simp only[cK]at e⊢;exact th (fun h=>iP h) e
 | .exit id,_,_,e=>⟨0,e⟩
 | .ret,_,_,e=>⟨0,e⟩
 | .back c gb pi px sz ag live x y,st,r,e=>by
   simp only[cK]at e⊢;unfold lI at e⊢;split at e
   · split at e
     · rename_i hg;split at e
       · split at e
         ·rename_i hl;obtain⟨n,hn⟩:=tj (f:=fun n=>andThen (cK (run AP n n) n x) (cK (run AP n n) n y)) (fun h=>oS (fun s r hs=>pX h hs) (fun s r hs=>pX h hs)) (uQ (fun h=>iP h) (fun h=>iP h)) e;exact⟨n,by rw[if_pos hg,if_pos hl];exact hn⟩
         ·simp at e
       ·simp at e
     ·simp at e
   ·simp at e
noncomputable def cl(AP:Nat→Option aA)(c:aq)(st:St):Option (bg×St):=Ja fun k=>cK (aC AP) k c st
theorem rT(c:aq)(st:St):zw fun k=>cK (aC AP) k c st:=fun _ _ _ h e=>ck (dX.le_refl _) h e
theorem jm{c:aq}{st:St}{k:Nat}{r:bg×St}(h:cK (aC AP) k c st=some r):cl AP c st=some r:=s_ (rT c st) h
theorem Nb{st:St}:cl AP .skip st=some (.normal,st):=jm (k:=0) rfl
theorem Nc{id:Nat}{st:St}:cl AP (.exit id) st=some (.exit id,st):=jm (k:=0) rfl
theorem Qt{ts:List Nat}{st:St}:cl AP (.dv ts) st=some (.normal,nb ts st):=jm (k:=0) rfl
theorem Qu{ts:List Nat}{st:St}:cl AP (.lG ts) st=some (.normal,BK ts st):=jm (k:=0) rfl
theorem Qv{ts:List Nat}{st:St}:cl AP (.Pc ts) st=some (.normal,i_ ts st):=jm (k:=0) rfl
theorem Qw{ps:List (Nat×Nat×Bool)}{st:St}:cl AP (.lA ps) st=some (.normal,wF ps st):=jm (k:=0) rfl
theorem Qx{st:St}:cl AP .ret st=some (.ret,st):=jm (k:=0) rfl
theorem Qy{ops:List dI}{live:List Nat}{st:St}:cl AP (.iA ops live) st=(bo (aC AP) ops st).map fun st'=>(.normal,restrict live st'):=by
 cases h:bo (aC AP) ops st with
 |none=>exact tc fun k=>by simp only[cK,h]
 |some s=>exact jm (k:=0) (by simp only[cK,h])
def after(f:St→Option (bg×St)):Option (bg×St)→Option (bg×St)
 |some (.normal,st)=>f st
 |r=>r
theorem Qz{a b:aq}{st:St}:cl AP (.seq a b) st=after (cl AP b) (cl AP a st):=by
 refine mI (rT _ _) (fun k r h=>?_) fun r h=>?_
 · simp only[cK]at h;cases hx:cK (aC AP) k a st with
   |none=>rw[hx]at h;simp at h
   |some q=>
     rw[jm hx];rw[hx]at h;obtain⟨ex,s⟩:=q;cases ex with
     |normal=>exact jm h
     |ret=>exact h
     |exit id=>exact h
 · cases hx:cl AP a st with
   |none=>rw[hx]at h;simp[after]at h
   |some q=>
     obtain⟨k,hk⟩:=gD hx;rw[hx]at h;obtain⟨ex,s⟩:=q;cases ex with
     |normal=>
       obtain⟨k',hk'⟩:=gD (show Ja (fun k=>cK (aC AP) k b s)=some r from h);refine⟨max k k',?_⟩;simp only[cK];rw[ck (dX.le_refl _) (Nat.le_max_left k k') hk];exact ck (dX.le_refl _) (Nat.le_max_right k k') hk'
     |ret=>exact⟨k,by simp only[cK];rw[hk];exact h⟩
     |exit id=>exact⟨k,by simp only[cK];rw[hk];exact h⟩
theorem Nd{c:eJ}{a b:aq}{st:St}{t:Bool}(h:gQ st.env c=some (.pv (.bool t))):cl AP (.cond c a b) st=if t then cl AP a st else cl AP b st:=by
 unfold cl;simp only[cK,h];cases t<;>rfl
def leave(id:Nat):Option (bg×St)→Option (bg×St)
 |some (.exit id',st)=>if id'=id then some (.normal,st) else some (.exit id',st)
 |r=>r
theorem Jx{id:Nat}{b:aq}{st:St}:cl AP (.block id b) st=leave id (cl AP b st):=by
 refine mI (rT _ _) (fun k r h=>?_) fun r h=>?_
 · simp only[cK]at h;cases hx:cK (aC AP) k b st with
   |none=>rw[hx]at h;simp at h
   |some q=>rw[jm hx];rw[hx]at h;exact h
 · cases hx:cl AP b st with
   |none=>rw[hx]at h;simp[leave]at h
   |some q=>
     obtain⟨k,hk⟩:=gD hx;rw[hx]at h;exact⟨k,by simp only[cK];rw[hk];exact h⟩
theorem aH{live:List Nat}{b:aq}{st:St}:cl AP (.loop live b) st=after (cl AP (.loop live b)) (cl AP b (norm (restrict live st))):=by
 refine mI (rT _ _) (fun k r h=>?_) fun r h=>?_
 · simp only[cK]at h;cases k with
   |zero=>simp[eX]at h
   |succ k=>
     simp only[eX]at h;cases hx:cK (aC AP) (k+1) b (norm (restrict live st)) with
     |none=>rw[hx]at h;simp at h
     |some q=>
       rw[jm hx];rw[hx]at h;obtain⟨ex,s⟩:=q;cases ex with
       |normal=>exact jm (k:=k+1) (by simp only[cK];exact jl (fun _ _ h=>h) (Nat.le_succ k) h)
       |ret=>exact h
       |exit id=>exact h
 · cases hx:cl AP b (norm (restrict live st)) with
   |none=>rw[hx]at h;simp[after]at h
   |some q=>
     obtain⟨k,hk⟩:=gD hx;rw[hx]at h;obtain⟨ex,s⟩:=q;have up:∀m,k≤m→cK (aC AP) m b (norm (restrict live st))=some (ex,s):=fun m hm=>ck (dX.le_refl _) hm hk
     cases ex with
     |normal=>
       obtain⟨k',hk'⟩:=gD (show Ja (fun k=>cK (aC AP) k (.loop live b) s)=some r from h);refine⟨max k k'+1,?_⟩;simp only[cK,eX];rw[up _ (by omega)];simp only[cK]at hk';exact jl (fun _ _ h=>ck (dX.le_refl _) (by omega) h) (by omega) hk'
     |ret=>exact⟨k+1,by simp only[cK,eX];rw[up _ (by omega)];exact h⟩
     |exit id=>exact⟨k+1,by simp only[cK,eX];rw[up _ (by omega)];exact h⟩
def finish(aU:Bool)(af:aA)(sh:Sh):Option (bg×St)→Option (List AV×Sh×aG)
 |some (e,st)=>
   if e=.ret∨e=.normal then
     match d7 st af.results with
     |some vs=>
       let rs:=cm aU af.ks st.sh vs
       let sh':=if rs.all (aK sh.length)=true then (eM aU af.ks st.sh vs).take sh.length else eM aU af.ks st.sh vs
       if rs.all bI=true then some ((cQ st.aa rs sh').1,(cQ st.aa rs sh').2.1,(cQ st.aa rs sh').2.2.2) else none
     |none=>none
   else none
 |none=>none
theorem fZ{orc:dX}{k:Nat}{aU:Bool}{af:aA}{args:List AV}{sh:Sh}{ts:aG}:bZ orc k aU af args sh ts=finish aU af sh (cK orc k af.body { env:=bY 0 args,mem:=[],sh,aa:=ts }):=by
 unfold bZ finish;cases cK orc k af.body { env:=bY 0 args,mem:=[],sh,aa:=ts } with
 |none=>rfl
 |some q=>obtain⟨e,st⟩:=q;rfl
noncomputable def nk(AP:Nat→Option aA)(aU:Bool)(af:aA)(args:List AV)(sh:Sh)(ts:aG):Option (List AV×Sh×aG):=
 finish aU af sh (cl AP af.body { env:=bY 0 args,mem:=[],sh,aa:=ts })
theorem vA{aU:Bool}{af:aA}{args:List AV}{sh:Sh}{ts:aG}{r:List AV×Sh×aG}(h:nk AP aU af args sh ts=some r):∃n,bZ (run AP n n) n aU af args sh ts=some r:=by
 unfold nk at h;cases hc:cl AP af.body { env:=bY 0 args,mem:=[],sh,aa:=ts } with
 |none=>rw[hc]at h;simp[finish]at h
 |some q=>
   obtain⟨k,hk⟩:=gD hc;obtain⟨n,hn⟩:=iP hk;exact⟨n,by rw[fZ,hn,←hc];exact h⟩
theorem EJ{n:Nat}{aU:Bool}{af:aA}{args:List AV}{sh:Sh}{ts:aG}{r:List AV×Sh×aG}(h:bZ (run AP n n) n aU af args sh ts=some r):nk AP aU af args sh ts=some r:=by
 rw[fZ]at h;unfold nk;cases hc:cK (run AP n n) n af.body { env:=bY 0 args,mem:=[],sh,aa:=ts } with
 |none=>rw[hc]at h;simp[finish]at h
 |some q=>
   rw[jm (ck (Jv n) (Nat.le_refl n) hc)];rw[hc]at h;exact h
theorem Pg{g:Nat}{af:aA}{x:List PV}(hg:AP g=some af)(hp:af.pM=none)(h1:x.length=af.nparams)(h2:x.length≤af.ntmps) :
   (aC AP).p g x=(nk AP false af (x.map .pv) [] []).bind fun r=>fC r.1:=by
 refine mI (rR g x) (fun k r h=>?_) fun r h=>?_
 · cases k with
   |zero=>simp[run]at h
   |succ k=>
     simp only[run,hg,hp]at h;rw[if_pos ⟨h1,h2⟩]at h;cases hb:bZ (run AP (k+1) k) (k+1) false af (x.map .pv) [] [] with
     |none=>rw[hb]at h;simp at h
     |some q=>
       rw[EJ (n:=k+1) (eF (cE (Nat.le_succ k) (Nat.le_refl _)) (Nat.le_refl _) hb)];rw[hb]at h;exact h
 · cases hb:nk AP false af (x.map .pv) [] [] with
   |none=>rw[hb]at h;simp at h
   |some q=>
     obtain⟨n,hn⟩:=vA hb;rw[hb]at h;refine⟨n+1,?_⟩;simp only[run,hg,hp];rw[if_pos ⟨h1,h2⟩,eF (cE (n:=n) (n':=n) (k:=n) (k':=n+1) (Nat.le_refl _) (Nat.le_succ n)) (Nat.le_succ n) hn];exact h
theorem vB:∀(l:List (Nat×List PV×List PV)),(∀c∈l,(aC AP).p c.1 c.2.1=some c.2.2)→∃n,∀c∈l,(run AP n n).p c.1 c.2.1=some c.2.2
 |[],_=>⟨0,by simp⟩
 |c::l,h=>by
   obtain⟨n,hn⟩:=rS (h c (by simp));obtain⟨m,hm⟩:=vB l fun c' hc=>h c' (by simp[hc]);refine⟨max n m,fun c' hc=>?_⟩;simp only[List.mem_cons]at hc;rcases hc with rfl|hc
   ·exact (cE (Nat.le_max_left n m) (Nat.le_max_left n m)).p _ _ _ hn
   ·exact (cE (Nat.le_max_right n m) (Nat.le_max_right n m)).p _ _ _ (hm c' hc)
theorem xe{g:Nat}{af:aA}{x:List PV}{f:Prim}(hg:AP g=some af)(hp:af.pM=some f):(aC AP).p g x=f.f (aC AP).p x:=by
 refine mI (rR g x) (fun k r h=>?_) fun r h=>?_
 · cases k with
   |zero=>simp[run]at h
   |succ k=>
     simp only[run,hg,hp]at h;exact f.mono (fun g x r e=>(Jv (k+1)).p _ _ _ ((cE (Nat.le_succ k) (Nat.le_refl _)).p _ _ _ e)) h
 ·obtain⟨l,h1,h2⟩:=f.fin _ _ _ h;obtain⟨n,hn⟩:=vB l h1;refine⟨n+1,?_⟩;simp only[run,hg,hp];exact h2 _ fun c hc=>(cE (n:=n) (n':=n) (k:=n) (k':=n+1) (Nat.le_refl _) (Nat.le_succ n)).p _ _ _ (hn c hc)
theorem EK{g:Nat}{af:aA}{x:List PV}{f:List PV→Option (List PV)}(hg:AP g=some af)(hp:af.pM=some (Prim.pure f)):(aC AP).p g x=f x:=xe hg hp
theorem Ph{g:Nat}{af:aA}{x:List AV}{sh:Sh}{ts:aG}(hg:AP g=some af)(h2:x.length≤af.ntmps):(aC AP).i g x sh ts=nk AP true af x sh ts:=by
 refine mI (EH g x sh ts) (fun k r h=>?_) fun r h=>?_
 · cases k with
   |zero=>simp[run]at h
   |succ k=>
     simp only[run,hg]at h;rw[if_pos h2]at h;exact EJ (n:=k+1) (eF (cE (Nat.le_succ k) (Nat.le_refl _)) (Nat.le_refl _) h)
 ·obtain⟨n,hn⟩:=vA h;refine⟨n+1,?_⟩;simp only[run,hg];rw[if_pos h2];exact eF (cE (n:=n) (n':=n) (k:=n) (k':=n+1) (Nat.le_refl _) (Nat.le_succ n)) (Nat.le_succ n) hn
end Go.Ab
namespace Go.Ab.Ev
section
variable {AP:Nat→Option aA} {O:dX}
noncomputable def branch(AP:Nat→Option aA)(o:Option AV)(a b:aq)(st:St):Option (bg×St):=
 match o with
 |some (.pv (.bool t))=>if t=true then cl AP a st else cl AP b st
 |_=>none
theorem Gc{c:eJ}{a b:aq}{st:St}:cl AP (.cond c a b) st=branch AP (gQ st.env c) a b st:=by
 unfold branch;split
 ·rename_i t h;rw[Nd h]
 ·rename_i h;unfold cl;refine tc fun k=>?_;simp only[cK]
theorem zx{t:Bool}{a b:aq}{st:St}:branch AP (some (.pv (.bool t))) a b st=if t=true then cl AP a st else cl AP b st:=rfl
def tq(live:List Nat):Option St→Option (bg×St)
 |some st=>some (.normal,restrict live st)
 |none=>none
theorem Gd{ops:List dI}{live:List Nat}{st:St}:cl AP (.iA ops live) st=tq live (bo (aC AP) ops st):=by
 rw[Qy];cases bo (aC AP) ops st<;>rfl
theorem zy{live:List Nat}{st:St}:tq live (some st)=some (.normal,restrict live st):=rfl
theorem B7{live:List Nat}{c:Prop}[Decidable c]{x y:Option St}:tq live (if c then x else y)=if c then tq live x else tq live y:=by split<;>rfl
theorem xg{f:St→Option (bg×St)}{st:St}:after f (some (.normal,st))=f st:=rfl
theorem Ge{f:St→Option (bg×St)}{st:St}:after f (some (.ret,st))=some (.ret,st):=rfl
theorem B8{f:St→Option (bg×St)}{st:St}{id:Nat}:after f (some (.exit id,st))=some (.exit id,st):=rfl
theorem Gf{f:St→Option (bg×St)}{c:Prop}[Decidable c]{x y:Option (bg×St)}:after f (if c then x else y)=if c then after f x else after f y:=by split<;>rfl
theorem xh{id:Nat}{st:St}:leave id (some (.normal,st))=some (.normal,st):=rfl
theorem Gg{id:Nat}{st:St}:leave id (some (.ret,st))=some (.ret,st):=rfl
theorem B9{id id':Nat}{st:St}:leave id (some (.exit id',st))=if id'=id then some (.normal,st) else some (.exit id',st):=rfl
theorem Gi{id:Nat}{c:Prop}[Decidable c]{x y:Option (bg×St)}:leave id (if c then x else y)=if c then leave id x else leave id y:=by split<;>rfl
def mJ(O:dX)(l:List dI):Option St→Option St
 |some st=>bo O l st
 |none=>none
theorem Gj{st:St}:bo O [] st=some st:=rfl
theorem kO{o:dI}{l:List dI}{st:St}:bo O (o::l) st=mJ O l (dN O o st):=by
 simp only[bo];cases dN O o st<;>rfl
theorem B_{d:Option Nat}{args:List eJ}{op:AK}{l:List dI}{st:St}:bo O (⟨d,none,args,op⟩::l) st=mJ O l (dN O ⟨d,none,args,op⟩ st):=kO
theorem xj{l:List dI}{st:St}:mJ O l (some st)=bo O l st:=rfl
theorem zz{l:List dI}{c:Prop}[Decidable c]{x y:Option St}:mJ O l (if c then x else y)=if c then mJ O l x else mJ O l y:=by split<;>rfl
def tt(d k:Option Nat)(env:List (Nat×AV))(mem:List (Nat×List AV)):Option Out→Option St
 |some out=>some { env:=fy env d out.val,mem:=eR mem k out.cells,sh:=out.sh,aa:=out.aa }
 |none=>none
def Jy(O:dX)(op:AK)(vals:Option (List AV))(cells:Option (List AV))(sh:Sh)(aa:aG):Option Out:=
 match vals with
 |some vals=>exec O op vals cells sh aa
 |none=>none
theorem B'{d:Option Nat}{args:List eJ}{op:AK}{env:List (Nat×AV)}{mem:List (Nat×List AV)}{sh:Sh}{aa:aG} :
   dN O ⟨d,none,args,op⟩ ⟨env,mem,sh,aa⟩=tt d op.key env mem (Jy O op (dQ env args) (op.key.bind (look mem)) sh aa):=by
 simp only[dN,fc];cases dQ env args with
 |none=>rfl
 |some vals=>
   dsimp only[Jy];cases exec O op vals (op.key.bind (look mem)) sh aa<;>rfl
def tu(t:Nat)(b:Bool)(o:dI):dI:=
 match o.guard with
 |some (t',b')=>if t'=t then (if b'=b then { o with guard:=none } else ⟨o.dst,none,[.c .un],.v .mv⟩) else o
 |none=>o
def Gk(t:Nat):List dI→Bool
 |[]=>true
 |o::l=>(o.dst != some t) && Gk t l
theorem mK{α:Type}{t t':Nat}{v:α}:∀{l:List (Nat×α)},look (cW l t v) t'=if t'=t then some v else look l t'
 |[]=>by
   simp only[cW,look];by_cases h:t'=t
   ·subst h;simp
   ·rw[if_neg (fun e=>h e.symm),if_neg h]
 |(k,u)::r=>by
   simp only[cW];by_cases hk:k=t
   · subst hk;simp only[if_true,look];by_cases h:t'=k
     ·subst h;simp
     ·rw[if_neg (fun e=>h e.symm),if_neg h,if_neg (fun e=>h e.symm)]
   · rw[if_neg hk];simp only[look,mK (l:=r)];by_cases h:k=t'
     ·subst h;simp[hk]
     ·rw[if_neg h,if_neg h]
theorem pY{α:Type}{t:Nat}{v:α}:∀{l:List (Nat×α)},look l t=some v→cW l t v=l
 |[],h=>by simp[look]at h
 |(k,u)::r,h=>by
   simp only[look]at h;simp only[cW];split at h
   ·rename_i e;cases h;rw[if_pos e]
   ·rename_i e;rw[if_neg e,pY h]
theorem Gl{o:dI}{st st':St}{t:Nat}{v:AV}(hd:(o.dst != some t)=true)(h:look st.env t=some v)(e:dN O o st=some st'):look st'.env t=some v:=by
 have key:∀x,look (fy st.env o.dst x) t=some v:=by
   intro x;cases hdd:o.dst with
   |none=>exact h
   |some d=>
     rw[hdd]at hd;simp only[fy,mK];rw[if_neg (by intro e;subst e;simp at hd)];exact h
 simp only[dN]at e;split at e
 ·cases e
 ·cases e;exact key _
 · split at e
   ·cases e
   · split at e
     ·cases e
     ·cases e;exact key _
theorem Gm{o:dI}{st:St}{t:Nat}{b:Bool}(h:look st.env t=some (.pv (.bool b))):dN O o st=dN O (tu t b o) st:=by
 obtain⟨d,g,args,op⟩:=o;cases g with
 |none=>rfl
 |some p=>
   obtain⟨t',b'⟩:=p;simp only[tu];by_cases ht:t'=t
   · subst ht;rw[if_pos rfl];by_cases hb:b'=b
     ·subst hb;rw[if_pos rfl];simp only[dN,fc,h,beq_self_eq_true]
     · rw[if_neg hb];have hb':(b == b')=false:=by simpa using fun e=>hb e.symm
       simp only[dN,fc,h,hb'];obtain⟨env,mem,sh,aa⟩:=st;rfl
   ·rw[if_neg ht]
theorem nM{t:Nat}{b:Bool}:∀{l:List dI} {st:St},Gk t l=true→look st.env t=some (.pv (.bool b))→bo O l st=bo O (l.map (tu t b)) st
 |[],_,_,_=>rfl
 |o::l,st,hn,h=>by
   simp only[Gk,Bool.and_eq_true]at hn;rw[List.map_cons,kO,kO,←Gm h];cases e:dN O o st with
   |none=>rfl
   |some st'=>exact nM hn.2 (Gl hn.1 h e)
theorem zB{d:Option Nat}{t:Nat}{b:Bool}{args:List eJ}{op:AK}{l:List dI}{env:List (Nat×AV)}{mem:List (Nat×List AV)}{sh:Sh}{aa:aG}{c:Bool}(h:look env t=some (.pv (.bool c)))(hn:Gk t (⟨d,some (t,b),args,op⟩::l)=true) :
   bo O (⟨d,some (t,b),args,op⟩::l) ⟨env,mem,sh,aa⟩ =
     if c=true then bo O ((⟨d,some (t,b),args,op⟩::l).map (tu t true)) ⟨cW env t (.pv (.bool true)),mem,sh,aa⟩
     else bo O ((⟨d,some (t,b),args,op⟩::l).map (tu t false)) ⟨cW env t (.pv (.bool false)),mem,sh,aa⟩:=by
 cases c with
 |true=>rw[if_pos rfl,pY h];exact nM hn h
 |false=>rw[if_neg (by simp),pY h];exact nM hn h
theorem xl{d:Option Nat}{t:Nat}{b:Bool}{args:List eJ}{op:AK}{l:List dI}{env:List (Nat×AV)}{mem:List (Nat×List AV)}{sh:Sh}{aa:aG}(h:look env t=some .un) :
   bo O (⟨d,some (t,b),args,op⟩::l) ⟨env,mem,sh,aa⟩=bo O l ⟨fy env d .un,mem,sh,aa⟩:=by
 rw[kO];simp only[dN,fc,h];rfl
noncomputable def gd(O:dX)(t:Nat)(ops:List dI)(d:Option Nat)(l:List dI)(env:List (Nat×AV))(mem:List (Nat×List AV))(sh:Sh)(aa:aG):Option AV→Option St
 |some (.pv (.bool c))=>if Gk t ops=true then (if c=true then bo O (ops.map (tu t true)) ⟨cW env t (.pv (.bool true)),mem,sh,aa⟩
     else bo O (ops.map (tu t false)) ⟨cW env t (.pv (.bool false)),mem,sh,aa⟩) else bo O ops ⟨env,mem,sh,aa⟩
 |some .un=>bo O l ⟨fy env d .un,mem,sh,aa⟩
 |_=>bo O ops ⟨env,mem,sh,aa⟩
theorem Jz{d:Option Nat}{t:Nat}{b:Bool}{args:List eJ}{op:AK}{l:List dI}{env:List (Nat×AV)}{mem:List (Nat×List AV)}{sh:Sh}{aa:aG} :
   bo O (⟨d,some (t,b),args,op⟩::l) ⟨env,mem,sh,aa⟩=gd O t (⟨d,some (t,b),args,op⟩::l) d l env mem sh aa (look env t):=by
 unfold gd;split
 · rename_i c h;split
   ·rename_i hn;exact zB h hn
   ·rfl
 ·rename_i h;exact xl h
 ·rfl
theorem Nf{t:Nat}{ops:List dI}{d:Option Nat}{l:List dI}{env:List (Nat×AV)}{mem:List (Nat×List AV)}{sh:Sh}{aa:aG}{c:Bool}:gd O t ops d l env mem sh aa (some (.pv (.bool c))) =
   if Gk t ops=true then (if c=true then bo O (ops.map (tu t true)) ⟨cW env t (.pv (.bool true)),mem,sh,aa⟩
     else bo O (ops.map (tu t false)) ⟨cW env t (.pv (.bool false)),mem,sh,aa⟩) else bo O ops ⟨env,mem,sh,aa⟩:=rfl
theorem Su{t:Nat}{ops:List dI}{d:Option Nat}{l:List dI}{env:List (Nat×AV)}{mem:List (Nat×List AV)}{sh:Sh}{aa:aG}:gd O t ops d l env mem sh aa (some .un)=bo O l ⟨fy env d .un,mem,sh,aa⟩:=rfl
theorem Ng{t:Nat}:Gk t []=true:=rfl
theorem JA{t d:Nat}{g:Option (Nat×Bool)}{args:List eJ}{op:AK}{l:List dI}:Gk t (⟨some d,g,args,op⟩::l)=(!(decide (d=t)) && Gk t l):=by
 simp only[Gk];congr 1
theorem JB{t:Nat}{g:Option (Nat×Bool)}{args:List eJ}{op:AK}{l:List dI}:Gk t (⟨none,g,args,op⟩::l)=Gk t l:=by
 simp[Gk]
theorem Gn{t:Nat}{b:Bool}{d:Option Nat}{args:List eJ}{op:AK}:tu t b ⟨d,none,args,op⟩=⟨d,none,args,op⟩:=rfl
theorem Gp{t t':Nat}{b b':Bool}{d:Option Nat}{args:List eJ}{op:AK}:tu t b ⟨d,some (t',b'),args,op⟩=if t'=t then (if b'=b then ⟨d,none,args,op⟩ else ⟨d,none,[.c .un],.v .mv⟩) else ⟨d,some (t',b'),args,op⟩:=rfl
theorem zD{d k:Option Nat}{env:List (Nat×AV)}{mem:List (Nat×List AV)}{v:AV}{cs:Option (List AV)}{sh:Sh}{aa:aG} :
   tt d k env mem (some ⟨v,cs,sh,aa⟩)=some ⟨fy env d v,eR mem k cs,sh,aa⟩:=rfl
theorem Ca{d k:Option Nat}{env:List (Nat×AV)}{mem:List (Nat×List AV)}{c:Prop}[Decidable c]{x y:Option Out}:tt d k env mem (if c then x else y)=if c then tt d k env mem x else tt d k env mem y:=by split<;>rfl
theorem Cb{op:AK}{vals:List AV}{cells:Option (List AV)}{sh:Sh}{aa:aG}:Jy O op (some vals) cells sh aa=exec O op vals cells sh aa:=rfl
def JC(sh:Sh)(aa:aG):Option AV→Option Out
 |some x=>some ⟨x,none,sh,aa⟩
 |none=>none
theorem Gq{sh:Sh}{aa:aG}{x:AV}:JC sh aa (some x)=some ⟨x,none,sh,aa⟩:=rfl
variable {vals:List AV} {cells:Option (List AV)} {sh:Sh} {aa:aG}
theorem QA{o:MY}:exec O (.v o) vals cells sh aa=JC sh aa (bA o vals):=by
 show (bA o vals).map _=_;cases bA o vals<;>rfl
theorem gY{key off sz d o:Nat}{ag:Bool}{cs:List AV}:exec O (.bX key off sz ag) [.az d o] (some cs) sh aa=if d=key∧o=off then JC sh aa (bQ ag sz cs off) else none:=by
 show (if d=key∧o=off then (bQ ag sz cs off).map _ else none)=_;cases bQ ag sz cs off<;>rfl
theorem ir{key off sz d o:Nat}{v:AV}{cs:List AV}:exec O (.bB key off sz) [.az d o,v] (some cs) sh aa =
   if d=key∧o=off∧(a_ v).length=sz∧(a_ v).all aT=true then if off+sz≤cs.length then some ⟨.un,some (aQ cs off (a_ v)),sh,aa⟩ else none else none:=rfl
theorem jg{key:Nat}{zero:List PV}:exec O (.alloc key zero) [] none sh aa=some ⟨.az key 0,some (zero.map bA.zeroCell),sh,aa⟩:=rfl
theorem lO{key sz:Nat}{v:AV}:exec O (.box key sz) [v] none sh aa=if (a_ v).length=sz∧(a_ v).all aT=true then some ⟨.az key 0,some (a_ v),sh,aa⟩ else none:=rfl
theorem zF{sz:Nat}{ag:Bool}{cs:List PV}:exec O (.dU sz ag) [.fH cs] cells sh aa=JC sh aa (cM ag sz cs):=by
 show (cM ag sz cs).map _=_;cases cM ag sz cs<;>rfl
def xm(ag:Bool)(sz off:Nat):Option (Option (List AV))→Option AV
 |some (some cs)=>if bU cs=true then none else bQ ag sz cs off
 |_=>none
theorem qV{ag:Bool}{sz off:Nat}{cs:List AV}:xm ag sz off (some (some cs))=if bU cs=true then none else bQ ag sz cs off:=rfl
theorem zG{sz b off:Nat}{ag:Bool}:exec O (.dU sz ag) [.aW b off] cells sh aa=JC sh aa (xm ag sz off sh[b]?):=by
 show (match sh[b]? with|some (some cs)=>if bU cs=true then none else (bQ ag sz cs off).map _|_=>none)=_;split
 · rename_i cs h;rw[h,qV];split
   ·rfl
   ·cases bQ ag sz cs off<;>rfl
 · rename_i h;unfold xm;split
   ·rename_i cs e;exact absurd e (h cs)
   ·rfl
def xn(b off sz:Nat)(vs:List AV)(sh:Sh)(aa:aG):Option (Option (List AV))→Option Out
 |some (some cs)=>if bU cs=false∧vs.length=sz∧off+sz≤cs.length∧vs.all cL=true∧vs.all (aK (b+1))=true then some ⟨.un,none,sh.set b (some (aQ cs off vs)),aa⟩ else none
 |_=>none
theorem oT{b off sz:Nat}{vs cs:List AV}:xn b off sz vs sh aa (some (some cs))=if bU cs=false∧vs.length=sz∧off+sz≤cs.length∧vs.all cL=true∧vs.all (aK (b+1))=true then some ⟨.un,none,sh.set b (some (aQ cs off vs)),aa⟩ else none:=rfl
theorem iu{sz b off:Nat}{v:AV}:exec O (.fo sz) [.aW b off,v] cells sh aa=xn b off sz (cr v) sh aa sh[b]?:=by
 show (match sh[b]? with|some (some cs)=>_|_=>none)=_;split
 ·rename_i cs h;rw[h,oT]
 · rename_i h;unfold xn;split
   ·rename_i cs e;exact absurd e (h cs)
   ·rfl
theorem mD{sz:Nat}{v:AV}:exec O (.oq sz) [v] cells sh aa=if (cr v).length=sz∧(cr v).all cL=true∧(cr v).all (aK sh.length)=true then some ⟨.aW sh.length 0,none,sh++[some (cr v)],aa⟩ else none:=rfl
theorem jD{zero:List PV}:exec O (.iX zero) [] cells sh aa=some ⟨.aW sh.length 0,none,sh++[some (zero.map bA.zeroCell)],aa⟩:=rfl
theorem kF{sz bytes:Nat}{ag:Bool}{zero:List PV}{k k':IntKind}{n n':Int}:exec O (.iY sz bytes ag zero) [.pv (.int k n),.pv (.int k' n')] cells sh aa =
   if n=n'∧0≤n∧n≤9223372036854775807∧n*bytes≤140737488355328∧zero.length=sz then some ⟨.aP sh.length sz n.toNat ag,none,sh++[some ((List.replicate n.toNat (zero.map .pv)).flatten)],aa⟩ else none:=rfl
theorem jh{key sz bytes:Nat}{zero:List PV}{k k':IntKind}{n n':Int}:exec O (.ik key sz bytes zero) [.pv (.int k n),.pv (.int k' n')] none sh aa =
   if n=n'∧0≤n∧n≤9223372036854775807∧n*bytes≤140737488355328∧zero.length=sz then some ⟨.jt key n.toNat,some ((List.replicate n.toNat (zero.map .pv)).flatten),sh,aa⟩ else none:=rfl
theorem Gr{d s b:Nat}{z:List PV}:AK.key (.ik d s b z)=some d:=rfl
theorem Cc{live:List Nat}{d n:Nat}:dV live (.jt d n)=live.contains d:=rfl
def QB(d sz:Nat)(ag:Bool)(st:St):Option (List AV)→St
 |some cells=>if cells.all cL=true∧cells.all (aK (st.sh.length+1))=true then
     { st with env:=ry d st.sh.length sz cells.length ag st.env (st.env.map (·.1)),mem:=rz d st.mem,sh:=st.sh++[some cells] } else st
 |none=>st
theorem Nh{d sz:Nat}{ag:Bool}{st:St}:FJ d sz ag st=QB d sz ag st (look st.mem d):=by
 unfold FJ QB;split<;>rename_i h<;>rw[h]
theorem Gs{d sz:Nat}{ag:Bool}{env:List (Nat×AV)}{mem:List (Nat×List AV)}{cells:List AV}:QB d sz ag ⟨env,mem,sh,aa⟩ (some cells) =
   if cells.all cL=true∧cells.all (aK (sh.length+1))=true then ⟨ry d sh.length sz cells.length ag env (env.map (·.1)),rz d mem,sh++[some cells],aa⟩ else ⟨env,mem,sh,aa⟩:=rfl
theorem JD{st:St}:wF [] st=st:=rfl
theorem Gt{d sz:Nat}{ag:Bool}{r:List (Nat×Nat×Bool)}{st:St}:wF ((d,sz,ag)::r) st=wF r (FJ d sz ag st):=rfl
theorem JE{d s sz n:Nat}{ag:Bool}{env:List (Nat×AV)}:ry d s sz n ag env []=[]:=rfl
def Sv(t:Nat)(r:List (Nat×AV)):Option AV→List (Nat×AV)
 |some v=>(t,v)::r
 |none=>r
theorem Gu{t:Nat}{r:List (Nat×AV)}{v:AV}:Sv t r (some v)=(t,v)::r:=rfl
theorem Gv{d s sz n t:Nat}{ag:Bool}{env:List (Nat×AV)}{r:List Nat}:ry d s sz n ag env (t::r)=Sv t (ry d s sz n ag env r) ((look env t).bind (yC d s sz n ag)):=by
 simp only[ry];split<;>rename_i h<;>rw[h]<;>rfl
theorem Gw{d s sz n d' o:Nat}{ag:Bool}:yC d s sz n ag (.az d' o)=some (if d'=d then .aW s o else .az d' o):=rfl
theorem Gx{d s sz n d' m:Nat}{ag:Bool}:yC d s sz n ag (.jt d' m)=if d'=d then (if m*sz≤n then some (.aP s sz m ag) else none) else some (.jt d' m):=rfl
theorem Ni{d s sz n:Nat}{ag:Bool}{p:PV}:yC d s sz n ag (.pv p)=some (.pv p):=rfl
theorem Gy{d s sz n b z m:Nat}{ag g:Bool}:yC d s sz n ag (.aP b z m g)=some (.aP b z m g):=rfl
theorem JF{α:Type}{d:Nat}:rz d ([]:List (Nat×α))=[]:=rfl
theorem Gz{α:Type}{d k:Nat}{v:α}{r:List (Nat×α)}:rz d ((k,v)::r)=if k=d then rz d r else (k,v)::rz d r:=rfl
def Sw(ts:List Nat)(st:St):Option AV→St
 |some (.aP b _ _ _)=>match st.sh[b]? with
   |some (some cells)=>if bU cells=false then { st with env:=nc b st.sh.length ts st.env,sh:=st.sh.set b none++[some cells] } else st
   |_=>st
 |_=>st
theorem GA{t:Nat}{r:List Nat}{st:St}:BK (t::r) st=Sw (t::r) st (look st.env t):=rfl
def Sx(ts:List Nat)(b:Nat)(st:St):Option (Option (List AV))→St
 |some (some cells)=>if bU cells=false then { st with env:=nc b st.sh.length ts st.env,sh:=st.sh.set b none++[some cells] } else st
 |_=>st
theorem GB{ts:List Nat}{st:St}{b z n:Nat}{ag:Bool}:Sw ts st (some (.aP b z n ag))=Sx ts b st st.sh[b]?:=rfl
theorem GC{ts:List Nat}{b:Nat}{env:List (Nat×AV)}{mem:List (Nat×List AV)}{cells:List AV}:Sx ts b ⟨env,mem,sh,aa⟩ (some (some cells)) =
   if bU cells=false then ⟨nc b sh.length ts env,mem,sh.set b none++[some cells],aa⟩ else ⟨env,mem,sh,aa⟩:=rfl
theorem JG{b b':Nat}{env:List (Nat×AV)}:nc b b' [] env=env:=rfl
def Sy(b b' t:Nat)(r:List Nat)(env:List (Nat×AV)):Option AV→List (Nat×AV)
 |some (.aP s z n ag)=>if s=b then nc b b' r (cW env t (.aP b' z n ag)) else nc b b' r env
 |_=>nc b b' r env
theorem GD{b b' t:Nat}{r:List Nat}{env:List (Nat×AV)}:nc b b' (t::r) env=Sy b b' t r env (look env t):=rfl
theorem GF{b b' t s z n:Nat}{ag:Bool}{r:List Nat}{env:List (Nat×AV)}:Sy b b' t r env (some (.aP s z n ag))=if s=b then nc b b' r (cW env t (.aP b' z n ag)) else nc b b' r env:=rfl
theorem JH{st:St}:i_ [] st=st:=rfl
def QC(r:List Nat)(st:St):Option AV→St
 |some (.aP b _ _ _)=>match st.sh[b]? with
   |some (some cells)=>if bU cells=false∧(ei (.agg cells)).contains b=false then
       match b_ st.sh cells with
       |some ps=>i_ r { st with sh:=(cy st.sh [.agg cells]).set b (some (ps.map .pv)) }
       |none=>i_ r st
     else i_ r st
   |_=>i_ r st
 |_=>i_ r st
theorem GG{t:Nat}{r:List Nat}{st:St}:i_ (t::r) st=QC r st (look st.env t):=rfl
def QD(r:List Nat)(b:Nat)(cells:List AV)(st:St):Option (List PV)→St
 |some ps=>i_ r { st with sh:=(cy st.sh [.agg cells]).set b (some (ps.map .pv)) }
 |none=>i_ r st
def QE(r:List Nat)(b:Nat)(st:St):Option (Option (List AV))→St
 |some (some cells)=>if bU cells=false∧(ei (.agg cells)).contains b=false then QD r b cells st (b_ st.sh cells) else i_ r st
 |_=>i_ r st
theorem GH{r:List Nat}{st:St}{b z n:Nat}{ag:Bool}:QC r st (some (.aP b z n ag))=QE r b st st.sh[b]?:=by
 simp only[QC];split
 ·rename_i cells h;rw[h];rfl
 · rename_i h;unfold QE;split
   ·rename_i cells e;exact absurd e (h cells)
   ·rfl
theorem GI{r:List Nat}{b:Nat}{st:St}{cells:List AV}:QE r b st (some (some cells))=if bU cells=false∧(ei (.agg cells)).contains b=false then QD r b cells st (b_ st.sh cells) else i_ r st:=rfl
theorem GJ{r:List Nat}{b:Nat}{cells:List AV}{ps:List PV}{env:List (Nat×AV)}{mem:List (Nat×List AV)}:QD r b cells ⟨env,mem,sh,aa⟩ (some ps)=i_ r ⟨env,mem,(cy sh [.agg cells]).set b (some (ps.map .pv)),aa⟩:=rfl
def Sz(aa:aG):Option (AV×Sh×aG)→Option Out
 |some (v,sh',ts)=>some ⟨v,none,sh',ts⟩
 |none=>none
theorem GK{v:AV}{sh':Sh}{ts:aG}:Sz aa (some (v,sh',ts))=some ⟨v,none,sh',ts⟩:=rfl
theorem zH{sz bytes:Nat}{ag:Bool}{x:AV}:exec O (.gr sz bytes ag) [x] cells sh aa=Sz aa (fu (some ag) sz bytes x sh aa):=by
 show ((fu (some ag) sz bytes x sh aa).map _)=_;cases fu (some ag) sz bytes x sh aa<;>rfl
def xp(ag:Bool)(sz bytes:Nat)(sh:Sh)(aa:aG):Option (List PV)→Option (AV×Sh×aG)
 |some xs=>if bf sz xs=true then (if xs.isEmpty=true then some (.dB [],sh,aa) else if xs.length*bytes≤140737488355328 then some (.aP sh.length sz xs.length ag,sh++[some ((xs.flatMap aX).map .pv)],aa) else none) else none
 |none=>none
theorem GL{ag:Bool}{sz bytes:Nat}{x:AV}:fu (some ag) sz bytes x sh aa=xp ag sz bytes sh aa (cH x):=by
 cases h:cH x with
 |none=>simp[fu,xp,h]
 |some xs=>
   simp only[fu,xp,h];split
   · unfold rn;split
     ·rfl
     ·split<;>rfl
   ·rfl
theorem zI{ag:Bool}{sz bytes:Nat}{xs:List PV}:xp ag sz bytes sh aa (some xs) =
   if bf sz xs=true then (if xs.isEmpty=true then some (.dB [],sh,aa) else if xs.length*bytes≤140737488355328 then some (.aP sh.length sz xs.length ag,sh++[some ((xs.flatMap aX).map .pv)],aa) else none) else none:=rfl
theorem Cd{sz bytes:Nat}{ag:Bool}:(AK.gr sz bytes ag).key=none:=rfl
theorem Nj{p:PV}{r:List AV}:bU (.pv p::r)=false:=rfl
def cP(s:Nat)(sh:Sh)(aa:aG):Option (List (PV×PV))→Option Out
 |some kvs=>some ⟨.un,none,sh.set s (some [.fJ kvs]),aa⟩
 |none=>none
theorem GM{s:Nat}{kvs:List (PV×PV)}:cP s sh aa (some kvs)=some ⟨.un,none,sh.set s (some [.fJ kvs]),aa⟩:=rfl
def VC(c:CK)(s:Nat)(k:PV)(sh:Sh)(aa:aG):Option (Option (List AV))→Option PV→Option Out
 |some (some [.fJ kvs]),some p=>cP s sh aa (Jh c kvs k p)
 |_,_=>none
theorem GN{c:CK}{s:Nat}{k p:PV}{kvs:List (PV×PV)}:VC c s k sh aa (some (some [.fJ kvs])) (some p)=cP s sh aa (Jh c kvs k p):=rfl
def GO(sh:Sh):Option (AV×aG)→Option Out
 |some (v,ts)=>some ⟨v,none,sh,ts⟩
 |none=>none
theorem GP{v:AV}{ts:aG}:GO sh (some (v,ts))=some ⟨v,none,sh,ts⟩:=rfl
theorem JI{c:Prop}[Decidable c]{x y:Option (AV×aG)}:GO sh (if c then x else y)=if c then GO sh x else GO sh y:=by split<;>rfl
theorem jE{sz bytes:Nat}{s x:AV}:exec O (.append sz bytes) [s,x] cells sh aa=GO sh (bR sz bytes s x aa):=by
 show (bR sz bytes s x aa).map _=_;cases bR sz bytes s x aa<;>rfl
theorem nC{sz bytes:Nat}{x:AV}:exec O (.clone sz bytes) [x] cells sh aa=GO sh (bR sz bytes (.dB []) x aa):=by
 show (bR sz bytes (.dB []) x aa).map _=_;cases bR sz bytes (.dB []) x aa<;>rfl
def EL(sz bytes:Nat)(s:AV)(aa:aG):Option (List PV)→Option (AV×aG)
 |some xs=>if bf sz xs=true then
   match s with
   | .dB l=>if xs.isEmpty=true then some (.dB l,aa) else if bf sz l=true∧(l.length+xs.length)*bytes≤140737488355328 then
       some (.own (l++xs) aa.length,aa++[(l++xs).length]) else none
   | .own l τ=>if aa[τ]?=some l.length∧bf sz l=true∧(l.length+xs.length)*bytes≤140737488355328 then
       some (.own (l++xs) τ,aa.set τ (l++xs).length) else none
   |_=>none
   else none
 |none=>none
theorem uR{sz bytes:Nat}{s x:AV}:bR sz bytes s x aa=EL sz bytes s aa (cH x):=by
 unfold bR EL;cases cH x<;>rfl
theorem GQ{sz bytes:Nat}{l xs:List PV}:EL sz bytes (.dB l) aa (some xs)=if bf sz xs=true then if xs.isEmpty=true then some (.dB l,aa) else if bf sz l=true∧(l.length+xs.length)*bytes≤140737488355328 then
       some (.own (l++xs) aa.length,aa++[(l++xs).length]) else none else none:=rfl
theorem GR{sz bytes τ:Nat}{l xs:List PV}:EL sz bytes (.own l τ) aa (some xs)=if bf sz xs=true then if aa[τ]?=some l.length∧bf sz l=true∧(l.length+xs.length)*bytes≤140737488355328 then
       some (.own (l++xs) τ,aa.set τ (l++xs).length) else none else none:=rfl
def QF(aa:aG):Option (AV×Sh)→Option Out
 |some (v,sh)=>some ⟨v,none,sh,aa⟩
 |none=>none
theorem GS{v:AV}{sh:Sh}:QF aa (some (v,sh))=some ⟨v,none,sh,aa⟩:=rfl
def JJ(sz bytes:Nat)(ag:Bool)(s:AV)(sh:Sh)(aa:aG):Option (List PV)→Option Out
 |some xs=>if bf sz xs=true then QF aa (rq sz bytes ag s xs sh aa) else none
 |none=>none
theorem Ce{sz bytes:Nat}{ag:Bool}{s:AV}{xs:List PV}:JJ sz bytes ag s sh aa (some xs)=if bf sz xs=true then QF aa (rq sz bytes ag s xs sh aa) else none:=rfl
theorem kH{sz bytes:Nat}{ag:Bool}{s x:AV}:exec O (.dC sz bytes ag) [s,x] cells sh aa=JJ sz bytes ag s sh aa (cH x):=by
 simp only[exec,JJ];cases cH x with
 |none=>rfl
 |some xs=>
   simp only;split
   ·cases rq sz bytes ag s xs sh aa<;>rfl
   ·rfl
def Cf(sz bytes:Nat)(ag:Bool)(b z n:Nat)(g:Bool)(xs:List PV)(sh:Sh):Option (Option (List AV))→Option (AV×Sh)
 |some (some cells)=>if z=sz∧g=ag∧bU cells=false∧n*sz≤cells.length∧(n+xs.length)*bytes≤140737488355328 then
       if xs.isEmpty=true then some (.aP b sz n ag,sh) else some (.aP sh.length sz (n+xs.length) ag,sh.set b none++[some (cells.take (n*sz)++(xs.flatMap aX).map .pv)])
     else none
 |_=>none
theorem zJ{sz bytes:Nat}{ag:Bool}{b z n:Nat}{g:Bool}{xs:List PV}{cells:List AV}:Cf sz bytes ag b z n g xs sh (some (some cells))=if z=sz∧g=ag∧bU cells=false∧n*sz≤cells.length∧(n+xs.length)*bytes≤140737488355328 then
       if xs.isEmpty=true then some (.aP b sz n ag,sh) else some (.aP sh.length sz (n+xs.length) ag,sh.set b none++[some (cells.take (n*sz)++(xs.flatMap aX).map .pv)])
     else none:=rfl
theorem JK{sz bytes:Nat}{ag:Bool}{xs:List PV}:rq sz bytes ag (.dB []) xs sh aa=rn sz bytes ag (.dB []) xs sh:=rfl
theorem JL{sz bytes τ:Nat}{ag:Bool}{xs:List PV}:rq sz bytes ag (.own [] τ) xs sh aa=if aa[τ]?=some 0 then rn sz bytes ag (.own [] τ) xs sh else none:=rfl
theorem GU{sz bytes b z n:Nat}{ag g:Bool}{xs:List PV}:rq sz bytes ag (.aP b z n g) xs sh aa=Cf sz bytes ag b z n g xs sh sh[b]?:=by
 simp only[rq,Cf];rcases sh[b]? with _|_|cells<;>rfl
theorem Nk{sz bytes:Nat}{ag:Bool}{s:AV}{xs:List PV}:rn sz bytes ag s xs sh=if xs.isEmpty=true then some (s,sh) else if xs.length*bytes≤140737488355328 then some (.aP sh.length sz xs.length ag,sh++[some ((xs.flatMap aX).map .pv)]) else none:=rfl
def Nl(r:List Nat)(t:Nat)(st:St)(v:AV):Option PV→St
 |some p=>nb r { st with env:=cW st.env t (.pv p),sh:=cy st.sh [v] }
 |none=>nb r (BJ v st)
def JM(d:Nat)(cs:List AV)(st:St):Option (List PV)→St
 |some ps=>{ st with mem:=cW st.mem d (ps.map .pv),sh:=cy st.sh [.agg cs] }
 |none=>st
def JN(d:Nat)(st:St):Option (List AV)→St
 |some cs=>JM d cs st (b_ st.sh cs)
 |none=>st
theorem GV{d:Nat}{st:St}:BJ (.az d 0) st=JN d st (look st.mem d):=by
 simp only[BJ];cases look st.mem d with
 |none=>rfl
 |some cs=>
   simp only[JN];cases b_ st.sh cs<;>rfl
theorem Cg{d:Nat}{st:St}{cs:List AV}:JN d st (some cs)=JM d cs st (b_ st.sh cs):=rfl
theorem Ci{d:Nat}{st:St}{cs:List AV}{ps:List PV}:JM d cs st (some ps)={ st with mem:=cW st.mem d (ps.map .pv),sh:=cy st.sh [.agg cs] }:=rfl
def QG(r:List Nat)(t:Nat)(st:St):Option AV→St
 |some v=>Nl r t st v (dv st.sh v)
 |none=>nb r st
theorem JO{st:St}:nb [] st=st:=rfl
theorem GW{t:Nat}{r:List Nat}{st:St}:nb (t::r) st=QG r t st (look st.env t):=by
 simp only[nb];cases look st.env t with
 |none=>rfl
 |some v=>
   simp only[QG];cases dv st.sh v<;>rfl
theorem GX{r:List Nat}{t:Nat}{st:St}{v:AV}:QG r t st (some v)=Nl r t st v (dv st.sh v):=rfl
theorem GY{r:List Nat}{t:Nat}{st:St}{v:AV}{p:PV}:Nl r t st v (some p)=nb r { st with env:=cW st.env t (.pv p),sh:=cy st.sh [v] }:=rfl
theorem GZ{r:List Nat}{t:Nat}{st:St}{v:AV}:Nl r t st v none=nb r (BJ v st):=rfl
def QH(aa:aG):Option Sh→Option Out
 |some sh=>some ⟨.qx [],none,sh,aa⟩
 |none=>none
theorem G5{sh:Sh}:QH aa (some sh)=some ⟨.qx [],none,sh,aa⟩:=rfl
def tv(sz:Nat)(zero:List PV)(sh:Sh)(b off n:Nat):Option (Option (List AV))→Option Sh
 |some (some cells)=>if bU cells=false∧off+n*sz≤cells.length∧zero.length=sz then some (sh.set b (some (aQ cells off (List.replicate n (zero.map .pv)).flatten))) else none
 |_=>none
theorem zL{sz b off n:Nat}{zero:List PV}{cells:List AV}:tv sz zero sh b off n (some (some cells))=if bU cells=false∧off+n*sz≤cells.length∧zero.length=sz then some (sh.set b (some (aQ cells off (List.replicate n (zero.map .pv)).flatten))) else none:=rfl
theorem xq{sz b n:Nat}{ag:Bool}{zero:List PV}:exec O (.gv sz zero) [.aP b sz n ag] cells sh aa=QH aa (tv sz zero sh b 0 n sh[b]?):=by
 simp only[exec,ss,if_true,nv];rcases sh[b]? with _|_|cs
 ·rfl
 ·rfl
 ·simp only[tv];split<;>rfl
theorem xr{sz b off n:Nat}{zero:List PV}:exec O (.gv sz zero) [.pJ b off n] cells sh aa=QH aa (tv sz zero sh b off n sh[b]?):=by
 simp only[exec,ss,nv];rcases sh[b]? with _|_|cs
 ·rfl
 ·rfl
 ·simp only[tv];split<;>rfl
def tw(sz:Nat)(sh:Sh)(aa:aG)(x:AV):Option (List PV)→Option Out
 |some xs=>JP aa (ou sz sh xs x)
 |none=>none
where JP (aa:aG):Option (Nat×Sh)→Option Out
 |some (k,sh')=>some ⟨.pv (.int .i64 (k:Int)),none,sh',aa⟩
 |none=>none
theorem zM{sz:Nat}{x:AV}{xs:List PV}:tw sz sh aa x (some xs)=tw.JP aa (ou sz sh xs x):=rfl
theorem Cj{k:Nat}{sh':Sh}:tw.JP aa (some (k,sh'))=some ⟨.pv (.int .i64 (k:Int)),none,sh',aa⟩:=rfl
theorem kG{sz:Nat}{x y:AV}:exec O (.jx sz) [x,y] cells sh aa=tw sz sh aa x (cH y):=by
 simp only[exec,tw];cases cH y with
 |none=>rfl
 |some xs=>simp only;cases ou sz sh xs x<;>rfl
def JQ(sz:Nat)(sh:Sh)(xs:List PV)(b z n:Nat):Option (Option (List AV))→Option (Nat×Sh)
 |some (some cells)=>if z=sz∧bf sz xs=true∧bU cells=false∧n*sz≤cells.length then
       some (min xs.length n,sh.set b (some (aQ cells 0 (((xs.take n).flatMap aX).map .pv)))) else none
 |_=>none
theorem Ck{sz b z n:Nat}{xs:List PV}{cells:List AV}:JQ sz sh xs b z n (some (some cells))=if z=sz∧bf sz xs=true∧bU cells=false∧n*sz≤cells.length then
       some (min xs.length n,sh.set b (some (aQ cells 0 (((xs.take n).flatMap aX).map .pv)))) else none:=rfl
theorem Cl{sz b z n:Nat}{g:Bool}{xs:List PV}:ou sz sh xs (.aP b z n g)=JQ sz sh xs b z n sh[b]?:=by
 simp only[ou,JQ];rcases sh[b]? with _|_|cells<;>rfl
theorem G8{s:Nat}:AK.key (.jx s)=none:=rfl
theorem G9:yB [] []=true:=rfl
theorem Cm{a b:List UInt8}{r q:List PV}:yB (.str a::r) (.str b::q)=((a == b) && yB r q):=rfl
theorem Cn{s:Nat}{z:List PV}:AK.key (.gv s z)=none:=rfl
theorem Co{sz b n:Nat}{ag lo hi:Bool}{rest:List AV}:bA (.sq sz lo hi) (.aP b sz n ag::rest)=jV sz lo hi (.aP b sz n ag::rest):=rfl
theorem JR{l:List PV}:cH (.pv (.au l))=some l:=rfl
theorem G_{l:List PV}:cH (.dB l)=some l:=rfl
theorem Ha{l:List PV}{τ:Nat}:cH (.own l τ)=some l:=rfl
theorem Cp{sz:Nat}:bf sz []=true:=rfl
theorem zN{sz:Nat}{p:PV}{r:List PV}:bf sz (p::r)=((aX p).length == sz):=rfl
def QI(sh:Sh)(aa:aG):Option (List PV)→Option Out
 |some rs=>some ⟨su rs,none,sh,aa⟩
 |none=>none
theorem Hb{rs:List PV}:QI sh aa (some rs)=some ⟨su rs,none,sh,aa⟩:=rfl
def JS(O:dX)(g:Nat):Option (List PV)→Option (List PV)
 |some cV=>O.p g cV
 |none=>none
theorem nN{g:Nat}{cV:List PV}:JS O g (some cV)=O.p g cV:=rfl
theorem Cq{g:Nat}:exec O (.aJ g) vals cells sh aa=QI sh aa (JS O g (cY [] vals)):=by
 show (match cY [] vals with|some cV=>_|none=>none)=_;split
 ·rename_i cV h;rw[h,nN];cases O.p g cV<;>rfl
 ·rename_i h;rw[h];rfl
theorem zQ{g:Nat}:exec O (.en g) vals cells sh aa=QI (cy sh vals) aa (JS O g (cY sh vals)):=by
 show (match cY sh vals with|some cV=>_|none=>none)=_;split
 ·rename_i cV h;rw[h,nN];cases O.p g cV<;>rfl
 ·rename_i h;rw[h];rfl
def QJ(n:Nat)(ts0:aG):Option (List AV×Sh×aG)→Option Out
 |some (rs,sh',ts)=>some ⟨sv (rs.map (cZ n)),none,d6 n sh',ts0++ts⟩
 |none=>none
theorem Hc{n:Nat}{ts0:aG}{rs:List AV}{sh':Sh}{ts:aG}:QJ n ts0 (some (rs,sh',ts))=some ⟨sv (rs.map (cZ n)),none,d6 n sh',ts0++ts⟩:=rfl
def EM(O:dX)(g n:Nat)(q:List AV×Sh×aG×aG):Option Out:=QJ n q.2.2.1 (O.i g q.1 q.2.1 q.2.2.2)
theorem JT{g n:Nat}{a:List AV}{s:Sh}{o t:aG}:EM O g n (a,s,o,t)=QJ n o (O.i g a s t):=rfl
def vD(O:dX)(g:Nat)(args:List AV)(sh:Sh)(aa:aG):Option Out:=
 if args.all bI=true then EM O g aa.length (cQ aa args sh) else none
theorem JU{g:Nat}{args:List AV}:vD O g args sh aa=if args.all bI=true then EM O g aa.length (cQ aa args sh) else none:=rfl
theorem lV{g:Nat}{own:List Nat}:(dM O g own vals sh aa).map (fun (v,sh',ts)=>(⟨v,none,sh',ts⟩:Out))=vD O g (dP own 0 vals) sh aa:=by
 unfold dM vD EM;split
 · cases O.i g (cQ aa (dP own 0 vals) sh).1 (cQ aa (dP own 0 vals) sh).2.1 (cQ aa (dP own 0 vals) sh).2.2.2 with
   |none=>rfl
   |some q=>obtain⟨a,b,c⟩:=q;rfl
 ·rfl
theorem Cr{g:Nat}{own:List Nat}:exec O (.bz g own) vals cells sh aa=vD O g (dP own 0 vals) sh aa:=lV
theorem ep{g:Nat}{cap:List AV}:exec O .fm (.fn g cap::vals) cells sh aa=vD O g (dP [] 0 (vals++cap)) sh aa:=lV (vals:=vals++cap)
def WB(sh:Sh):Option Out→Option Out
 |some o=>if ru o.sh sh=true then some ⟨o.val,none,sh,o.aa⟩ else none
 |none=>none
theorem zR{g:Nat}{cap:List AV}:exec O .eU (.fn g cap::vals) cells sh aa=WB sh (vD O g (dP [] 0 (vals++cap)) sh aa):=by
 rw[←lV];simp only[exec];cases dM O g [] (vals++cap) sh aa with
 |none=>rfl
 |some q=>obtain⟨v,s,t⟩:=q;rfl
mutual
theorem vE:∀p:PV,na p p=true
 | .bool _=>by simp[na]
 | .int _ _=>by simp[na]
 | .str _=>by simp[na]
 | .agg l=>by simp only[na];exact nO l
 | .au l=>by simp only[na];exact nO l
theorem nO:∀l:List PV,oz l l=true
 |[]=>rfl
 |p::r=>by simp only[oz,vE p,nO r,Bool.and_self]
end
theorem QK{p:PV}:Sn (.pv p) (.pv p)=true:=vE p
def b2sO:Option (List UInt8)→Option AV
 |some s=>some (.pv (.str s))
 |none=>none
theorem b2sO_some{s:List UInt8}:b2sO (some s)=some (.pv (.str s)):=rfl
theorem Cs{own:List Nat}{i:Nat}:dP own i []=[]:=rfl
theorem zT{own:List Nat}{i:Nat}{v:AV}{r:List AV}:dP own i (v::r)=(if own.contains i then v else lh v)::dP own (i+1) r:=rfl
theorem JV{p:PV}:lh (.pv p)=.pv p:=rfl
theorem He{l:List PV}:lh (.dB l)=.pv (.au l):=rfl
theorem Hf{l:List PV}{τ:Nat}:lh (.own l τ)=.pv (.au l):=rfl
theorem Ct{b o:Nat}:lh (.aW b o)=.aW b o:=rfl
theorem JW{g:Nat}{cap:List AV}:lh (.fn g cap)=.fn g cap:=rfl
theorem Cu{b s n:Nat}{ag:Bool}:lh (.aP b s n ag)=.aP b s n ag:=rfl
def Cv(cs:List AV):Option (List PV)→AV
 |some ps=>.pv (.agg ps)
 |none=>.agg cs
theorem Hg{cs:List AV}:lh (.agg cs)=Cv cs (b_ [] cs):=by
 have h:dv [] (.agg cs)=(b_ [] cs).map .agg:=rfl;unfold lh Cv;rw[h];cases b_ [] cs<;>rfl
theorem zU{cs:List AV}{ps:List PV}:Cv cs (some ps)=.pv (.agg ps):=rfl
def oU{α:Type}:Option α→Option (List α)→Option (List α)
 |some x,some l=>some (x::l)
 |_,_=>none
theorem Cx{α:Type}{x:α}{l:List α}:oU (some x) (some l)=some (x::l):=rfl
theorem Cy{env:List (Nat×AV)}:dQ env []=some []:=rfl
theorem zV{env:List (Nat×AV)}{x:eJ}{r:List eJ}:dQ env (x::r)=oU (gQ env x) (dQ env r):=by
 simp only[dQ];cases gQ env x<;>cases dQ env r<;>rfl
theorem Nn{env:List (Nat×AV)}{n:Nat}:gQ env (.t n)=look env n:=rfl
theorem Np{env:List (Nat×AV)}{v:AV}:gQ env (.c v)=some v:=rfl
theorem JX:eh []=some []:=rfl
theorem pZ{v:AV}{r:List AV}:eh (v::r)=oU (kx v) (eh r):=by
 simp only[eh];cases kx v<;>cases eh r<;>rfl
theorem Cz:cY sh []=some []:=rfl
theorem zW{v:AV}{r:List AV}:cY sh (v::r)=oU (dv sh v) (cY sh r):=by
 simp only[cY];cases dv sh v<;>cases cY sh r<;>rfl
theorem Hh:b_ sh []=some []:=rfl
theorem CA{v:AV}{r:List AV}:b_ sh (v::r)=if aT v=true then oU (dD sh v) (b_ sh r) else none:=by
 simp only[b_];split
 ·cases dD sh v<;>cases b_ sh r<;>rfl
 ·rfl
theorem Nq{p:PV}:kx (.pv p)=some p:=rfl
theorem QL{p:PV}:dv sh (.pv p)=some p:=rfl
theorem Nr{l:List PV}:dv sh (.dB l)=some (.au l):=rfl
theorem Ns{l:List PV}{τ:Nat}:dv sh (.own l τ)=some (.au l):=rfl
def SB:Option (List PV)→Option PV
 |some ps=>some (.agg ps)
 |none=>none
theorem Hi{ps:List PV}:SB (some ps)=some (.agg ps):=rfl
theorem Nt{cs:List AV}:dv sh (.agg cs)=SB (b_ sh cs):=by
 simp only[dv];cases b_ sh cs<;>rfl
theorem CB{p:PV}:dD sh (.pv p)=some p:=rfl
theorem zX{l:List PV}:dD sh (.dB l)=some (.au l):=rfl
theorem zY{l:List PV}{τ:Nat}:dD sh (.own l τ)=some (.au l):=rfl
def Nu(sz n:Nat)(ag:Bool):Option (Option (List AV))→Option PV
 |some (some cells)=>if cells.length=n*sz then ((eh cells).bind (dK sz ag n)).map .au
   else if bU cells=false∧n*sz≤cells.length then ((eh (cells.take (n*sz))).bind (dK sz ag n)).map .au else none
 |_=>none
theorem xt{b sz n:Nat}{ag:Bool}:dD sh (.aP b sz n ag)=Nu sz n ag sh[b]?:=rfl
theorem JY{b sz n:Nat}{ag:Bool}:dv sh (.aP b sz n ag)=Nu sz n ag sh[b]?:=rfl
theorem Hj{sz n:Nat}{ag:Bool}{cells:List AV}:Nu sz n ag (some (some cells))=if cells.length=n*sz then ((eh cells).bind (dK sz ag n)).map .au else if bU cells=false∧n*sz≤cells.length then ((eh (cells.take (n*sz))).bind (dK sz ag n)).map .au else none:=rfl
theorem JZ{r:PV}:su [r]=.pv r:=rfl
theorem J0{a b:PV}{r:List PV}:su (a::b::r)=.qx (.pv a::.pv b::r.map .pv):=rfl
theorem J1{r:AV}:sv [r]=r:=rfl
theorem J3:sv []=.qx []:=rfl
theorem J4{xs:List AV}:cQ aa xs sh=((bj aa [] xs).1,(a9 (bj aa [] xs).2.1 (bj aa [] xs).2.2 sh).1,(a9 (bj aa [] xs).2.1 (bj aa [] xs).2.2 sh).2.1,(a9 (bj aa [] xs).2.1 (bj aa [] xs).2.2 sh).2.2):=rfl
theorem Hk{aI ts:aG}:bj aI ts []=([],aI,ts):=rfl
theorem tz{aI ts:aG}{v:AV}{r:List AV}:bj aI ts (v::r)=((bE aI ts v).1::(bj (bE aI ts v).2.1 (bE aI ts v).2.2 r).1,(bj (bE aI ts v).2.1 (bE aI ts v).2.2 r).2):=rfl
theorem Hl{aI ts:aG}:a9 aI ts []=([],aI,ts):=rfl
theorem tD{aI ts:aG}{r:Sh}:a9 aI ts (none::r)=(none::(a9 aI ts r).1,(a9 aI ts r).2):=rfl
theorem tE{aI ts:aG}{cs:List AV}{r:Sh}:a9 aI ts (some cs::r)=(some (bj aI ts cs).1::(a9 (bj aI ts cs).2.1 (bj aI ts cs).2.2 r).1,(a9 (bj aI ts cs).2.1 (bj aI ts cs).2.2 r).2):=rfl
theorem Hm{aI ts:aG}:da aI ts []=([],aI,ts):=rfl
theorem CC{aI ts:aG}{t:Nat}{v:AV}{r:List (Nat×AV)}:da aI ts ((t,v)::r)=((t,(bE aI ts v).1)::(da (bE aI ts v).2.1 (bE aI ts v).2.2 r).1,(da (bE aI ts v).2.1 (bE aI ts v).2.2 r).2):=rfl
theorem Hn{aI ts:aG}:eW aI ts []=([],aI,ts):=rfl
theorem CD{aI ts:aG}{t:Nat}{v:List AV}{r:List (Nat×List AV)}:eW aI ts ((t,v)::r)=((t,(bj aI ts v).1)::(eW (bj aI ts v).2.1 (bj aI ts v).2.2 r).1,(eW (bj aI ts v).2.1 (bj aI ts v).2.2 r).2):=rfl
theorem Ho{aI ts:aG}{l:List PV}{τ:Nat}:bE aI ts (.own l τ)=if aI[τ]?=some l.length then (.own l ts.length,aI.set τ (l.length+1),ts++[l.length]) else (.pv (.au l),aI,ts):=rfl
theorem Hp{aI ts:aG}{l:List PV}:bE aI ts (.dB l)=(.own l ts.length,aI,ts++[l.length]):=rfl
theorem zZ{aI ts:aG}{p:PV}:bE aI ts (.pv p)=(.pv p,aI,ts):=rfl
def CE(aI ts:aG)(p:List AV):Bool→AV×aG×aG
 |true=>(.agg p,aI,ts)
 |false=>(.agg (cB aI ts p).1,(cB aI ts p).2.1,(cB aI ts p).2.2)
theorem Hq{aI ts:aG}{p:List AV}:bE aI ts (.agg p)=CE aI ts p (bD.d5 p):=by
 simp only[bE];cases bD.d5 p<;>rfl
theorem z4{aI ts:aG}{p:List AV}:CE aI ts p true=(.agg p,aI,ts):=rfl
theorem xu{aI ts:aG}{p:List AV}:CE aI ts p false=(.agg (cB aI ts p).1,(cB aI ts p).2.1,(cB aI ts p).2.2):=rfl
theorem CF{aI ts:aG}:cB aI ts []=([],aI,ts):=rfl
theorem z5{aI ts:aG}{v:AV}{r:List AV}:cB aI ts (v::r)=((ek aI ts v).1::(cB (ek aI ts v).2.1 (ek aI ts v).2.2 r).1,(cB (ek aI ts v).2.1 (ek aI ts v).2.2 r).2):=rfl
theorem Hr{aI ts:aG}{l:List PV}{τ:Nat}:ek aI ts (.own l τ)=if aI[τ]?=some l.length then (.own l ts.length,aI.set τ (l.length+1),ts++[l.length]) else (.pv (.au l),aI,ts):=rfl
theorem CG{aI ts:aG}{a b c:Nat}{d:Bool}:ek aI ts (.aP a b c d)=(.aP a b c d,aI,ts):=rfl
theorem CH{aI ts:aG}{a b:Nat}:bE aI ts (.az a b)=(.az a b,aI,ts):=rfl
theorem CI{aI ts:aG}{a b:Nat}:bE aI ts (.aW a b)=(.aW a b,aI,ts):=rfl
theorem CJ{aI ts:aG}{a b c:Nat}{d:Bool}:bE aI ts (.aP a b c d)=(.aP a b c d,aI,ts):=rfl
theorem J5{aI ts:aG}{a:Nat}{c:List AV}:bE aI ts (.fn a c)=(.fn a c,aI,ts):=rfl
theorem CL{s:Nat}{aI ts:aG}:bE aI ts (.jU s)=((.jU s),aI,ts):=rfl
theorem CM{s:List (PV×PV)}{aI ts:aG}:bE aI ts (.fJ s)=((.fJ s),aI,ts):=rfl
theorem Nv{env:List (Nat×AV)}{mem:List (Nat×List AV)}:norm ⟨env,mem,sh,aa⟩ =
   { env:=(da aa [] env).1,
     mem:=(eW (da aa [] env).2.1 (da aa [] env).2.2 mem).1,
     sh:=(a9 (eW (da aa [] env).2.1 (da aa [] env).2.2 mem).2.1 (eW (da aa [] env).2.1 (da aa [] env).2.2 mem).2.2 sh).1,
     aa:=(a9 (eW (da aa [] env).2.1 (da aa [] env).2.2 mem).2.1 (eW (da aa [] env).2.1 (da aa [] env).2.2 mem).2.2 sh).2.2 }:=rfl
theorem z6{live:List Nat}{env:List (Nat×AV)}{mem:List (Nat×List AV)}:restrict live ⟨env,mem,sh,aa⟩=⟨bC live env live,bF mem live,sh,aa⟩:=rfl
def Pj(live:List Nat)(t:Nat)(rest:List (Nat×AV)):Option AV→List (Nat×AV)
 |some v=>if dV live v=true then (t,v)::rest else rest
 |none=>rest
theorem CN{live:List Nat}{t:Nat}{rest:List (Nat×AV)}{v:AV}:Pj live t rest (some v)=if dV live v=true then (t,v)::rest else rest:=rfl
theorem rE{live:List Nat}{env:List (Nat×AV)}:bC live env []=[]:=rfl
theorem p6{live:List Nat}{env:List (Nat×AV)}{t:Nat}{r:List Nat}:bC live env (t::r)=Pj live t (bC live env r) (look env t):=by
 show (match look env t with|some v=>_|none=>_)=_;cases look env t<;>rfl
def J6(t:Nat)(rest:List (Nat×List AV)):Option (List AV)→List (Nat×List AV)
 |some v=>(t,v)::rest
 |none=>rest
theorem CO{t:Nat}{rest:List (Nat×List AV)}{v:List AV}:J6 t rest (some v)=(t,v)::rest:=rfl
theorem CP{t:Nat}{rest:List (Nat×List AV)}:J6 t rest none=rest:=rfl
theorem rG{mem:List (Nat×List AV)}:bF mem []=[]:=rfl
theorem p7{mem:List (Nat×List AV)}{t:Nat}{r:List Nat}:bF mem (t::r)=J6 t (bF mem r) (look mem t):=by
 show (match look mem t with|some v=>_|none=>_)=_;cases look mem t<;>rfl
theorem CQ{live:List Nat}{d o:Nat}:dV live (.az d o)=live.contains d:=rfl
theorem Hs{live:List Nat}{l:List PV}{τ:Nat}:dV live (.own l τ)=true:=rfl
theorem J7{live:List Nat}{p:PV}:dV live (.pv p)=true:=rfl
theorem Ht{live:List Nat}{l:List PV}:dV live (.dB l)=true:=rfl
theorem CR:fp []=true:=rfl
theorem z7{v:AV}{r:List AV}:fp (v::r)=(jy v && fp r):=rfl
theorem J8{p:PV}:jy (.pv p)=true:=rfl
theorem Hu{l:List PV}:jy (.dB l)=true:=rfl
theorem CS{live:List Nat}{a b:Nat}:dV live (.aW a b)=true:=rfl
theorem CT{live:List Nat}{a b c:Nat}{d:Bool}:dV live (.aP a b c d)=true:=rfl
theorem J9{live:List Nat}{a:Nat}{c:List AV}:dV live (.fn a c)=bD.d5 c:=rfl
theorem CU{s:Nat}{live:List Nat}:dV live (.jU s)=true:=rfl
theorem look_nil{α:Type}{t:Nat}:look ([]:List (Nat×α)) t=none:=rfl
theorem Hv{α:Type}{k t:Nat}{v:α}{r:List (Nat×α)}:look ((k,v)::r) t=if k=t then some v else look r t:=rfl
theorem J_{α:Type}{t:Nat}{v:α}:cW ([]:List (Nat×α)) t v=[(t,v)]:=rfl
theorem Hw{α:Type}{k t:Nat}{v u:α}{r:List (Nat×α)}:cW ((k,v)::r) t u=if k=t then (k,u)::r else (k,v)::cW r t u:=rfl
theorem Hx{env:List (Nat×AV)}{d:Nat}{v:AV}:fy env (some d) v=cW env d v:=rfl
theorem Hy{env:List (Nat×AV)}{v:AV}:fy env none v=env:=rfl
theorem Hz{mem:List (Nat×List AV)}{k:Nat}{cs:List AV}:eR mem (some k) (some cs)=cW mem k cs:=rfl
theorem ff{mem:List (Nat×List AV)}{o:Option (List AV)}:eR mem none o=mem:=rfl
theorem CV{mem:List (Nat×List AV)}{k:Nat}:eR mem (some k) none=mem:=rfl
theorem xv{i:Nat}:bY i []=[]:=rfl
theorem uS{i:Nat}{v:AV}{r:List AV}:bY i (v::r)=(i,v)::bY (i+1) r:=rfl
theorem CW{cs:List AV}:a_ (.agg cs)=cs:=rfl
theorem z8{cs:List PV}:a_ (.pv (.agg cs))=cs.map .pv:=rfl
theorem z9{b:Bool}:a_ (.pv (.bool b))=[.pv (.bool b)]:=rfl
theorem CX{k:IntKind}{n:Int}:a_ (.pv (.int k n))=[.pv (.int k n)]:=rfl
theorem CY{s:List UInt8}:a_ (.pv (.str s))=[.pv (.str s)]:=rfl
theorem CZ{l:List PV}:a_ (.pv (.au l))=[.pv (.au l)]:=rfl
theorem C0{l:List PV}:a_ (.dB l)=[.dB l]:=rfl
theorem C1{l:List PV}{τ:Nat}:a_ (.own l τ)=[.own l τ]:=rfl
theorem z_{a b c:Nat}{d:Bool}:a_ (.aP a b c d)=[.aP a b c d]:=rfl
theorem C2{cs:List PV}:aX (.agg cs)=cs:=rfl
theorem C3{k:IntKind}{n:Int}:aX (.int k n)=[.int k n]:=rfl
theorem C4{s:List UInt8}:aX (.str s)=[.str s]:=rfl
theorem C5{l:List PV}:aX (.au l)=[.au l]:=rfl
theorem C6{b:Bool}:aT (.pv (.bool b))=true:=rfl
theorem HA{k:IntKind}{n:Int}:aT (.pv (.int k n))=true:=rfl
theorem HB{s:List UInt8}:aT (.pv (.str s))=true:=rfl
theorem HC{l:List PV}:aT (.pv (.au l))=true:=rfl
theorem HD{l:List PV}:aT (.dB l)=true:=rfl
theorem HE{l:List PV}{τ:Nat}:aT (.own l τ)=true:=rfl
theorem C7{a b c:Nat}{d:Bool}:aT (.aP a b c d)=true:=rfl
theorem J'{v:AV}:cL v=aT v:=rfl
theorem C8{a b:Nat}:bL (.aW a b)=true:=rfl
theorem HF:bL.iI []=true:=rfl
theorem C9{v:AV}{r:List AV}:bL.iI (v::r)=(bL v && bL.iI r):=rfl
theorem HG{l:List PV}{τ:Nat}:bI (.own l τ)=true:=rfl
theorem Ka{p:PV}:bI (.pv p)=true:=rfl
theorem HH{l:List PV}:bI (.dB l)=true:=rfl
theorem C_{a b:Nat}:bI (.aW a b)=true:=rfl
theorem C'{a b c:Nat}{d:Bool}:bI (.aP a b c d)=true:=rfl
theorem Kb{a:Nat}{c:List AV}:bI (.fn a c)=bL.iI c:=rfl
theorem HI{c:List AV}:bI (.agg c)=eV c:=rfl
theorem Da:eV []=true:=rfl
theorem Aa{v:AV}{r:List AV}:eV (v::r)=(jW v && eV r):=rfl
theorem HJ{l:List PV}{τ:Nat}:jW (.own l τ)=true:=rfl
theorem Kc{p:PV}:jW (.pv p)=true:=rfl
theorem HK{l:List PV}:jW (.dB l)=true:=rfl
theorem Db{a b c:Nat}{d:Bool}:jW (.aP a b c d)=true:=rfl
theorem HL:bD.d5 []=true:=rfl
theorem Dc{v:AV}{r:List AV}:bD.d5 (v::r)=(bD v && bD.d5 r):=rfl
theorem Kd{p:PV}:bD (.pv p)=true:=rfl
theorem HM{l:List PV}:bD (.dB l)=true:=rfl
theorem HN{l:List PV}{τ:Nat}:bD (.own l τ)=false:=rfl
theorem Dd{a b:Nat}:bD (.aW a b)=true:=rfl
theorem De{a b c:Nat}{d:Bool}:bD (.aP a b c d)=true:=rfl
theorem HO{n:Nat}{p:PV}:aK n (.pv p)=true:=rfl
theorem Df{n:Nat}{l:List PV}:aK n (.dB l)=true:=rfl
theorem Dg{n:Nat}{l:List PV}{τ:Nat}:aK n (.own l τ)=true:=rfl
theorem Ac{n a b c:Nat}{d:Bool}:aK n (.aP a b c d)=decide (a<n):=rfl
theorem Dh{n:Nat}{c:List AV}:aK n (.agg c)=aK.cz n c:=rfl
theorem Ad{n:Nat}:aK.cz n []=true:=rfl
theorem xx{n:Nat}{v:AV}{r:List AV}:aK.cz n (v::r)=(aK n v && aK.cz n r):=rfl
theorem Di{n τ:Nat}{l:List PV}:cZ n (.own l τ)=.own l (τ+n):=rfl
theorem vF{n:Nat}{p:PV}:cZ n (.pv p)=.pv p:=rfl
def xy(n:Nat)(p:List AV):Bool→AV
 |true=>.agg p
 |false=>.agg (p.map (iZ n))
theorem Dj{n:Nat}{p:List AV}:cZ n (.agg p)=xy n p (bD.d5 p):=by
 simp only[cZ];cases bD.d5 p<;>rfl
theorem xz{n:Nat}{p:List AV}:xy n p true=.agg p:=rfl
theorem uT{n:Nat}{p:List AV}:xy n p false=.agg (p.map (iZ n)):=rfl
theorem Dk{n τ:Nat}{l:List PV}:iZ n (.own l τ)=.own l (τ+n):=rfl
theorem Ae{n a b c:Nat}{d:Bool}:iZ n (.aP a b c d)=.aP a b c d:=rfl
theorem Af{n a b c:Nat}{d:Bool}:cZ n (.aP a b c d)=.aP a b c d:=rfl
theorem Dl{n:Nat}:d6 n []=[]:=rfl
theorem qW{n:Nat}{r:Sh}:d6 n (none::r)=none::d6 n r:=rfl
theorem qY{n:Nat}{cs:List AV}{r:Sh}:d6 n (some cs::r)=some (cs.map (cZ n))::d6 n r:=rfl
theorem uU{b:Bool}:bA.zeroCell (.bool b)=.pv (.bool b):=rfl
theorem xA{k:IntKind}{n:Int}:bA.zeroCell (.int k n)=.pv (.int k n):=rfl
theorem xB{s:List UInt8}:bA.zeroCell (.str s)=.pv (.str s):=rfl
theorem xC:bA.zeroCell (.au [])=.dB []:=rfl
theorem Ag{l:List PV}{τ:Nat}:cr (.own l τ)=[.own l τ]:=rfl
theorem Dm{p:PV}:cr (.pv p)=a_ (.pv p):=rfl
theorem xD{a b c:Nat}{d:Bool}:cr (.aP a b c d)=[.aP a b c d]:=rfl
def EN(cs:List AV):Option (List PV)→List AV
 |some ps=>ps.map .pv
 |none=>cs
theorem Ah{cs:List AV}:cr (.agg cs)=EN cs (b_ [] cs):=by
 show (match dv [] (.agg cs) with|some p=>a_ (.pv p)|none=>a_ (.agg cs))=_;have h:dv [] (.agg cs)=(b_ [] cs).map .agg:=rfl;unfold EN;rw[h];cases b_ [] cs<;>rfl
theorem Dn{cs:List AV}{ps:List PV}:EN cs (some ps)=ps.map .pv:=rfl
theorem tF{cs:List AV}:EN cs none=cs:=rfl
theorem SD{o:MY}:AK.key (.v o)=none:=rfl
theorem HP{k o s:Nat}{a:Bool}:AK.key (.bX k o s a)=some k:=rfl
theorem Dp{k o s:Nat}:AK.key (.bB k o s)=some k:=rfl
theorem HQ{k:Nat}{z:List PV}:AK.key (.alloc k z)=some k:=rfl
theorem Nw{k s:Nat}:AK.key (.box k s)=some k:=rfl
theorem HR{s:Nat}{a:Bool}:AK.key (.dU s a)=none:=rfl
theorem Dq{s:Nat}:AK.key (.fo s)=none:=rfl
theorem Ke{s:Nat}:AK.key (.oq s)=none:=rfl
theorem Dr{s:List PV}:AK.key (.iX s)=none:=rfl
theorem HS{s b:Nat}{a:Bool}{z:List PV}:AK.key (.iY s b a z)=none:=rfl
theorem Ai{s b:Nat}{ag:Bool}:AK.key (.dC s b ag)=none:=rfl
theorem Du{s b:Nat}:AK.key (.append s b)=none:=rfl
theorem HT{g:Nat}:AK.key (.aJ g)=none:=rfl
theorem Dv{g:Nat}:AK.key (.en g)=none:=rfl
theorem HU{g:Nat}{o:List Nat}:AK.key (.bz g o)=none:=rfl
theorem HV{sz bytes:Nat}:(AK.clone sz bytes).key=none:=rfl
theorem HW:AK.key .fm=none:=rfl
theorem bind_none{f:Nat→Option (List AV)}:(none:Option Nat).bind f=none:=rfl
theorem bind_some{f:Nat→Option (List AV)}{n:Nat}:(some n).bind f=f n:=rfl
theorem Dw{sz off:Nat}{cs:List AV}:bQ true sz cs off=if off+sz≤cs.length then some (.agg ((cs.drop off).take sz)) else none:=rfl
theorem Aj{off:Nat}{cs:List AV}:bQ false 1 cs off=if off+1≤cs.length then cs[off]? else none:=rfl
theorem Ao{sz:Nat}{cs:List PV}:cM true sz cs=if sz≤cs.length then some (.pv (.agg (cs.take sz))) else none:=rfl
theorem xE{c:PV}{cs:List PV}:cM false 1 (c::cs)=some (.pv c):=by simp[cM]
theorem aF{cs vs:List AV}{off:Nat}:aQ cs off vs=cs.take off++vs++cs.drop (off+vs.length):=rfl
theorem QM{x:AV}:bA .mv [x]=some x:=rfl
theorem Kf{c:Bool}{a b:AV}:bA .pick [.pv (.bool c),a,b]=if c=true then some a else some b:=by cases c<;>rfl
theorem Nx{i:Nat}{vs:List AV}:bA (.ext i) [.qx vs]=vs[i]?:=rfl
theorem Dx{off d o:Nat}:bA (.gP off) [.az d o]=some (.az d (o+off)):=rfl
theorem Dy{off d o:Nat}:bA (.gP off) [.aW d o]=some (.aW d (o+off)):=rfl
theorem Dz{off:Nat}{cs:List PV}:bA (.gP off) [.fH cs]=some (.fH (cs.drop off)):=rfl
def xF(sz:Nat):Option PV→Option AV
 |some el=>if (aX el).length=sz then some (.fH (aX el)) else none
 |none=>none
theorem Ap{sz:Nat}{el:PV}:xF sz (some el)=if (aX el).length=sz then some (.fH (aX el)) else none:=rfl
theorem HX{sz:Nat}{l:List PV}{k:IntKind}{i:Int}:bA (.d3 sz) [.pv (.au l),.pv (.int k i)]=if i<0 then none else xF sz l[i.toNat]?:=by
 show (if i<0 then none else _)=_;split
 ·rfl
 ·show (match l[i.toNat]? with|some el=>_|none=>_)=_;cases l[i.toNat]?<;>rfl
theorem DA{sz:Nat}{l:List PV}{k:IntKind}{i:Int}:bA (.d3 sz) [.dB l,.pv (.int k i)]=if i<0 then none else xF sz l[i.toNat]?:=by
 show (if i<0 then none else _)=_;split
 ·rfl
 ·show (match l[i.toNat]? with|some el=>_|none=>_)=_;cases l[i.toNat]?<;>rfl
theorem DB{sz τ:Nat}{l:List PV}{k:IntKind}{i:Int}:bA (.d3 sz) [.own l τ,.pv (.int k i)]=if i<0 then none else xF sz l[i.toNat]?:=by
 show (if i<0 then none else _)=_;split
 ·rfl
 ·show (match l[i.toNat]? with|some el=>_|none=>_)=_;cases l[i.toNat]?<;>rfl
theorem DC{sz b sz' n:Nat}{ag:Bool}{k:IntKind}{i:Int}:bA (.d3 sz) [.aP b sz' n ag,.pv (.int k i)]=if i<0 then none else if sz=sz'∧i.toNat<n then some (.aW b (i.toNat*sz)) else none:=rfl
def Pk:Option UInt8→Option AV
 |some b=>some (.pv (.int .u8 b.toNat))
 |none=>none
theorem DD{b:UInt8}:Pk (some b)=some (.pv (.int .u8 b.toNat)):=rfl
theorem HY{s:List UInt8}{k:IntKind}{i:Int}:bA .index [.pv (.str s),.pv (.int k i)]=if i<0 then none else Pk s[i.toNat]?:=by
 show (if i<0 then none else _)=_;cases s[i.toNat]?<;>rfl
def SE:Option (List AV)→Option AV
 |some cs=>some (.agg cs)
 |none=>none
theorem HZ{cs:List AV}:SE (some cs)=some (.agg cs):=rfl
theorem H0{zero:List PV}{places:List (Nat×Nat)}:bA (.build zero places) vals=SE (lg (zero.map bA.zeroCell) places vals):=by
 show (lg _ _ _).map _=_;cases lg (zero.map bA.zeroCell) places vals<;>rfl
theorem H3{cs:List AV}:lg cs [] []=some cs:=rfl
theorem DE{cs:List AV}{off sz:Nat}{ps:List (Nat×Nat)}{v:AV}{vs:List AV}:lg cs ((off,sz)::ps) (v::vs) =
   if (a_ v).length=sz∧off+sz≤cs.length∧(a_ v).all aT=true then lg (aQ cs off (a_ v)) ps vs else none:=rfl
def SF(sz:Nat):Option (List PV)→Option AV
 |some els=>if els.all (fun e=>(aX e).length == sz) then some (.dB els) else none
 |none=>none
theorem H4{sz:Nat}{els:List PV}:SF sz (some els)=if els.all (fun e=>(aX e).length == sz) then some (.dB els) else none:=rfl
theorem DF{sz:Nat}:bA (.d4 sz) vals=SF sz (cY [] vals):=by
 show (cY [] vals).bind _=_;cases cY [] vals<;>rfl
theorem H5{sz:Nat}{ag:Bool}{cs:List PV}:bA (.fh sz ag) [.fH cs]=cM ag sz cs:=rfl
theorem Ny{l:List PV}:bA .len [.pv (.au l)]=some (.pv (.int .i64 l.length)):=rfl
theorem Kg{l:List PV}:bA .len [.dB l]=some (.pv (.int .i64 l.length)):=rfl
theorem Kh{l:List PV}{τ:Nat}:bA .len [.own l τ]=some (.pv (.int .i64 l.length)):=rfl
theorem Ki{a b n:Nat}{d:Bool}:bA .len [.aP a b n d]=some (.pv (.int .i64 n)):=rfl
theorem Kj{s:List UInt8}:bA .BI [.pv (.str s)]=some (.pv (.int .i64 s.length)):=rfl
theorem Kk{a b:Nat}:bA .pK [.aW a b]=some (.aW a b):=rfl
theorem QN{k k':IntKind}{x y:Int}:bA .mn [.pv (.int k x),.pv (.int k' y)]=if k=k' then some (.pv (.int k (if y<x then y else x))) else none:=rfl
theorem QO{k k':IntKind}{x y:Int}:bA .mx [.pv (.int k x),.pv (.int k' y)]=if k=k' then some (.pv (.int k (if y > x then y else x))) else none:=rfl
theorem Kl{g:Nat}:bA (.FH g) vals=some (.fn g vals):=by cases vals<;>rfl
theorem Km{k k':IntKind}{n:Int}:bA (.conv k) [.pv (.int k' n)]=some (.pv (.int k (k.wrap n))):=rfl
theorem Nz{b:Bool}:bA (.un .not) [.pv (.bool b)]=some (.pv (.bool !b)):=rfl
theorem NA{a b:Bool}:bA (.beq true) [.pv (.bool a),.pv (.bool b)]=some (.pv (.bool !(a == b))):=rfl
theorem NB{k:IntKind}{a b:Int}:bA (.bin .add) [.pv (.int k a),.pv (.int k b)]=some (.pv (.int k (k.wrap (a+b)))):=by simp[bA,cA]
theorem NC{k:IntKind}{a b:Int}:bA (.bin .sub) [.pv (.int k a),.pv (.int k b)]=some (.pv (.int k (k.wrap (a-b)))):=by simp[bA,cA]
theorem ND{k:IntKind}{a b:Int}:bA (.bin .rem) [.pv (.int k a),.pv (.int k b)]=if b=0 then none else some (.pv (.int k (a.tmod b))):=by simp[bA,cA]
theorem NF{k:IntKind}{a b:Int}:bA (.bin .eql) [.pv (.int k a),.pv (.int k b)]=some (.pv (.bool (a == b))):=by simp[bA,cA]
theorem NG{k:IntKind}{a b:Int}:bA (.bin .neq) [.pv (.int k a),.pv (.int k b)]=some (.pv (.bool (a != b))):=by simp[bA,cA]
theorem NH{k:IntKind}{a b:Int}:bA (.bin .lss) [.pv (.int k a),.pv (.int k b)]=some (.pv (.bool (decide (a<b)))):=by simp[bA,cA]
theorem NI{k:IntKind}{a b:Int}:bA (.bin .leq) [.pv (.int k a),.pv (.int k b)]=some (.pv (.bool (decide (a≤b)))):=by simp[bA,cA]
theorem NJ{k:IntKind}{a b:Int}:bA (.bin .gtr) [.pv (.int k a),.pv (.int k b)]=some (.pv (.bool (decide (a > b)))):=by simp[bA,cA]
theorem NK{k:IntKind}{a b:Int}:bA (.bin .geq) [.pv (.int k a),.pv (.int k b)]=some (.pv (.bool (decide (a≥b)))):=by simp[bA,cA]
theorem NL{k:IntKind}{a b:Int}:bA (.bin .and) [.pv (.int k a),.pv (.int k b)]=some (.pv (.int k (k.wrap (BitVec.ofInt k.bits a &&& BitVec.ofInt k.bits b).toNat))):=by simp[bA,cA]
theorem NM{k k':IntKind}{a b:Int}:bA (.bin .shr) [.pv (.int k a),.pv (.int k' b)]=if b<0 then none else some (.pv (.int k (a.fdiv (2 ^ (min b.toNat k.bits))))):=by simp[bA,cA]
theorem d0{a b:List UInt8}:bA (.bin .add) [.pv (.str a),.pv (.str b)]=if a.length+b.length≤9223372036854775807 then some (.pv (.str (a++b))) else none:=rfl
theorem Ko{a b:List UInt8}:bA (.bin .eql) [.pv (.str a),.pv (.str b)]=some (.pv (.bool (a == b))):=rfl
theorem Kq{a b:List UInt8}:bA (.bin .neq) [.pv (.str a),.pv (.str b)]=some (.pv (.bool (!(a == b)))):=rfl
theorem Kr{a b:List UInt8}:bA (.bin .lss) [.pv (.str a),.pv (.str b)]=some (.pv (.bool (cA.dZ a b))):=rfl
theorem Ks{a b:List UInt8}:bA (.bin .gtr) [.pv (.str a),.pv (.str b)]=some (.pv (.bool (!(cA.dZ a b || a == b)))):=rfl
theorem H6{sz:Nat}{lo hi mx:Bool}{x:AV}{rest:List AV}:bA (.slice false sz lo hi mx) (x::rest)=dE false sz lo hi mx (x::rest):=rfl
theorem DG{sz:Nat}{lo hi mx:Bool}{x:AV}{rest:List AV}:bA (.slice true sz lo hi mx) (x::rest)=dE true sz lo hi mx (x::rest):=rfl
def nP(aU ks:Bool)(sh0 sh:Sh)(aa:aG):Option (List AV)→Option (List AV×Sh×aG)
 |some vs=>if (cm aU ks sh vs).all bI=true then
     some ((cQ aa (cm aU ks sh vs) (if (cm aU ks sh vs).all (aK sh0.length)=true then (eM aU ks sh vs).take sh0.length else eM aU ks sh vs)).1,
       (cQ aa (cm aU ks sh vs) (if (cm aU ks sh vs).all (aK sh0.length)=true then (eM aU ks sh vs).take sh0.length else eM aU ks sh vs)).2.1,
       (cQ aa (cm aU ks sh vs) (if (cm aU ks sh vs).all (aK sh0.length)=true then (eM aU ks sh vs).take sh0.length else eM aU ks sh vs)).2.2.2) else none
 |none=>none
theorem Aq{aU ks:Bool}{sh0:Sh}{vs:List AV}:nP aU ks sh0 sh aa (some vs)=if (cm aU ks sh vs).all bI=true then
     some ((cQ aa (cm aU ks sh vs) (if (cm aU ks sh vs).all (aK sh0.length)=true then (eM aU ks sh vs).take sh0.length else eM aU ks sh vs)).1,
       (cQ aa (cm aU ks sh vs) (if (cm aU ks sh vs).all (aK sh0.length)=true then (eM aU ks sh vs).take sh0.length else eM aU ks sh vs)).2.1,
       (cQ aa (cm aU ks sh vs) (if (cm aU ks sh vs).all (aK sh0.length)=true then (eM aU ks sh vs).take sh0.length else eM aU ks sh vs)).2.2.2) else none:=rfl
def fin(aU ks:Bool)(rs:List pL)(sh0:Sh):Option (bg×St)→Option (List AV×Sh×aG)
 |some (.ret,st)=>nP aU ks sh0 st.sh st.aa (d7 st rs)
 |some (.normal,st)=>nP aU ks sh0 st.sh st.aa (d7 st rs)
 |_=>none
theorem NN{aU ks:Bool}{rs:List pL}{sh0:Sh}{st:St}:fin aU ks rs sh0 (some (.ret,st))=nP aU ks sh0 st.sh st.aa (d7 st rs):=rfl
theorem DH{aU ks:Bool}{rs:List pL}{sh0:Sh}{st:St}:fin aU ks rs sh0 (some (.normal,st))=nP aU ks sh0 st.sh st.aa (d7 st rs):=rfl
theorem NO{aU ks:Bool}{rs:List pL}{sh0:Sh}{c:Prop}[Decidable c]{x y:Option (bg×St)}:fin aU ks rs sh0 (if c then x else y)=if c then fin aU ks rs sh0 x else fin aU ks rs sh0 y:=by split<;>rfl
theorem vG{aU:Bool}{af:aA}{sh0:Sh}{r:Option (bg×St)}:finish aU af sh0 r=fin aU af.ks af.results sh0 r:=by
 cases r with
 |none=>rfl
 |some q=>
   obtain⟨e,st⟩:=q;cases e with
   |ret=>simp only[finish,fin];cases d7 st af.results<;>simp[nP]
   |normal=>simp only[finish,fin];cases d7 st af.results<;>simp[nP]
   |exit id=>simp[finish,fin]
theorem DI{st:St}:d7 st []=some []:=rfl
theorem Au{st:St}{r:pL}{rs:List pL}:d7 st (r::rs)=oU (qz st r) (d7 st rs):=by
 simp only[d7];cases qz st r<;>cases d7 st rs<;>rfl
theorem NP{st:St}{n:Nat}:qz st (.t n)=look st.env n:=rfl
def oV(key sz:Nat)(ag:Bool)(mem:List (Nat×List AV))(sh:Sh):Option AV→Option AV
 |some (.az d 0)=>xG key d sz ag (look mem key)
 |some (.aW s 0)=>xm ag sz 0 sh[s]?
 |_=>none
where xG (key d sz:Nat) (ag:Bool):Option (List AV)→Option AV
 |some cs=>if d=key then bQ ag sz cs 0 else none
 |none=>none
theorem NQ{st:St}{key sz:Nat}{ag:Bool}:qz st (.c key sz ag)=oV key sz ag st.mem st.sh (look st.env key):=by
 simp only[qz];unfold oV;split
 ·rename_i h;rw[h];rfl
 ·rename_i h;rw[h];rfl
 · rename_i h1 h2;split
   ·rename_i d e;exact absurd e (h1 d)
   ·rename_i s e;exact absurd e (h2 s)
   ·rfl
theorem xH{key sz d:Nat}{ag:Bool}{mem:List (Nat×List AV)}:oV key sz ag mem sh (some (.az d 0))=oV.xG key d sz ag (look mem key):=rfl
theorem xI{key sz d:Nat}{ag:Bool}{cs:List AV}:oV.xG key d sz ag (some cs)=if d=key then bQ ag sz cs 0 else none:=rfl
theorem xJ{vs:List AV}{ks:Bool}:cm false ks sh vs=vs.map (sA sh):=rfl
theorem Av{vs:List AV}:cm true false sh vs=vs.map (BL sh):=rfl
theorem H7{vs:List AV}:cm true true sh vs=vs:=rfl
theorem Aw{vs:List AV}{ks:Bool}:eM false ks sh vs=cy sh vs:=rfl
theorem DJ{vs:List AV}:eM true false sh vs=cy sh vs:=rfl
theorem Kt{vs:List AV}:eM true true sh vs=sh:=rfl
def SG(v:AV):Option PV→AV
 |some p=>.pv p
 |none=>v
theorem H8{v:AV}{p:PV}:SG v (some p)=.pv p:=rfl
theorem Ku{v:AV}:sA sh v=SG v (dv sh v):=rfl
theorem Kv{l:List PV}{τ:Nat}:BL sh (.own l τ)=.own l τ:=rfl
theorem Kx{cs:List AV}:BL sh (.agg cs)=.agg (cs.map (uI sh)):=rfl
theorem NR{p:PV}:BL sh (.pv p)=.pv p:=rfl
theorem Ky{l:List PV}:uI sh (.dB l)=.dB l:=rfl
theorem Kz{l:List PV}{τ:Nat}:uI sh (.own l τ)=.pv (.au l):=rfl
theorem KA{k:IntKind}{n:Int}:uI sh (.pv (.int k n))=.pv (.int k n):=rfl
theorem KB{s:List UInt8}:uI sh (.pv (.str s))=.pv (.str s):=rfl
theorem KD{l:List PV}:uI sh (.pv (.au l))=.pv (.au l):=rfl
theorem DK{vs:List AV}:cy sh vs=kill sh (vs.flatMap ei):=rfl
theorem KE:kill sh []=sh:=rfl
theorem H9{b:Nat}{l:List Nat}:kill sh (b::l)=kill (sh.set b none) l:=rfl
theorem H_{a b c:Nat}{d:Bool}:ei (.aP a b c d)=[a]:=rfl
theorem rU{p:PV}:ei (.pv p)=[]:=rfl
theorem KF{l:List PV}{τ:Nat}:ei (.own l τ)=[]:=rfl
theorem KH{l:List PV}:ei (.dB l)=[]:=rfl
def vH:AV→List Nat
 | .aP b _ _ _=>[b]
 |_=>[]
theorem tG{cs:List AV}:ei (.agg cs)=cs.flatMap vH:=by
 show cs.flatMap _=cs.flatMap vH;congr 1
theorem DL{a b c:Nat}{d:Bool}:vH (.aP a b c d)=[a]:=rfl
theorem KI{p:PV}:vH (.pv p)=[]:=rfl
theorem H'{l:List PV}{τ:Nat}:vH (.own l τ)=[]:=rfl
theorem Ia{l:List PV}:vH (.dB l)=[]:=rfl
theorem DM:fC []=some []:=rfl
theorem Ax{p:PV}{r:List AV}:fC (.pv p::r)=oU (some p) (fC r):=by
 simp only[fC];cases fC r<;>rfl
def mL:Option (List AV×Sh×aG)→Option (List PV)
 |some (rs,_,_)=>fC rs
 |none=>none
theorem xK{rs:List AV}{t:aG}:mL (some (rs,sh,t))=fC rs:=rfl
theorem Ay{c:Prop}[Decidable c]{x y:Option (List AV×Sh×aG)}:mL (if c then x else y)=if c then mL x else mL y:=by split<;>rfl
theorem ae{g:Nat}{af:aA}{x:List PV}(hg:AP g=some af)(h1:x.length=af.nparams)(h2:af.nparams≤af.ntmps)(hp:af.pM=none:=by rfl) :
   (aC AP).p g x=mL (fin false af.ks af.results [] (cl AP af.body ⟨bY 0 (x.map .pv),[],[],[]⟩)):=by
 rw[Pg hg hp h1 (by omega)];unfold nk mL;rw[vG];cases fin false af.ks af.results [] (cl AP af.body ⟨bY 0 (x.map .pv),[],[],[]⟩)<;>rfl
theorem aD{g:Nat}{af:aA}{x:List AV}{ts:aG}(hg:AP g=some af)(h2:x.length≤af.ntmps) :
   (aC AP).i g x sh ts=fin true af.ks af.results sh (cl AP af.body ⟨bY 0 x,[],sh,ts⟩):=by
 rw[Ph hg h2,←vG];rfl
end
attribute [simp] GA GB GC JG GD GF JH GG GH GI GJ GK zH GL zI Cd Qu Qv jh Gr Cc Nh Gs JD Gt JE Gv Gu Gw Gx Ni Gy JF Gz Qw Gc zx Gd zy B7 xg Ge B8 Gf xh Gg B9 Gi Gj B_ xj zz B' Jz Nf Su Ng JA JB Gn Gp zD Ca Cb Gq QA gY ir jg lO zF qV zG oT iu mD jD kF GP JI jE uR GQ GR JR G_ Ha Cp zN Hb nN Cq zQ Hc JT JU Cr ep Cs zT JV He Hf Ct JW Cu Hg zU Cx Cy zV Nn Np JX pZ Cz zW Hh CA Nq QL Nr Ns Hi Nt CB zX zY xt JY Hj JZ J0 J1 J3 J4 Hk tz Hl tD tE Hm CC Hn CD Ho Hp zZ Hq CH CI CJ J5 Nv z6 CN rE p6 CO CP rG p7 CQ Hs J7 Ht CS CT J9 look_nil Hv J_ Hw Hx Hy Hz ff CV xv uS CW z8 z9 CX CY CZ C0 C1 z_ C2 C3 C4 C5 C6 HA HB HC HD HE C7 J' C8 HF C9 HG Ka HH C_ C' Kb HI HL Dc Kd HM HN Dd De HO Df Dg Ac Dh Ad xx Di vF Dj Af Dl qW qY uU xA xB xC Ag Dm xD Ah Dn tF SD HP Dp HQ Nw HR Dq Ke Dr HS Du HT Dv HU HW zR QK b2sO_some bind_none bind_some Dw Aj Ao xE aF QM Kf Nx Dx Dy Dz Ap HX DA DB DC DD HY HZ H0 H3 DE H4 DF H5 Ny Kg Kh Ki Kj Kk QN QO Kl Km Nz NA NB NC ND NF NG NH NI NJ NK NL NM d0 Ko Kq Kr Ks H6 DG Aq NN DH NO DI Au NP NQ xH xI xJ Av H8 Ku Kv Kx NR Ky Kz KA KB KD DK KE H9 H_ rU KF KH tG DL KI H' Ia DM Ax xK Ay CL CM CU Nj nC GM GN HV z4 xu CF z5 Hr CG CR z7 J8 Hu Da Aa HJ Kc HK Db xz uT Dk Ae H7 Aw DJ Kt GS Ce kH zJ JK JL GU Nk JO GW GX GY GZ GV Cg Ci Qt Ai G5 zL xq xr Cn zM Cj kG Ck Cl G8 G9 Cm Co Qz Nb Nc Qx Jx List.getElem?_cons_zero
theorem ah{n:Int}(h1:-9223372036854775808≤n)(h2:n≤9223372036854775807):IntKind.i64.wrap n=n:=by
 simp[IntKind.wrap,IntKind.bits,IntKind.signed];omega
end Go.Ab.Ev
namespace Go.Ab
open Ev
structure U_(P:Program)(ns:Names)(f sz:Nat)(ag:Bool) where
 fn:Func
 A:jS
 o0:Array Oper
 o1:Array Oper
 o2:Array Oper
 m0:Oper
 VD:List Oper
 y:Oper
 nt:Oper
 r0:Nat
 r1:Nat
 r2:Nat
 r3:Nat
 b0:Nat
 b1:Nat
 types:Array TypeId
 tb:TypeId
 hf:P.funcs[f]?=some fn
 tH:fn.body=some (.seq (.region r0 o0 false) (.block b0 (.loop (.seq (.seq (.region r1 o1 false) (.cond (.tmp 8) .skip (.exit b0)))
   (.seq (.block b1 (.seq (.region r3 (m0::VD++[y,nt]).toArray false) (.cond (.tmp 18) .ret .skip))) (.region r2 o2 false))))))
 gW:fn.results=#[]
 hN:fn.ntmps=19
 c0:cd (cI P ns A 19 o0) o0.toList=some [⟨some 4,none,[.t 1],.v (.fh 1 false)⟩,⟨some 5,none,[.t 4],.v .len⟩,⟨some 6,none,[.t 5,.c (.pv (.int .i64 1))],.v (.bin .sub)⟩,⟨some 3,none,[.t 6],.v .mv⟩]
 c1:cd (cI P ns A 19 o1) o1.toList=some [⟨some 7,none,[.t 3],.v .mv⟩,⟨some 8,none,[.t 7,.c (.pv (.int .i64 0))],.v (.bin .geq)⟩]
 c2:cd (cI P ns A 19 o2) o2.toList=some [⟨some 9,none,[.t 3],.v .mv⟩,⟨some 10,none,[.t 9,.c (.pv (.int .i64 1))],.v (.bin .sub)⟩,⟨some 3,none,[.t 10],.v .mv⟩]
 h0:m0.op=.move (.tmp 0)∧m0.dst=some 11∧m0.guard=none
 c3:cd (cI P ns A 19 (m0::VD++[y,nt]).toArray) VD=some [⟨some 12,none,[.t 3],.v .mv⟩,⟨some 13,none,[.t 1],.v (.fh 1 false)⟩,⟨some 14,none,[.t 3],.v .mv⟩,⟨some 15,none,[.t 13,.t 14],.v (.d3 sz)⟩,⟨some 16,none,[.t 15],.v (.fh sz ag)⟩]
 hy:y.op=.call { callee:=.value (.tmp 11),args:=#[.tmp 12,.tmp 16],argTypes:=types }∧y.dst=some 17∧y.guard=none
 hn:nt.op=.unOp .not tb (.tmp 17)∧nt.dst=some 18∧nt.guard=none
section
variable {P:Program} {ns:Names}
theorem g_{n0:Nat}{ro:Option Nat}{n:Nat}(hB:eK P ns){orc:dX}(horc:gi P ns orc){A:jS}{N:Nat}{ops:Array Oper}{Q:Exit→Act→World→Prop}{rest:List Oper}:∀{l:List Oper} {as:List dI} {st st':St} {G:Gh} {a:Act} {w:World},
   cd (cI P ns A N ops) l=some as→gK (num ns) n0 N G st a w→bo orc as st=some st' →
   (∀G' a' w',gK (num ns) n0 N G' st' a' w'→bJ G w G' w'→a'.defers=a.defers→(∀t,(∀ao∈as,ao.dst≠some t)→a'.tmps[t]?=a.tmps[t]?)→wpListIn (uH ro) n P ops Q rest a' w')→wpListIn (uH ro) n P ops Q (l++rest) a w
 |[],as,st,st',G,a,w,hc,hs,hev,hq=>by
   simp[cd]at hc;subst hc;simp[bo]at hev;subst hev;exact hq G a w hs (bJ.refl G w) rfl (fun _ _=>rfl)
 |o::l,as,st,st',G,a,w,hc,hs,hev,hq=>by
   simp only[cd]at hc;split at hc
   · rename_i ao aos h1 h2;simp at hc;subst hc;simp only[bo]at hev;split at hev
     ·simp at hev
     · rename_i st1 hst1;rw[List.cons_append];unfold wpListIn;have hd:ao.dst=o.dst:=by obtain⟨_,_,_,h,_⟩:=kN h1;exact h
       have hput:∀(a:Act) (v:Value) t,ao.dst≠some t→(a.put o.dst v).tmps[t]?=a.tmps[t]?:=by
         intro a v t ht;rw[hd]at ht;cases ho:o.dst with
         |none=>rfl
         |some d=>
           rw[ho]at ht;simp only[Act.put];rw[Array.getElem?_setIfInBounds_ne];intro e;exact ht (by rw[e])
       exact xd hB horc h1 hs hst1 (fun G' v w' hs' he=>g_ hB horc h2 hs' hev (fun G'' a'' w'' hs'' he' hdf hk=>hq G'' a'' w'' hs'' (he.trans he') (hdf.trans (put_defers _ _ _)) (fun t ht=>by
         rw[hk t (fun ao' h=>ht ao' (by simp[h]))];exact hput a v t (ht ao (by simp)))))
   ·simp at hc
theorem vJ{F:Fence}{n:Nat}{ops:Array Oper}{Q:Exit→Act→World→Prop}{rest:List Oper}{o:Oper}{x:Operand}{a:Act}{w:World}(hF:∀f,F.fn f)(ho:o.op=.move x)(hg:o.guard=none)
   (h:wpListIn F n P ops Q rest (a.put o.dst (a.eval x)) w):wpListIn F n P ops Q (o::rest) a w:=by
 unfold wpListIn;have hw:Region.wanted o (yielded ops a.tmps)=true:=by simp[Region.wanted,hg]
 rw[if_pos hw];refine⟨fun _ _=>hF _,?_⟩;rw[Oper.semAt_eq _ _ _ (by intro c e;rw[ho]at e;cases e)]
 have hr:(execOp a.eval o).run P w=.ok (.value (a.eval x)) w:=by
   obtain⟨dst,op,type,pos,after,guard⟩:=o;simp only at ho;subst ho;simp[execOp]
 rw[hr];exact h
def p8:bg→Exit
 | .normal=>.normal
 | .ret=>.ret
 | .exit id=>.exit id
end
end Go.Ab
namespace Go.Ab
open Ev
structure iw(P:Program)(ns:Names)(f sz bytes:Nat) where
 fn:Func
 A:jS
 t:TypeId
 el:TypeId
 ty:TypeId
 o0:Oper
 m:Oper
 e:Oper
 o2:Oper
 b:Oper
 m3:Oper
 ap:Oper
 A2:jS
 ag:Bool
 fi:Oper
 r0:Nat
 r1:Nat
 r2:Nat
 r3:Nat
 hf:P.funcs[f]?=some fn
 tH:fn.body=some (.seq (.region r0 #[o0] false) (.seq (.seq (.region r1 #[m,e] false) (.cond (.tmp 4) (.seq (.region r2 #[o2] false) .ret) .skip)) (.seq (.region r3 #[b,m3,ap,fi] false) .ret))):=by kernel_rfl
 gW:fn.results=#[.tmp 2]:=by kernel_rfl
 hN:fn.ntmps=8:=by kernel_rfl
 h0:o0.op=.assign (.const (.slice none 0 0))∧o0.dst=some 2∧o0.guard=none:=by refine⟨?_,?_,?_⟩<;>kernel_rfl
 h1:m.op=.move (.tmp 0)∧m.dst=some 3∧m.guard=none:=by refine⟨?_,?_,?_⟩<;>kernel_rfl
 h2:e.op=.binOp .eql t (.tmp 3) (.const (.slice none 0 0)) ty∧e.dst=some 4∧e.guard=none:=by refine⟨?_,?_,?_⟩<;>kernel_rfl
 hu:P.underlying t=some (.slice el):=by kernel_rfl
 h3:o2.op=.assign (.const (.slice none 0 0))∧o2.dst=some 2∧o2.guard=none:=by refine⟨?_,?_,?_⟩<;>kernel_rfl
 h4:bG P ns A b.dst b.op=some (.v (.d4 sz),[])∧b.dst=some 5∧b.guard=none:=by refine⟨?_,?_,?_⟩<;>kernel_rfl
 h5:m3.op=.move (.tmp 0)∧m3.dst=some 6∧m3.guard=none:=by refine⟨?_,?_,?_⟩<;>kernel_rfl
 h6:bG P ns A ap.dst ap.op=some (.append sz bytes,[.tmp 5,.tmp 6])∧ap.dst=some 7∧ap.guard=none:=by refine⟨?_,?_,?_⟩<;>kernel_rfl
 h8:bG P ns A2 ap.dst ap.op=some (.dC sz bytes ag,[.tmp 5,.tmp 6]):=by kernel_rfl
 h7:fi.op=.assign (.tmp 7)∧fi.dst=some 2∧fi.guard=none:=by refine⟨?_,?_,?_⟩<;>kernel_rfl
section
variable {P:Program} {ns:Names}
theorem gj{F:Fence}{n:Nat}{ops:Array Oper}{Q:Exit→Act→World→Prop}{rest:List Oper}{o:Oper}{x:Operand}{a:Act}{w:World}(hF:∀f,F.fn f)(ho:o.op=.assign x)(hg:o.guard=none)
   (h:wpListIn F n P ops Q rest (a.put o.dst (a.eval x)) w):wpListIn F n P ops Q (o::rest) a w:=by
 unfold wpListIn;have hw:Region.wanted o (yielded ops a.tmps)=true:=by simp[Region.wanted,hg]
 rw[if_pos hw];refine⟨fun _ _=>hF _,?_⟩;rw[Oper.semAt_eq _ _ _ (by intro c e;rw[ho]at e;cases e)]
 have hr:(execOp a.eval o).run P w=.ok (.value (a.eval x)) w:=by
   obtain⟨dst,op,type,pos,after,guard⟩:=o;simp only at ho;subst ho;simp[execOp]
 rw[hr];exact h
theorem nQ{G:Gh}{A:jS}{n:Nat}{ops:Array Oper}{Q:Exit→Act→World→Prop}{rest:List Oper}{o:Oper}{k:AK}{args:List Operand}{a:Act}{w:World}(hg:o.guard=none){orc:dX}(hc:bG P ns A o.dst o.op=some (k,args))(hk:k.calls=false)
   {vals:List AV} {out:Out} {mem:List (Nat×List AV)} {sh:Sh} {aa:aG} (hkey:k.key=none) (hr:aw (num ns) G vals (args.map a.eval)) (hi:Inv (num ns) G w mem sh aa) (h:exec orc k vals none sh aa=some out)
   (hn:∀v w' G',aB (num ns) G' out.val v→Inv (num ns) G' w' mem out.sh out.aa→G.le G'→bJ G w G' w'→wpListIn Fence.wide n P ops Q rest (a.put o.dst v) w'):wpListIn Fence.wide n P ops Q (o::rest) a w:=by
 unfold wpListIn;have hw:Region.wanted o (yielded ops a.tmps)=true:=by simp[Region.wanted,hg]
 rw[if_pos hw];have hdef:∀c,o.op≠.defer c:=by intro c e;rw[e]at hc;simp[bG]at hc
 refine rQ (ro:=none) hdef ?_;obtain⟨nx,v,w',G',g1,g2,g3,g4,g5,g6⟩:=qM (orc:=orc) (mem:=mem) hc hk hr hi (by rw[hkey];exact h);have g4':Inv (num ns) G' w' mem out.sh out.aa:=by rw[hkey]at g4;exact g4
 unfold Oper.wp;rw[g1];rcases g2 with rfl|⟨rfl,rfl⟩
 ·exact hn v w' G' g3 g4' g5 g6
 ·exact hn undef w' G' g3 g4' g5 g6
theorem DN{F:Fence}{n:Nat}{ops:Array Oper}{Q:Exit→Act→World→Prop}{rest:List Oper}{o:Oper}{t el ty:TypeId}{a:Act}{w:World}{base:Option Addr}{len cap:Nat}(hF:∀f,F.fn f)
   (ho:o.op=.binOp .eql t (.tmp 3) (.const (.slice none 0 0)) ty) (hg:o.guard=none) (hu:P.underlying t=some (.slice el)) (h3:a.tmps[3]?=some (.slice base len cap))
   (h:wpListIn F n P ops Q rest (a.put o.dst (.bool base.isNone)) w):wpListIn F n P ops Q (o::rest) a w:=by
 unfold wpListIn;have hw:Region.wanted o (yielded ops a.tmps)=true:=by simp[Region.wanted,hg]
 rw[if_pos hw];refine⟨fun _ _=>hF _,?_⟩;rw[Oper.semAt_eq _ _ _ (by intro c e;rw[ho]at e;cases e)];have e3:a.eval (.tmp 3)=.slice base len cap:=by simp[Act.eval,h3]
 have ec:a.eval (.const (.slice none 0 0))=.slice none 0 0:=rfl
 have he:(Op.equal t (.slice base len cap) (.slice none 0 0)).run P w=.ok base.isNone w:=by
   have h:∀d:Nat,(Op.equalIn (d+1) t (.slice base len cap) (.slice none 0 0)).run P w=.ok base.isNone w:=fun d=>by
     cases base<;>simp[Op.equalIn,run_underlying hu]
   exact h 9999
 have hr:(execOp a.eval o).run P w=.ok (.value (.bool base.isNone)) w:=by
   obtain⟨dst,op,type,pos,after,guard⟩:=o;simp only at ho;subst ho;simp only[execOp,e3,ec];simp[eqGuard,binOp,he]
 rw[hr];exact h
theorem Az{f sz bytes:Nat}(D:iw P ns f sz bytes):Jp P ns f sz bytes:=by
 intro oc G w mem sh sh' aa toks' x y v hi hx hap;refine callsIn_wide (n:=0).1 ?_;refine callsIn_of_wp D.hf D.tH trivial ?_ rfl;rw[D.hN];have hF:∀f,Fence.wide.fn f:=fun _=>trivial
 let orc:dX:={ p:=fun _ _=>none,i:=fun _ _ _ _=>none }
 have fin:∀(a:Act) (w':World) (u:Value) (G':Gh),a.defers=[]→a.tmps[2]?=some u→aB (num ns) G' y u→Inv (num ns) G' w' mem sh' toks'→G.le G'→bJ G w G' w' →
     a.defers=[]∧∃v,(results D.fn a.tmps).run P w'=.ok v w'∧∃u G',Ending.returned v=.returned u∧aB (num ns) G' y u∧Inv (num ns) G' w' mem sh' toks'∧G.le G'∧bJ G w G' w':=by
   intro a w' u G' hd h2 r1 r2 r3 r4;refine⟨hd,u,?_,u,G',rfl,r1,r2,r3,r4⟩;simp[results,D.gW,h2]
 obtain⟨els,hels⟩:∃els,cH x=some els:=by
   cases hq:cH x with
   |none=>cases oc<;>simp[fu,bR,hq]at hap
   |some els=>exact⟨els,rfl⟩
 obtain⟨base,cap,rfl⟩:=jB hels hx;refine wpIn_seq (wpIn_region_list ?_);refine gj hF D.h0.1 D.h0.2.2 ?_;rw[D.h0.2.1];simp only[wpListIn];refine wpIn_seq (wpIn_seq (wpIn_region_list ?_));refine vJ hF D.h1.1 D.h1.2.2 ?_;rw[D.h1.2.1];refine DN (base:=base) (len:=els.length) (cap:=cap) hF D.h2.1 D.h2.2.2 D.hu (by simp[Act.put,Act.eval]) ?_;rw[D.h2.2.1];simp only[wpListIn];cases base with
 |none=>
   refine wpIn_cond_true (by simp[Act.put,Act.eval]) ?_;refine wpIn_seq (wpIn_region_list ?_);refine gj hF D.h3.1 D.h3.2.2 ?_;rw[D.h3.2.1];simp only[wpListIn];refine wpIn_ret ?_
   have hn:els=[]:=by
     have:=d9 hels hx;obtain⟨b,l,c,e,_,e2⟩:=ca.1 this;cases e;rcases e2.2 with h|⟨_,_,_,h,_⟩
     ·exact h
     ·cases h
   subst hn
   obtain⟨rfl,rfl,rfl⟩:AV.dB []=y∧sh=sh'∧aa=toks':=by
     cases oc with
     |none=>simpa[fu,bR,hels,bf] using hap
     |some ag=>simpa[fu,rn,hels,bf] using hap
   exact fin _ _ (.slice none 0 0) G (by simp[Act.put]) (by simp[Act.put,Act.eval]) (by simp only[aB];exact⟨none,0,rfl,rfl,.inl rfl⟩) hi G.le_refl (bJ.refl G w)
 |some ad=>
   refine wpIn_cond_false (by simp[Act.put,Act.eval]) (wpIn_skip ?_);refine wpIn_seq (wpIn_region_list ?_);refine nQ (orc:=orc) (out:=⟨.dB [],none,sh,aa⟩) D.h4.2.2 D.h4.1 rfl rfl (vals:=[]) (by simp[aw]) hi (by rfl) fun v1 w1 G1 q1 q2 q3 q4=>?_;rw[D.h4.2.1];refine vJ hF D.h5.1 D.h5.2.2 ?_;rw[D.h5.2.1];cases oc with
   |none=>
     simp only[fu,Option.map_eq_some_iff,Prod.mk.injEq]at hap;obtain⟨⟨y',ts'⟩,hap,rfl,rfl,rfl⟩:=hap;refine nQ (orc:=orc) (out:=⟨y',none,sh,ts'⟩) D.h6.2.2 D.h6.1 rfl rfl (vals:=[.dB [],x]) (mem:=mem) (sh:=sh) (aa:=aa) ?_ q2 (by simp only[exec,hap,Option.map_some]) fun v2 w2 G2 p1 p2 p3 p4=>?_
     · simp only[List.map_cons,List.map_nil,aw];refine⟨_,_,rfl,?_,_,_,rfl,?_,rfl⟩
       ·simpa[Act.put,Act.eval] using q1
       ·simpa[Act.put,Act.eval] using hx.mono q3
     rw[D.h6.2.1];refine gj hF D.h7.1 D.h7.2.2 ?_;rw[D.h7.2.1];simp only[wpListIn];refine wpIn_ret ?_;exact fin _ _ v2 G2 (by simp[Act.put]) (by simp[Act.put,Act.eval]) p1 p2 (Gh.le_trans q3 p3) (q4.trans p4)
   |some ag=>
     simp only[fu,hels]at hap;rw[Option.ite_none_right_eq_some]at hap;obtain⟨hhd,hap⟩:=hap;simp only[Option.map_eq_some_iff,Prod.mk.injEq]at hap;obtain⟨⟨y',sh1⟩,hap,rfl,rfl,rfl⟩:=hap
     obtain⟨y2,hap2,hsame⟩:∃y2,rn sz bytes D.ag (.dB []) els sh=some (y2,sh1)∧∀G' u,aB (num ns) G' y2 u→aB (num ns) G' y' u:=by
       unfold rn at hap⊢;split at hap
       ·rename_i h0;rw[if_pos h0];cases hap;exact⟨_,rfl,fun _ _ h=>h⟩
       ·rename_i h0;rw[if_neg h0];simp only[Option.ite_none_right_eq_some,Option.some.injEq,Prod.mk.injEq]at hap;obtain⟨h1,rfl,rfl⟩:=hap;rw[if_pos h1];exact⟨_,rfl,fun _ _ h=>by simpa only[aB] using h⟩
     refine nQ (orc:=orc) (out:=⟨y2,none,sh1,aa⟩) D.h6.2.2 D.h8 rfl rfl (vals:=[.dB [],x]) (mem:=mem) (sh:=sh) (aa:=aa) ?_ q2 (by simp only[exec,hels,hhd,if_true,rq,hap2,Option.map_some]) fun v2 w2 G2 p1 p2 p3 p4=>?_
     · simp only[List.map_cons,List.map_nil,aw];refine⟨_,_,rfl,?_,_,_,rfl,?_,rfl⟩
       ·simpa[Act.put,Act.eval] using q1
       ·simpa[Act.put,Act.eval] using hx.mono q3
     rw[D.h6.2.1];refine gj hF D.h7.1 D.h7.2.2 ?_;rw[D.h7.2.1];simp only[wpListIn];refine wpIn_ret ?_;exact fin _ _ v2 G2 (by simp[Act.put]) (by simp[Act.put,Act.eval]) (hsame _ _ p1) p2 (Gh.le_trans q3 p3) (q4.trans p4)
end
end Go.Ab
namespace Go.Ab
section
variable {n0:Nat} {P:Program} {ns:Names} {ro:Option Nat}
theorem qZ{c:Code}{Q:Exit→Act→World→Prop}{f:St→Option (bg×St)}{pre:St→St}{N:Nat}
   (hpre:∀{st:St} {G:Gh} {a:Act} {w:World},gK (num ns) n0 N G st a w→∃G',gK (num ns) n0 N G' (pre st) a w∧bJ G w G' w)
   (hf:∀{st st':St} {e:bg} {G:Gh} {a:Act} {w:World} {Q:Exit→Act→World→Prop},f st=some (e,st')→gK (num ns) n0 N G st a w →
     (∀G' a' w',gK (num ns) n0 N G' st' a' w'→bJ G w G' w'→Q (p8 e) a' w')→c.wpIn (uH ro) 0 P Q a w) :
   ∀(n:Nat) {st st':St} {e:bg} {G:Gh} {a:Act} {w:World},eX f pre n st=some (e,st')→gK (num ns) n0 N G st a w →
     (∀G' a' w',gK (num ns) n0 N G' st' a' w'→bJ G w G' w'→Q (p8 e) a' w')→Code.roundsIn (uH ro) 0 P c Q n a w
 |0,st,st',e,G,a,w,h,_,_=>by simp[eX]at h
 |n+1,st,st',e,G,a,w,h,hs,hq=>by
   rw[roundsIn_succ];obtain⟨G0,hs0,he0⟩:=hpre hs;simp only[eX]at h;split at h
   ·rename_i st1 h1;refine hf h1 hs0 fun G' a' w' hs' he'=>?_;exact qZ hpre hf n h hs' fun G'' a'' w'' hs'' he''=>hq G'' a'' w'' hs'' ((he0.trans he').trans he'')
   · rename_i r hr
     have hne:e≠.normal:=by
       rintro rfl
       exact hr st' h
     refine hf h hs0 fun G' a' w' hs' he'=>?_;have:=hq G' a' w' hs' (he0.trans he')
     cases e with
     |normal=>exact absurd rfl hne
     |ret=>exact this
     |exit id=>exact this
theorem DO{N:Nat}{v:AV}{st:St}{G:Gh}{a:Act}{w:World}(h:gK (num ns) n0 N G st a w):∃G',gK (num ns) n0 N G' (BJ v st) a w∧bJ G w G' w:=by
 unfold BJ;split
 · rename_i st' d;split
   · rename_i cs hcs;split
     · rename_i ps hps;obtain⟨G1,k1,k2,k3,k4,k5⟩:=Inv.kill ([.agg cs].flatMap ei) h.inv;obtain⟨b,e1,⟨e2,c,t,e3,e4⟩,e5⟩:=h.inv.cR d cs hcs;obtain⟨b',f1,⟨f2,c',t',f3,f4⟩,f5⟩:=k1.cR d cs hcs;have hb:b=b':=by have:=k2.pm d b e1;rw[f1]at this;simpa using this.symm
       subst hb;have hcc:c=c':=by rw[e3]at f3;cases f3;rfl
       subst hcc;have hrl:dF G1.K ps c.toList:=kI k2 k4 h.inv.sO (fun s hs=>by simpa using hs) hps e4
       have hlf:(ps.map AV.pv).all aT=true:=by
         rw[List.all_eq_true];intro x hx;rw[List.mem_map]at hx;obtain⟨p,hp,rfl⟩:=hx;have:=jZ hrl p hp;cases p<;>first|rfl|simp[c_]at this
       refine⟨G1,⟨⟨h.env.size,fun t' x hx=>?_⟩,?_,h.marks.qA k3 rfl⟩,k3⟩
       ·obtain⟨u',g1,g2⟩:=h.env.env t' x hx;exact⟨u',g1,g2.mono k2⟩
       · refine⟨k1.known,k1.aZ,k1.fresh,?_,?_,k1.di,k1.eo,k1.db,k1.eS,k1.jX⟩
         · intro d' cs' hd';by_cases hdd:d=d'
           ·subst hdd;rw[bt]at hd';cases hd';exact⟨b,f1,⟨f2,c,t',f3,il hrl⟩,hlf⟩
           ·rw[bK _ _ _ _ hdd]at hd';exact k1.cR d' cs' hd'
         · intro d' b' hd';by_cases hdd:d=d'
           ·subst hdd;rw[bt];rfl
           ·rw[bK _ _ _ _ hdd];exact k1.gA d' b' hd'
     ·exact⟨G,h,bJ.refl G w⟩
   ·exact⟨G,h,bJ.refl G w⟩
 ·exact⟨G,h,bJ.refl G w⟩
theorem jn{N:Nat}:∀{ts:List Nat} {st:St} {G:Gh} {a:Act} {w:World},gK (num ns) n0 N G st a w→∃G',gK (num ns) n0 N G' (nb ts st) a w∧bJ G w G' w
 |[],st,G,a,w,h=>⟨G,h,bJ.refl G w⟩
 |t::r,st,G,a,w,h=>by
   simp only[nb];split
   · rename_i v hv;split
     · rename_i p hp;obtain⟨G1,k1,k2,k3,k4,k5⟩:=Inv.kill ([v].flatMap ei) h.inv;obtain⟨u,hu,hr⟩:=h.env.env t v hv;have hrel:Rel G1.K p u:=sN k2 k4 h.inv.sO (fun s hs=>by simpa using hs) hp hr
       have h1:gK (num ns) n0 N G1 { st with env:=cW st.env t (.pv p),sh:=cy st.sh [v] } a w:=by
         refine⟨⟨h.env.size,fun t' x hx=>?_⟩,k1,h.marks.qA k3 rfl⟩;by_cases ht:t'=t
         ·subst ht;rw[Ev.mK,if_pos rfl]at hx;cases hx;exact⟨u,hu,by simpa only[aB] using hrel⟩
         ·rw[Ev.mK,if_neg ht]at hx;obtain⟨u',f1,f2⟩:=h.env.env t' x hx;exact⟨u',f1,f2.mono k2⟩
       obtain⟨G2,h2,he⟩:=jn (ts:=r) h1;exact⟨G2,h2,k3.trans he⟩
     ·obtain⟨G1,h1,e1⟩:=DO (v:=v) h;obtain⟨G2,h2,e2⟩:=jn (ts:=r) h1;exact⟨G2,h2,e1.trans e2⟩
   ·exact jn h
theorem mM{α:Type}{d:Nat}:∀{l:List (Nat×α)} {t:Nat},look (rz d l) t=if t=d then none else look l t
 |[],t=>by simp[rz,look]
 |(k,v)::r,t=>by
   simp only[rz];by_cases hk:k=d
   · rw[if_pos hk,mM];by_cases ht:t=d
     ·rw[if_pos ht,if_pos ht]
     ·rw[if_neg ht,if_neg ht];simp only[look];rw[if_neg (by rintro rfl;exact ht hk)]
   · rw[if_neg hk];simp only[look];by_cases hkt:k=t
     ·subst hkt;rw[if_pos rfl,if_neg hk,if_pos rfl]
     ·rw[if_neg hkt,if_neg hkt,mM]
theorem p9{d s sz n:Nat}{ag:Bool}{env:List (Nat×AV)}:∀{l:List Nat} {t:Nat} {x:AV},look (ry d s sz n ag env l) t=some x →
   ∃y,look env t=some y∧yC d s sz n ag y=some x
 |[],t,x,h=>by simp[ry,look]at h
 |k::r,t,x,h=>by
   simp only[ry]at h;split at h
   · rename_i v hv;simp only[look]at h;split at h
     ·rename_i e;subst e;cases h;rw[Option.bind_eq_some_iff]at hv;exact hv
     ·exact p9 h
   ·exact p9 h
def Gh.lA(G:Gh)(d b s n:Nat):Gh:=
 { G with role:=fun x=>if x=b then .shr s else G.role x,pm:=fun x=>if x=d then none else G.pm x,sm:=fun x=>if x=s then some (b,n) else G.sm x }
theorem AA{ρ:bO}{G:Gh}{d b s n:Nat}(hs:G.sm s=none){x:AV}{v:Value}(hf:jy x=true)(h:aB ρ G x v):aB ρ (G.lA d b s n) x v:=by
 refine vm (G':=G.lA d b s n) (bl.le_refl G.K) (fun s' b' e=>?_) (fun _ _ e=>e) hf h;simp only[Gh.lA];rw[if_neg (by rintro rfl;rw[hs]at e;cases e)];exact e
theorem AB{x:AV}(h:aT x=true):jy x=true:=by
 rcases nF h with hf|⟨l,τ,rfl⟩
 · cases x with
   |own l τ=>rfl
   |_=>simpa[jy] using hf
 ·rfl
theorem oW:∀{xs:List AV},xs.all aT=true→fp xs=true
 |[],_=>rfl
 |x::xs,h=>by
   simp only[List.all_cons,Bool.and_eq_true]at h;simp only[fp,Bool.and_eq_true];exact⟨AB h.1,oW h.2⟩
theorem p_{ρ:bO}{G:Gh}{d b s n:Nat}(hs:G.sm s=none){xs:List AV}{vs:List Value}(hf:xs.all aT=true)(h:aw ρ G xs vs):aw ρ (G.lA d b s n) xs vs:=by
 refine ji (G':=G.lA d b s n) (bl.le_refl G.K) (fun s' b' e=>?_) (fun _ _ e=>e) (oW hf) h;simp only[Gh.lA];rw[if_neg (by rintro rfl;rw[hs]at e;cases e)];exact e
theorem DP{N d sz:Nat}{ag:Bool}{st:St}{G:Gh}{a:Act}{w:World}(h:gK (num ns) n0 N G st a w):∃G',gK (num ns) n0 N G' (FJ d sz ag st) a w∧bJ G w G' w:=by
 unfold FJ;split
 · rename_i cells hcs;split
   · rename_i hok;obtain⟨hlf,hrf⟩:=hok;obtain⟨b,e1,⟨e2,c,t,e3,e4⟩,e5⟩:=h.inv.cR d cells hcs
     have hsm:G.sm st.sh.length=none:=by
       cases hx:G.sm st.sh.length with
       |none=>rfl
       |some b'=>have:=h.inv.eo _ _ hx;omega
     have hcl:c.size=cells.length:=by have:=e4.length;simpa using this
     have hbs:b<w.heap.size:=(Array.getElem?_eq_some_iff.1 e3).1
     have hevo:bJ G w (G.lA d b st.sh.length cells.length) w:=
       { size:=Nat.le_refl _,os:=rfl,tape:=rfl,output:=rfl,K:=bl.le_refl G.K
         sm:=fun s' b' e=>by
           simp only[Gh.lA];rw[if_neg (by rintro rfl;rw[hsm]at e;cases e)];exact e
         eg:=fun b' _ hr=>⟨by
           simp only[Gh.lA];rw[if_neg (by rintro rfl;rw[e2]at hr;cases hr)];exact hr,rfl⟩
         iD:=fun b' τ _ hr=>.inr ⟨τ,by
           simp only[Gh.lA];rw[if_neg (by rintro rfl;rw[e2]at hr;cases hr)];exact hr⟩
         gB:=fun _ _ _ _ _ hk=>hk }
     have hrole:∀b' r,G.role b'=r→r≠.lB d→(G.lA d b st.sh.length cells.length).role b'=r:=by
       intro b' r hr hn;simp only[Gh.lA];rw[if_neg (by rintro rfl;rw[e2]at hr;exact hn hr.symm)];exact hr
     refine⟨G.lA d b st.sh.length cells.length,⟨⟨h.env.size,fun t' x hx=>?_⟩,?_,h.marks.qA hevo rfl⟩,hevo⟩
     · obtain⟨y,hy,hv⟩:=p9 hx;obtain⟨u,g1,g2⟩:=h.env.env t' y hy;refine⟨u,g1,?_⟩
       have aU:dV [] y=true→x=y→aB (num ns) (G.lA d b st.sh.length cells.length) x u:=by
         rintro hk rfl
         cases x with
         |own l τ=>exact AA hsm rfl g2
         |agg cs=>
           simp only[aB]at g2⊢;obtain⟨vs,q1,q2⟩:=g2;refine⟨vs,q1,ji (G':=G.lA d b st.sh.length cells.length) (bl.le_refl G.K) (fun s' b' e=>hevo.sm s' b' e) (fun _ _ e=>e) (by simpa[dV] using hk) q2⟩
         |az _ _=>simp[dV]at hk
         |jt _ _=>simp[dV]at hk
         |_=>exact AA hsm (by simpa[jy,dV] using hk) g2
       unfold yC at hv;split at hv
       · rename_i d' o;simp only[aB]at g2;obtain⟨b',q1,q2⟩:=g2;simp only[Option.some.injEq]at hv;split at hv
         ·rename_i hd;subst hd hv;rw[e1]at q1;cases q1;simp only[aB];exact⟨(b,cells.length),by simp[Gh.lA],q2⟩
         ·rename_i hd;subst hv;simp only[aB];exact⟨b',by simp only[Gh.lA];rw[if_neg hd];exact q1,q2⟩
       · rename_i d' m;simp only[aB]at g2;obtain⟨b',q1,q2⟩:=g2;split at hv
         ·rename_i hd;subst hd;simp only[Option.ite_none_right_eq_some,Option.some.injEq]at hv;obtain⟨hm,rfl⟩:=hv;rw[e1]at q1;cases q1;simp only[aB];exact⟨(b,cells.length),0,by simp[Gh.lA],q2,hm⟩
         ·rename_i hd;simp only[Option.some.injEq]at hv;subst hv;simp only[aB];exact⟨b',by simp only[Gh.lA];rw[if_neg hd];exact q1,q2⟩
       ·simp only[Option.ite_none_right_eq_some,Option.some.injEq]at hv;exact aU hv.1 hv.2.symm
     · have hi:=h.inv;refine⟨hi.known,?_,?_,?_,?_,?_,?_,?_,?_,hi.gV hevo⟩
       · intro b' o v hk;rcases hi.aZ b' o v hk with hr|⟨τ,hr⟩
         ·exact .inl (hrole _ _ hr (by simp))
         ·exact .inr ⟨τ,hrole _ _ hr (by simp)⟩
       ·intro b' hb';exact hrole _ _ (hi.fresh b' hb') (by simp)
       · intro d' cs' hd';rw[mM]at hd';split at hd'
         ·cases hd'
         ·rename_i hdd;obtain⟨b',f1,⟨f2,c',t',f3,f4⟩,f5⟩:=hi.cR d' cs' hd';exact⟨b',by simp only[Gh.lA];rw[if_neg hdd];exact f1,⟨hrole _ _ f2 (by simpa using hdd),c',t',f3,p_ hsm f5 f4⟩,f5⟩
       · intro d' b' hd';simp only[Gh.lA]at hd';split at hd'
         ·cases hd'
         ·rename_i hdd;rw[mM,if_neg hdd];exact hi.gA d' b' hd'
       · intro s' cs' hs';rw[List.getElem?_append]at hs';split at hs'
         ·rename_i hlt;obtain⟨b',f1,⟨f2,o,f3,f4⟩,f5,f6⟩:=hi.di s' cs' hs';refine⟨b',hevo.sm _ _ f1,⟨hrole _ _ f2 (by simp),o,f3,f4.to (bl.le_refl G.K) (fun _ e=>e) (fun vs r=>p_ hsm (iM f5) r)⟩,f5,f6⟩
         · rename_i hlt
           have hs0:s'=st.sh.length:=by
             have:=(List.getElem?_eq_some_iff.1 hs').1;simp at this;omega
           subst hs0;simp at hs';subst hs';refine⟨(b,cells.length),by simp[Gh.lA],⟨by simp[Gh.lA],_,e3,?_⟩,hlf,hrf⟩;have:=Holds.full (t:=t) (p_ (d:=d) (b:=b) (n:=cells.length) hsm (iM hlf) e4)
           rwa [hcl]at this
       · intro s' b' hs';simp only[Gh.lA]at hs';simp only[List.length_append,List.length_cons,List.length_nil];split at hs'
         ·omega
         ·have:=hi.eo s' b' hs';omega
       ·intro τ n hn;obtain⟨t',f1,f2,f3⟩:=hi.db τ n hn;refine⟨t',f1,f2,f3.cap,f3.zero,fun hsp=>?_⟩;obtain⟨b',o,c',ty,q1,q2,q3⟩:=f3.spare hsp;exact⟨b',o,c',ty,q1,hrole _ _ q2 (by simp),q3⟩
       ·exact hi.eS
   ·exact⟨G,h,bJ.refl G w⟩
 ·exact⟨G,h,bJ.refl G w⟩
theorem nR{N:Nat}:∀{ps:List (Nat×Nat×Bool)} {st:St} {G:Gh} {a:Act} {w:World},gK (num ns) n0 N G st a w→∃G',gK (num ns) n0 N G' (wF ps st) a w∧bJ G w G' w
 |[],st,G,a,w,h=>⟨G,h,bJ.refl G w⟩
 |(d,sz,ag)::r,st,G,a,w,h=>by
   obtain⟨G1,h1,e1⟩:=DP (d:=d) (sz:=sz) (ag:=ag) h;obtain⟨G2,h2,e2⟩:=nR (ps:=r) h1;exact⟨G2,h2,e1.trans e2⟩
theorem mN{b b':Nat}:∀{ts:List Nat} {env:List (Nat×AV)} {t:Nat} {x:AV},look (nc b b' ts env) t=some x→look env t=some x∨∃z n ag,look env t=some (.aP b z n ag)∧x=.aP b' z n ag
 |[],env,t,x,h=>.inl h
 |u::r,env,t,x,h=>by
   simp only[nc]at h;split at h
   · rename_i s z n ag hu;split at h
     · rename_i hs;subst hs;rcases mN h with h1|⟨z',n',ag',h1,h2⟩
       · by_cases hut:u=t
         ·subst hut;rw[bt]at h1;cases h1;exact .inr ⟨z,n,ag,hu,rfl⟩
         ·rw[bK _ _ _ _ hut]at h1;exact .inl h1
       · by_cases hut:u=t
         ·subst hut;rw[bt]at h1;cases h1;exact .inr ⟨z,n,ag,hu,h2⟩
         ·rw[bK _ _ _ _ hut]at h1;exact .inr ⟨z',n',ag',h1,h2⟩
     ·exact mN h
   ·exact mN h
theorem DQ{N:Nat}{ts:List Nat}{st:St}{G:Gh}{a:Act}{w:World}(h:gK (num ns) n0 N G st a w):∃G',gK (num ns) n0 N G' (BK ts st) a w∧bJ G w G' w:=by
 unfold BK;split
 ·exact⟨G,h,bJ.refl G w⟩
 · rename_i t r;split
   · rename_i b z n ag hb;split
     · rename_i cells hcs;split
       · obtain⟨blk,e1,_⟩:=h.inv.di b cells hcs;obtain⟨g1,g2,g3⟩:=h.inv.iq hcs e1;refine⟨_,⟨⟨h.env.size,fun t' x hx=>?_⟩,g1,h.marks.qA g3 rfl⟩,g3⟩;rcases mN hx with h1|⟨z',n',ag',h1,rfl⟩
         ·obtain⟨v,q1,q2⟩:=h.env.env t' x h1;exact⟨v,q1,q2.mono g2⟩
         ·obtain⟨v,q1,q2⟩:=h.env.env t' _ h1;refine⟨v,q1,?_⟩;simp only[aB]at q2⊢;obtain⟨b',cap,f1,f2,f3⟩:=q2;rw[e1]at f1;cases f1;exact⟨blk,cap,by simp[Gh.iq],f2,f3⟩
       ·exact⟨G,h,bJ.refl G w⟩
     ·exact⟨G,h,bJ.refl G w⟩
   ·exact⟨G,h,bJ.refl G w⟩
theorem AD:∀{ks:List Nat} {sh:Sh} {b:Nat},b∉ks→(kill sh ks)[b]?=sh[b]?
 |[],_,_,_=>rfl
 |k::ks,sh,b,h=>by
   simp only[List.mem_cons,not_or]at h;have hk:kill sh (k::ks)=kill (sh.set k none) ks:=rfl;rw[hk,AD h.2,List.getElem?_set,if_neg (fun e=>h.1 e.symm)]
theorem hU{N:Nat}:∀{ts:List Nat} {st:St} {G:Gh} {a:Act} {w:World},gK (num ns) n0 N G st a w→∃G',gK (num ns) n0 N G' (i_ ts st) a w∧bJ G w G' w
 |[],st,G,a,w,h=>⟨G,h,bJ.refl G w⟩
 |t::r,st,G,a,w,h=>by
   simp only[i_];split
   · rename_i b z n ag hb;split
     · rename_i cells hcs;split
       · rename_i hok;obtain⟨hmb,hself⟩:=hok;split
         · rename_i ps hps;obtain⟨G1,k1,k2,k3,k4,k5⟩:=Inv.kill ([.agg cells].flatMap ei) h.inv;obtain⟨blk,e1,e2,e3,e4⟩:=h.inv.di b cells hcs;obtain⟨hr,c,ty,vs,suf,hh,hcz,hsp,hrel⟩:=e2.cells hmb
           have hnb:b∉[AV.agg cells].flatMap ei:=by
             have:¬(ei (.agg cells)).contains b=true:=by rw[hself];simp
             simpa using this
           have hb1:(cy st.sh [.agg cells])[b]?=some (some cells):=by
             show (kill st.sh ([AV.agg cells].flatMap ei))[b]?=_;rw[AD hnb];exact hcs
           obtain⟨blk',f1,f2,f3,f4⟩:=k1.di b cells hb1
           have hblk:blk'=blk:=by
             have:=k2.sm _ _ e1;rw[f1]at this;simpa using this
           subst hblk;have hrl:dF G1.K ps vs:=kI k2 k4 h.inv.sO (fun s hs=>by simpa using hs) hps hrel
           have hlf:(ps.map AV.pv).all cL=true:=by
             rw[List.all_eq_true];intro x hx;rw[List.mem_map]at hx;obtain⟨p,hp,rfl⟩:=hx;have:=jZ hrl p hp;cases p<;>first|rfl|simp[c_]at this
           have h1:gK (num ns) n0 N G1 { st with sh:=(cy st.sh [.agg cells]).set b (some (ps.map .pv)) } a w:=by
             refine⟨⟨h.env.size,fun t' x hx=>?_⟩,?_,h.marks.qA k3 rfl⟩
             ·obtain⟨u',g1,g2⟩:=h.env.env t' x hx;exact⟨u',g1,g2.mono k2⟩
             · exact { k1 with
                 di:=fun s' cs' hs'=>by
                   rw[List.getElem?_set]at hs';split at hs'
                   · rename_i he;subst he;split at hs'
                     · cases hs'
                       exact⟨blk',f1,⟨f2.role,_,hh,.inl ⟨c,ty,vs,suf,rfl,hcz,hsp,il hrl⟩⟩,hlf,wQ _ _⟩
                     ·cases hs'
                   ·exact k1.di s' cs' hs'
                 eo:=fun s' b' hs'=>by
                   have:=k1.eo s' b' hs';simpa using this }
           obtain⟨G2,h2,he⟩:=hU (ts:=r) h1;exact⟨G2,h2,k3.trans he⟩
         ·exact hU h
       ·exact hU h
     ·exact hU h
   ·exact hU h
theorem vK{α β:Type}{f:α→Option β}:∀{l:List α} {r:List β} (k:Nat),cd f l=some r→cd f (l.take k)=some (r.take k)∧cd f (l.drop k)=some (r.drop k)
 |l,r,0,h=>by simp[cd,h]
 |[],r,k+1,h=>by simp[cd]at h;subst h;simp[cd]
 |x::l,r,k+1,h=>by
   simp only[cd]at h;split at h
   ·rename_i y ys h1 h2;cases h;obtain⟨g1,g2⟩:=vK k h2;simp only[List.take_succ_cons,List.drop_succ_cons,cd,h1,g1];exact⟨trivial,g2⟩
   ·cases h
theorem xL(hB:eK P ns){orc:dX}(horc:gi P ns orc){A:jS}{N id k:Nat}{q:Nat×List Nat×List Nat}{ops:Array Oper}{as:List dI}(hc:cd (cI P ns A N ops) ops.toList=some as){live:List Nat}{st st':St}{e:bg}{G:Gh}{a:Act}{w:World}
   (hs:gK (num ns) n0 N G st a w) (hev:cK orc k (BP (some q) as live) st=some (e,st')) {Q:Exit→Act→World→Prop}
   (hq:∀G' a' w',gK (num ns) n0 N G' st' a' w'→bJ G w G' w'→Q (p8 e) a' w'):(Code.region id ops false).wpIn (uH ro) 0 P Q a w:=by
 obtain⟨j,l,ts⟩:=q;simp only[BP,cK]at hev;obtain⟨g1,g2⟩:=vK j hc;cases h1:bo orc (as.take j) st with
 |none=>rw[h1]at hev;simp at hev
 |some st1=>
   rw[h1]at hev;simp only at hev;cases h2:bo orc (as.drop j) (BK ts (Go.Ab.restrict l st1)) with
   |none=>rw[h2]at hev;simp at hev
   |some st2=>
     rw[h2]at hev;simp only[Option.some.injEq,Prod.mk.injEq]at hev;obtain⟨rfl,rfl⟩:=hev;refine wpIn_region_list ?_;rw[←List.take_append_drop j ops.toList];refine g_ hB horc g1 hs h1 fun G1 a1 w1 hs1 he1 _ _=>?_;obtain⟨G2,hs2,he2⟩:=DQ (ts:=ts) (hs1.restrict l)
     have:=g_ (ro:=ro) (n:=0) (rest:=[]) (Q:=Q) hB horc g2 hs2 h2 (fun G3 a3 w3 hs3 he3 _ _=>by
       unfold wpListIn;exact hq (G3.aU live) a3 w3 (hs3.restrict live) (he1.trans ((bJ.aU l).trans (he2.trans (he3.trans (bJ.aU live))))))
     rwa [List.append_nil]at this
theorem lq{live:List Nat}{env:List (Nat×AV)}:∀{ds:List (Nat×Nat)},iB (bC live env live) ds=true→iB env ds=true
 |[],_=>rfl
 |(a,b)::r,h=>by
   simp only[iB,Bool.and_eq_true]at h⊢;refine⟨?_,lq h.2⟩;obtain⟨b1,o1,b2,o2,h1,h2,hne⟩:=vt h.1;rw[(dq h1).1,(dq h2).1];simpa[apart] using hne
theorem tI{orc:dX}{k:Nat}{as:List dI}{live:List Nat}{ds:Option (List (Nat×Nat))}{ps:Option (List (Nat×Nat×Bool))}{st st':St}{e:bg}
   (h:cK orc k (behind ds ps (.iA as live)) st=some (e,st')) :
   ∃st1,bo orc as st=some st1∧e=.normal∧iB st1.env (ds.getD [])=true∧st'=wF (ps.getD []) (restrict live st1):=by
 have h1:∀e2 st2,cK orc k (match ds with|some ds=>aq.seq (.iA as live) (.Pb ds)|none=>.iA as live) st=some (e2,st2) →
     ∃st1,bo orc as st=some st1∧e2=.normal∧iB st1.env (ds.getD [])=true∧st2=restrict live st1:=by
   intro e2 st2 h;cases ds with
   |none=>
     simp only[cK]at h;split at h
     ·rename_i st1 h1;simp at h;obtain⟨rfl,rfl⟩:=h;exact⟨st1,h1,rfl,rfl,rfl⟩
     ·simp at h
   |some ds=>
     simp only[cK]at h;cases h1:bo orc as st with
     |none=>rw[h1]at h;simp at h
     |some st1=>
       rw[h1]at h;simp only[Option.ite_none_right_eq_some,Option.some.injEq,Prod.mk.injEq]at h;obtain⟨h2,rfl,rfl⟩:=h;exact⟨st1,rfl,rfl,lq h2,rfl⟩
 unfold behind at h;cases ps with
 |none=>
   obtain⟨st1,g1,g2,g3,g4⟩:=h1 e st' h;exact⟨st1,g1,g2,g3,g4⟩
 |some ps=>
   simp only[cK]at h;split at h
   ·rename_i st2 h2;simp at h;obtain⟨st1,g1,g2,g3,rfl⟩:=h1 _ _ h2;exact⟨st1,g1,h.1.symm,g3,h.2.symm⟩
   ·rename_i r hr;obtain⟨st1,g1,rfl,g3,g4⟩:=h1 e st' h;exact absurd h (hr st')
def rV(_:Program)(_:Names):Prop:=True
theorem iQ(hm:P.follows .mixedOrders=true)(hB:eK P ns){orc:dX}(horc:gi P ns orc)(hBk:rV P ns){A:jS}{N k:Nat}:∀{c:Code} {ac:aq},fM P ns A N c=some ac →
   ∀{n0:Nat} {ro:Option Nat},(ro=none∨ac.fD=true)→∀{st st':St} {e:bg} {G:Gh} {a:Act} {w:World} {Q:Exit→Act→World→Prop},cK orc k ac st=some (e,st')→gK (num ns) n0 N G st a w →
     (∀G' a' w',gK (num ns) n0 N G' st' a' w'→bJ G w G' w'→Q (p8 e) a' w')→c.wpIn (uH ro) 0 P Q a w
 | .skip,ac,hc,n0,ro,hro,st,st',e,G,a,w,Q,hev,hs,hq=>by
   simp[fM]at hc;subst hc;simp[cK]at hev;obtain⟨rfl,rfl⟩:=hev;exact wpIn_skip (hq G a w hs (bJ.refl G w))
 | .region id ops draw,ac,hc,n0,ro,hro,st,st',e,G,a,w,Q,hev,hs,hq=>by
   simp only[fM]at hc;split at hc
   · rename_i as has
     have key:∀o ds ps live,ac=jz o (behind ds ps (.iA as live))→(draw=true→wH (ds.getD []) ops.toList as=true)→(Code.region id ops draw).wpIn (uH ro) 0 P Q a w:=by
       rintro o ds ps live rfl hd
       have main:∀{st:St} {G1:Gh},cK orc k (behind ds ps (.iA as live)) st=some (e,st')→gK (num ns) n0 N G1 st a w→bJ G w G1 w→(Code.region id ops draw).wpIn (uH ro) 0 P Q a w:=by
         intro st G1 hev hs he1;obtain⟨st1,h1,rfl,h3,rfl⟩:=tI hev;refine vv hm hB horc has hd hs h1 h3 fun G' a' w' hs' he'=>?_;obtain⟨G2,h4,h5⟩:=nR (ps:=ps.getD []) (hs'.restrict live);exact hq G2 a' w' h4 (he1.trans (he'.trans ((bJ.aU live).trans h5)))
       cases o with
       |none=>exact main hev hs (bJ.refl G w)
       |some ts=>
         simp only[jz,cK]at hev;obtain⟨G2,h2,he2⟩:=jn (ts:=ts) hs;exact main hev h2 he2
     have ahead:∀o1 o2 c,ac=rN o1 (jz o2 c)→(∀{st:St} {G1:Gh},cK orc k c st=some (e,st')→gK (num ns) n0 N G1 st a w→bJ G w G1 w→(Code.region id ops draw).wpIn (uH ro) 0 P Q a w)→(Code.region id ops draw).wpIn (uH ro) 0 P Q a w:=by
       rintro o1 o2 c rfl hm
       have h2:∀{st:St} {G1:Gh},cK orc k (jz o2 c) st=some (e,st')→gK (num ns) n0 N G1 st a w→bJ G w G1 w→(Code.region id ops draw).wpIn (uH ro) 0 P Q a w:=by
         intro st G1 hev hs he1;cases o2 with
         |none=>exact hm hev hs he1
         |some ts=>
           simp only[jz,cK]at hev;obtain⟨G2,h2,he2⟩:=jn (ts:=ts) hs;exact hm hev h2 (he1.trans he2)
       cases o1 with
       |none=>exact h2 hev hs (bJ.refl G w)
       |some ts=>
         simp only[rN,cK]at hev;obtain⟨G2,h3,he2⟩:=hU (ts:=ts) hs;exact h2 hev h3 he2
     split at hc
     · rename_i hdr;split at hc
       ·rename_i hok;simp at hc;exact key _ _ _ _ hc.symm (fun _=>hok)
       ·simp at hc
     · rename_i hdr;have hdr':draw=false:=by simpa using hdr
       subst hdr';split at hc
       ·rename_i q hq';simp only[Option.some.injEq]at hc;exact ahead _ _ _ hc.symm fun hev hs he1=>xL hB horc has hs hev fun G' a' w' h1 h2=>hq G' a' w' h1 (he1.trans h2)
       ·simp only[Option.some.injEq]at hc;refine ahead _ _ _ hc.symm fun hev hs he1=>?_;obtain⟨st1,h1,rfl,h3,rfl⟩:=tI hev;refine vv hm hB horc has (fun h=>absurd h hdr) hs h1 h3 fun G' a' w' hs' he'=>?_;obtain⟨G2,h4,h5⟩:=nR (ps:=(look A.lA id).getD []) (hs'.restrict ((look A.live id).getD []));exact hq G2 a' w' h4 (he1.trans (he'.trans ((bJ.aU _).trans h5)))
   ·simp at hc
 | .seq x y,ac,hc,n0,ro,hro,st,st',e,G,a,w,Q,hev,hs,hq=>by
   simp only[fM]at hc;split at hc
   · rename_i ax ay hx hy;simp at hc;subst hc;have hrx:ro=none∨ax.fD=true:=hro.imp_right fun h=>by simp only[aq.fD,Bool.and_eq_true]at h;exact h.1
     have hry:ro=none∨ay.fD=true:=hro.imp_right fun h=>by simp only[aq.fD,Bool.and_eq_true]at h;exact h.2
     simp only[cK]at hev;refine wpIn_seq ?_;split at hev
     ·rename_i st1 h1;refine iQ hm hB horc hBk hx hrx h1 hs fun G' a' w' hs' he'=>?_;exact iQ hm hB horc hBk hy hry hev hs' fun G'' a'' w'' hs'' he''=>hq G'' a'' w'' hs'' (he'.trans he'')
     · rename_i r hr;refine iQ hm hB horc hBk hx hrx hev hs fun G' a' w' hs' he'=>?_;have:=hq G' a' w' hs' he'
       cases e with
       |normal=>exact absurd hev (hr st')
       |ret=>exact this
       |exit id=>exact this
   ·simp at hc
 | .cond c x y,ac,hc,n0,ro,hro,st,st',e,G,a,w,Q,hev,hs,hq=>by
   simp only[fM]at hc;split at hc
   · rename_i acnd ax ay hcn hx hy;simp at hc;subst hc;have hrx:ro=none∨ax.fD=true:=hro.imp_right fun h=>by simp only[aq.fD,Bool.and_eq_true]at h;exact h.1
     have hry:ro=none∨ay.fD=true:=hro.imp_right fun h=>by simp only[aq.fD,Bool.and_eq_true]at h;exact h.2
     simp only[cK]at hev;split at hev
     · rename_i t ht;have hrel:=EB hs.env hcn ht;simp only[aB,jb]at hrel;refine wpIn_cond hrel ?_;cases t with
       |true=>exact iQ hm hB horc hBk hx hrx (by simpa using hev) hs hq
       |false=>exact iQ hm hB horc hBk hy hry (by simpa using hev) hs hq
     ·simp at hev
   ·simp at hc
 | .block id b,ac,hc,n0,ro,hro,st,st',e,G,a,w,Q,hev,hs,hq=>by
   simp only[fM,Option.map_eq_some_iff]at hc;obtain⟨ab,hb,rfl⟩:=hc;have hrb:ro=none∨ab.fD=true:=hro.imp_right fun h=>by simpa only[aq.fD] using h
   refine wpIn_block ?_;simp only[cK]at hev;split at hev
   · rename_i id' st1 h1;refine iQ hm hB horc hBk hb hrb h1 hs fun G' a' w' hs' he'=>?_;split at hev
     ·rename_i ED;simp at hev;obtain⟨rfl,rfl⟩:=hev;simp only[p8,Exit.inBlock,ED,if_true];exact hq G' a' w' hs' he'
     ·rename_i ED;simp at hev;obtain⟨rfl,rfl⟩:=hev;simp only[p8,Exit.inBlock,ED,if_false];exact hq G' a' w' hs' he'
   · rename_i r hr;refine iQ hm hB horc hBk hb hrb hev hs fun G' a' w' hs' he'=>?_;have:=hq G' a' w' hs' he'
     cases e with
     |normal=>exact this
     |ret=>exact this
     |exit id'=>exact absurd hev (hr id' st')
 | .loop b,ac,hc,n0,ro,hro,st,st',e,G,a,w,Q,hev,hs,hq=>by
   simp only[fM,Option.map_eq_some_iff]at hc;obtain⟨ab,hb,rfl⟩:=hc;have hrb:ro=none∨ab.fD=true:=hro.imp_right fun h=>by simpa only[aq.fD] using h
   simp only[cK]at hev;refine wpIn_loop_rounds k ?_;exact qZ (fun h=>h.head _) (fun h1 h2 h3=>iQ hm hB horc hBk hb hrb h1 h2 h3) k hev hs hq
 | .exit id,ac,hc,n0,ro,hro,st,st',e,G,a,w,Q,hev,hs,hq=>by
   simp[fM]at hc;subst hc;simp[cK]at hev;obtain⟨rfl,rfl⟩:=hev;exact wpIn_exit (hq G a w hs (bJ.refl G w))
 | .ret,ac,hc,n0,ro,hro,st,st',e,G,a,w,Q,hev,hs,hq=>by
   simp[fM]at hc;subst hc;simp[cK]at hev;obtain⟨rfl,rfl⟩:=hev;exact wpIn_ret (hq G a w hs (bJ.refl G w))
 | .rangeFunc f ps x y,ac,hc,n0,ro,hro,st,st',e,G,a,w,Q,hev,hs,hq=>by simp[fM]at hc
 | .scope _,ac,hc,n0,ro,hro,st,st',e,G,a,w,Q,hev,hs,hq=>by simp[fM]at hc
 | .label _,ac,hc,n0,ro,hro,st,st',e,G,a,w,Q,hev,hs,hq=>by simp[fM]at hc
 | .goto _,ac,hc,n0,ro,hro,st,st',e,G,a,w,Q,hev,hs,hq=>by simp[fM]at hc
 | .refuse _,ac,hc,n0,ro,hro,st,st',e,G,a,w,Q,hev,hs,hq=>by simp[fM]at hc
end
end Go.Ab
