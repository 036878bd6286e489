import Derived.Test.YtcjggpmnbcfedaaDoorAbA
import Derived.Orders
import Derived.Tactics
import Derived.OrdersIn
import Derived.TacticsIn
import Derived.LoopNIn
import Derived.RangeFuncCalls
import Derived.RangeFuncIn
import Derived.RangeFuncRecord
import Derived.RangeFuncSeq
/-
  Calls: the contracts of the callees, and what they z7 the caller.
  Shared arrays that are frozen: from then on they are known for good.
  Forgetting what is no longer wanted; tokens named anew at the head of a loop.
  Tokens named anew.
  Handing over to a callee and taking back.
  One operation of a region: what the evaluator gives is what the model does.
  A region: in the order of the text, and in whatever order the tape picks.
  A region that draws its order: whatever order is picked, the end is that of the text's order.
  Two operations that have nothing to do with one another may change places; so the order of the text serves every order.
  Operations and regions inside the fence that asks nothing, in a round of a range over a function or not.
  Without fuel: the limit of the evaluator.
  Rules for running slim code by the simplifier: each is an equation on constructors.
  Ranges over a slice backward: the iterator's contract.
  slices.Clone: its argument appended to an empty slice.
  Code and functions: what the evaluator gives is what the model does.
-/
set_option linter.unusedVariables false
set_option linter.unusedSimpArgs false
set_option linter.unnecessarySimpa false
set_option maxRecDepth 100000
set_option maxHeartbeats 8000000
namespace Go.Ab
section
variable {P:Program} {ns:Names} {G:Gh} {w:World}
def Ej (K:aU) (w:World):Prop:=∀b o v,K b o=some v→w.cell? ⟨b,o,none⟩=some v
def CA (p:Nat→Option (Array Value)) (w:World):Prop:=∀b c,p b=some c→∃t z,w.heap[b]?=some (.cells c t z)
def fD (K:aU) (rs:List PV) (v:Value):Prop:=
 match rs with
 | [r]=>Rel K r v
 | rs=>∃vs:List Value,v=.tuple vs.toArray∧fW K rs vs
def bR (ρ:bh) (G:Gh) (rs:List AV) (v:Value):Prop:=
 match rs with
 | [r]=>ah ρ G r v
 | rs=>∃vs:List Value,v=.tuple vs.toArray∧ae ρ G rs vs
def qU (P:Program) (ns:Names) (f:FuncId) (bZ rs:List PV):Prop:=
 ∀(K:aU) (w:World) (vs:List Value),CA ns.i3 w→Ej K w→fW K bZ vs →
   Calls P f vs.toArray w fun e w'=>∃v K',e=.returned v∧fD K' rs v∧K.le K'∧(∀b o u,b<w.heap.size→K' b o=some u→K b o=some u)∧Ej K' w'∧RowKit.Below w.heap.size w w'
def GF (P:Program) (ns:Names) (f:FuncId) (args:List AV) (ts:aq) (rs:List AV) (sh sh':Sh) (ts':aq):Prop:=
 ∀(G:Gh) (w:World) (vs:List Value),Inv (num ns) G w [] sh ts→ae (num ns) G args vs →
   Calls P f vs.toArray w fun e w'=>∃v G',e=.returned v∧bR (num ns) G' rs v∧Inv (num ns) G' w' [] sh' ts'∧bf G w G' w'
def z8 (P:Program) (ns:Names) (f sz bytes:Nat):Prop:=
 ∀(o:Option Bool) (G:Gh) (w:World) (mem:List (Nat×List AV)) (sh sh':Sh) (aa toks':aq) (x y:AV) (v:Value),Inv (num ns) G w mem sh aa→ah (num ns) G x v→gn o sz bytes x sh aa=some (y,sh',toks') →
   Calls P f #[v] w fun e w'=>∃u G',e=.returned u∧ah (num ns) G' y u∧Inv (num ns) G' w' mem sh' toks'∧G.le G'∧bf G w G' w'
structure fE (P:Program) (ns:Names) (orc:dr):Prop where
 p:∀g f bZ rs,ns.of f=some g→orc.p g bZ=some rs→qU P ns f bZ rs
 i:∀g f args ts rs sh sh' ts',ns.of f=some g→args.all bg=true→orc.i g args sh ts=some (rs,sh',ts')→GF P ns f args ts rs sh sh' ts'∧rs.all bg=true
 c:∀g sz bytes f,look ns.cl g=some (sz,bytes)→ns.of f=some g→z8 P ns f sz bytes
def eT (P:Program) (ns:Names):Prop:=∀f g,ns.of f=some g→∃fn b,P.funcs[f]?=some fn∧fn.body=some b∧fn.name ≠ "runtime.NumGoroutine"
theorem jI {f:FuncId} {g:Nat} (hB:eT P ns) (hf:ns.of f=some g) (args:Array Value):(callFunc f args).run P w=.ok (.enter f args) w:=by
 obtain ⟨fn,b,h1,h2,h3⟩:=hB f g hf
 simp [callFunc,h1,h2,h3]
mutual
theorem iO {ρ:bh} {G':Gh} (hK:G.K.le G'.K) (hs:∀s b,G.sm s=some b→G'.sm s=some b):∀{x:AV} {v:Value},bm x=true→ah ρ G x v→ah ρ G' x v
 | .pv p,_,_,h=>by simp only [ah] at h ⊢;exact h.mono hK
 | .aJ s o,_,_,h=>by simp only [ah] at h ⊢;obtain ⟨b,e,r⟩:=h;exact ⟨b,hs _ _ e,r⟩
 | .aX s _ n _,_,_,h=>by simp only [ah] at h ⊢;obtain ⟨b,c,e,r⟩:=h;exact ⟨b,c,hs _ _ e,r⟩
 | .gz,_,_,h=>by simpa only [ah] using h
 | .gA s,_,_,h=>by simp only [ah] at h ⊢;obtain ⟨b,e,r⟩:=h;exact ⟨b,hs _ _ e,r⟩
 | .lN ..,_,hp,_=>by simp [bm] at hp
 | .dT _,_,_,h=>by simp only [ah] at h
 | .fn g cap,_,hp,h=>by
   simp only [bm] at hp
   simp only [ah] at h ⊢
   obtain ⟨f,vs,e1,e2,r⟩:=h
   exact ⟨f,vs,e1,e2,ky hK hs hp r⟩
 | .un,_,hp,_=>by simp [bm] at hp
 | .cI _,_,_,h=>by simp only [ah] at h ⊢;obtain ⟨b,l,e,r⟩:=h;exact ⟨b,l,e,r.mono hK⟩
 | .own _ _,_,hp,_=>by simp [bm] at hp
 | .agg _,_,hp,h=>by
   simp only [bm] at hp
   simp only [ah] at h ⊢
   obtain ⟨vs,e,r⟩:=h
   exact ⟨vs,e,ky hK hs hp r⟩
 | .kP _,_,hp,_=>by simp [bm] at hp
 | .aN _ _,_,hp,_=>by simp [bm] at hp
 | .ek _,_,hp,_=>by simp [bm] at hp
theorem ky {ρ:bh} {G':Gh} (hK:G.K.le G'.K) (hs:∀s b,G.sm s=some b→G'.sm s=some b):∀{xs:List AV} {vs:List Value},bm.gC xs=true→ae ρ G xs vs→ae ρ G' xs vs
 | [],_,_,h=>by simpa only [ae] using h
 | x::xs,_,hp,h=>by
   simp only [bm.gC,Bool.and_eq_true] at hp
   simp only [ae] at h ⊢
   obtain ⟨v,r,e,e1,e2⟩:=h
   exact ⟨v,r,e,iO hK hs hp.1 e1,ky hK hs hp.2 e2⟩
end
theorem Inv.pure {K':aU} {w1:World} {mem:List (Nat×List AV)} {sh:Sh} {aa:aq} (hi:Inv (num ns) G w mem sh aa) (hK:G.K.le K') (hold:∀b o u,b<w.heap.size→K' b o=some u→G.K b o=some u)
   (hk:Ej K' w1) (hb:RowKit.Below w.heap.size w w1):Inv (num ns) { G with K:=K' } w1 mem sh aa∧G.le { G with K:=K' }∧bf G w { G with K:=K' } w1:=by
 have hle:G.le { G with K:=K' }:=⟨hK,fun _ _ h=>h,fun _ _ h=>h,fun _ t h=>⟨t,h,⟨Nat.le_refl _,t.d9⟩,fun _=>rfl⟩⟩
 have hevo:bf G w { G with K:=K' } w1:={
           size:=hb.size,os:=hb.os,tape:=hb.tape,output:=hb.output,K:=hK,sm:=fun _ _ h=>h,
           cS:=fun b h hr=>⟨hr,hb.block b h⟩,eS:=fun b τ _ hr=>.inr ⟨τ,hr⟩,d_:=fun b o v h _ hkk=>hold b o v h hkk }
 refine ⟨⟨hk,?_,?_,?_,hi.ep,?_,hi.cV,?_,hi.dy,hi.eA hevo⟩,hle,hevo⟩
 · intro b o v hkk
   by_cases h:b<w.heap.size
   · exact hi.aI b o v (hold b o v h hkk)
   · exact .inl (hi.fresh b (by omega))
 · intro b h;have:=hb.size;exact hi.fresh b (by omega)
 · intro d cs hd
   obtain ⟨b,e1,e2,e3⟩:=hi.bT d cs hd
   have hlt:b<w.heap.size:=by obtain ⟨_,_,_,hh,_⟩:=e2;exact bC hh
   exact ⟨b,e1,e2.mono hle rfl (hb.block b hlt),e3⟩
 · intro s cs hs
   obtain ⟨b,e1,e2,e3⟩:=hi.cr s cs hs
   have hlt:b.1<w.heap.size:=e2.lt
   exact ⟨b,e1,e2.mono hle rfl (hb.block b.1 hlt),e3⟩
 · intro τ n hn
   obtain ⟨t,e1,e2,e3⟩:=hi.cq τ n hn
   refine ⟨t,e1,e2,e3.cap,e3.zero,fun hlt=>?_⟩
   obtain ⟨b,o,c,ty,f1,f2,f3,f4,f5⟩:=e3.spare hlt
   have hlt':=bC f3
   exact ⟨b,o,c,ty,f1,f2,(hb.block b hlt').trans f3,f4,fun j v hkk=>f5 j v (hold b j v hlt' hkk)⟩
end
end Go.Ab
namespace Go.Ab
section
variable {P:Program} {ns:Names} {G:Gh} {w:World}
def Gh.freeze (G:Gh) (b:Nat) (c:Array Value):Gh:=
 { G with K:=fun k o=>if k=b then c[o]? else G.K k o,role:=fun k=>if k=b then .cS else G.role k }
theorem Inv.freeze {mem:List (Nat×List AV)} {sh:Sh} {aa:aq} (hi:Inv (num ns) G w mem sh aa) {s b:Nat} {cells:List AV} {c:Array Value} {t:TypeId}
   (hr:G.role b=.shr s) (hh:w.heap[b]?=some (.cells c t (0,0))) :
   Inv (num ns) (G.freeze b c) w mem (sh.set s none) aa∧G.le (G.freeze b c)∧bf G w (G.freeze b c) w:=by
 have hK:G.K.le (G.freeze b c).K:=fun k o v hk=>by
   simp only [Gh.freeze]
   rw [if_neg]
   · exact hk
   · rintro rfl
     rcases hi.aI _ _ _ hk with h | ⟨τ,h⟩<;>rw [hr] at h<;>simp at h
 have hle:G.le (G.freeze b c):=⟨hK,fun _ _ h=>h,fun _ _ h=>h,fun _ t h=>⟨t,h,⟨Nat.le_refl _,t.d9⟩,fun _=>rfl⟩⟩
 have hrole:∀k r,G.role k=r→r≠.shr s→(G.freeze b c).role k=r:=by
   intro k r hk hn
   simp only [Gh.freeze]
   rw [if_neg]
   · exact hk
   · rintro rfl;exact hn (hk.symm.trans hr)
 have hevo:bf G w (G.freeze b c) w:={
           size:=Nat.le_refl _,os:=rfl,tape:=rfl,output:=rfl,K:=hK,sm:=fun _ _ h=>h,
           cS:=fun k _ hk=>⟨hrole k _ hk (by simp),rfl⟩
           eS:=fun k τ _ hk=>.inr ⟨τ,hrole k _ hk (by simp)⟩
           d_:=fun k o v _ hk hkk=>by
             simp only [Gh.freeze] at hkk
             rwa [if_neg (by rintro rfl;rw [hr] at hk;simp at hk)] at hkk }
 refine ⟨⟨?_,?_,?_,?_,hi.ep,?_,?_,?_,hi.dy,hi.eA hevo⟩,hle,hevo⟩
 · intro k o v hk
   simp only [Gh.freeze] at hk
   split at hk
   · rename_i e;subst e;simp [World.cell?,hh,hk]
   · exact hi.known k o v hk
 · intro k o v hk
   simp only [Gh.freeze] at hk
   split at hk
   · rename_i e;subst e;left;simp [Gh.freeze]
   · rename_i e
     simp only [Gh.freeze,if_neg e]
     exact hi.aI k o v hk
 · intro k hk
   simp only [Gh.freeze]
   split
   · rfl
   · exact hi.fresh k hk
 · intro d cs hd
   obtain ⟨b',e1,e2,e3⟩:=hi.bT d cs hd
   exact ⟨b',e1,e2.mono hle ((hrole b' _ e2.role (by simp)).trans e2.role.symm) rfl,e3⟩
 · intro s' cs hs'
   rw [List.getElem?_set] at hs'
   split at hs'
   · split at hs'<;>simp at hs'
   · rename_i hne
     obtain ⟨b',e1,e2,e3⟩:=hi.cr s' cs hs'
     exact ⟨b',e1,e2.mono hle ((hrole b'.1 _ e2.role (by simp;exact fun h=>hne h.symm)).trans e2.role.symm) rfl,e3⟩
 · intro s' b' h;simpa using hi.cV s' b' h
 · intro τ n hn
   obtain ⟨tk,e1,e2,e3⟩:=hi.cq τ n hn
   refine ⟨tk,e1,e2,e3.cap,e3.zero,fun hlt=>?_⟩
   obtain ⟨b',o,cc,ty,f1,f2,f3,f4,f5⟩:=e3.spare hlt
   refine ⟨b',o,cc,ty,f1,hrole b' _ f2 (by simp),f3,f4,fun j v hk=>f5 j v ?_⟩
   simp only [Gh.freeze] at hk
   rwa [if_neg (by rintro rfl;rw [hr] at f2;simp at f2)] at hk
def gq (ns:Names) (G G':Gh) (sh:Sh) (ks:List Nat):Prop:=
 ∀s∈ks,∀cells,sh[s]?=some (some cells)→db cells=false→∃b vs,G.sm s=some b∧At G'.K b.1 0 vs∧ae (num ns) G' cells vs
theorem qV {sh:Sh} {s:Nat} (h:∀cells,sh[s]?≠some (some cells)):sh.set s none=sh:=by
 apply List.ext_getElem?
 intro j
 rw [List.getElem?_set]
 split
 · rename_i e;subst e
   split
   · rename_i hlt
     cases hh:sh[s] with
     | none=>rw [List.getElem?_eq_getElem hlt,hh]
     | some cells=>exact absurd (by rw [List.getElem?_eq_getElem hlt,hh]) (h cells)
   · rename_i hge;rw [List.getElem?_eq_none (by omega)]
 · rfl
theorem Inv.drop {mem:List (Nat×List AV)} {sh:Sh} {aa:aq} {G:Gh} (hi:Inv (num ns) G w mem sh aa) (s:Nat):Inv (num ns) G w mem (sh.set s none) aa:=
 { hi with
   cr:=fun s' cells hs=>by
     rw [List.getElem?_set] at hs
     split at hs
     · split at hs<;>simp at hs
     · exact hi.cr s' cells hs
   cV:=fun s' b h=>by simpa using hi.cV s' b h }
theorem Inv.kill {mem:List (Nat×List AV)} {aa:aq}:∀(ks:List Nat) {sh:Sh} {G:Gh},Inv (num ns) G w mem sh aa →
   ∃G',Inv (num ns) G' w mem (kill sh ks) aa∧G.le G'∧bf G w G' w∧gq ns G G' sh ks∧G'.sm=G.sm
 | [],sh,G,hi=>⟨G,hi,G.le_refl,bf.refl G w,fun s h=>by simp at h,rfl⟩
 | s::ks,sh,G,hi=>by
   have hk:Go.Ab.kill sh (s::ks)=Go.Ab.kill (sh.set s none) ks:=rfl
   by_cases hs:∃cells,sh[s]?=some (some cells)
   · obtain ⟨cells,hs⟩:=hs
     obtain ⟨b,e1,e2,_⟩:=hi.cr s cells hs
     cases hmb:db cells with
     | true=>
       obtain ⟨G',h1,h2,h3,h4,h5⟩:=Inv.kill ks (hi.drop s)
       refine ⟨G',by rw [hk];exact h1,h2,h3,?_,h5⟩
       intro s' hs' cells' hc' hm'
       by_cases he:s'=s
       · subst he;rw [hs] at hc';cases hc';rw [hmb] at hm';cases hm'
       · simp only [List.mem_cons] at hs'
         exact h4 s' (hs'.resolve_left he) cells' (by rw [List.getElem?_set,if_neg (fun e=>he e.symm)];exact hc') hm'
     | false=>
     obtain ⟨hr,c,t,vs,suf,hh,_,hsp,hrel⟩:=e2.cells hmb
     obtain ⟨g1,g2,g3⟩:=hi.freeze (cells:=cells) hr hh
     obtain ⟨G',h1,h2,h3,h4,h5⟩:=Inv.kill ks g1
     refine ⟨G',by rw [hk];exact h1,Gh.le_trans g2 h2,g3.trans h3,?_,h5⟩
     intro s' hs' cells' hc' hm'
     by_cases he:s'=s
     · subst he
       rw [hs] at hc';cases hc'
       refine ⟨b,vs,e1,?_,ae.mono (Gh.le_trans g2 h2) hrel⟩
       intro j v hj
       apply h2.K
       simp only [Gh.freeze,if_true,Nat.zero_add]
       have:c.toList[j]?=some v:=by rw [hsp,List.getElem?_append_left (List.getElem?_eq_some_iff.1 hj).1];exact hj
       simpa using this
     · simp only [List.mem_cons] at hs'
       have:=h4 s' (hs'.resolve_left he) cells' (by rw [List.getElem?_set,if_neg (fun e=>he e.symm)];exact hc') hm'
       exact this
   · have hset:=qV (sh:=sh) (s:=s) (fun cells h=>hs ⟨cells,h⟩)
     obtain ⟨G',h1,h2,h3,h4,h5⟩:=Inv.kill ks hi
     refine ⟨G',by rw [hk,hset];exact h1,h2,h3,?_,h5⟩
     intro s' hs' cells' hc' hm'
     simp only [List.mem_cons] at hs'
     rcases hs' with rfl | hs'
     · exact absurd ⟨cells',hc'⟩ hs
     · exact h4 s' hs' cells' hc' hm'
theorem xn {cs:List AV} {ps:List PV} (h:fm cs=some ps):db cs=false:=by
 cases cs with
 | nil=>rfl
 | cons c cs=>cases c<;>first | rfl | simp [fm,ja] at h
theorem qW:∀{cs:List AV} {ps:List PV} {vs:List Value},fm cs=some ps→cs.all aH=true→ae (num ns) G cs vs→cx G.K ps vs
 | [],ps,vs,h,_,hr=>by simp [fm] at h;subst h;simp only [ae] at hr;simp [cx,hr]
 | c::cs,ps,vs,h,hl,hr=>by
   simp only [fm] at h
   simp only [List.all_cons,Bool.and_eq_true] at hl
   split at h
   · rename_i p ps' h1 h2
     simp at h;subst h
     simp only [ae] at hr
     obtain ⟨v,r,rfl,e1,e2⟩:=hr
     simp only [cx]
     exact ⟨v,r,rfl,(jF h1 e1).z3 (kq h1 hl.1),qW h2 hl.2 e2⟩
   · simp at h
theorem oo {K:aU} {b sz:Nat}:∀(n:Nat) {ps:List PV} {vs:List Value} {o:Nat},cx K ps vs→ps.length=n*sz→At K b o vs→Row K b o sz ((chunk sz n ps).map .agg)
 | 0,_,_,_,_,_,_=>by simp only [chunk,List.map_nil,Row]
 | n+1,ps,vs,o,hr,hl,ha=>by
   have hlv:=hr.length
   rw [Nat.add_mul] at hl
   simp only [chunk,List.map_cons,Row]
   refine ⟨⟨vs.take sz,by simp;omega,?_,?_⟩,oo n (cx.drop sz hr) (by simp;omega) ?_⟩
   · intro j v hj
     rw [List.getElem?_take] at hj
     split at hj
     · exact ha j v hj
     · simp at hj
   · simp only [R];exact ⟨trivial,cx.take sz hr⟩
   · intro j v hj
     rw [List.getElem?_drop] at hj
     have:=ha _ v hj
     rwa [←Nat.add_assoc] at this
theorem jJ {sz:Nat}:∀(n:Nat) (ps:List PV),(chunk sz n ps).length=n
 | 0,_=>rfl
 | n+1,ps=>by simp [chunk,jJ n]
theorem mz {K:aU} {b:Nat}:∀{ps:List PV} {vs:List Value} {o:Nat},cx K ps vs→At K b o vs→Row K b o 1 ps
 | [],_,_,_,_=>by simp only [Row]
 | p::ps,vs,o,hr,ha=>by
   simp only [cx] at hr
   obtain ⟨v,r,rfl,e1,e2⟩:=hr
   simp only [Row]
   refine ⟨⟨[v],rfl,?_,R.top e1⟩,mz e2 ?_⟩
   · intro j u hj
     cases j with
     | zero=>simp at hj;subst hj;exact ha 0 v rfl
     | succ j=>simp at hj
   · intro j u hj
     have:=ha (j+1) u (by simpa using hj)
     rwa [show o+(j+1)=o+1+j from by omega] at this
theorem z9 {l:List AV} (n:Nat) (h:l.all aH=true):(l.take n).all aH=true:=by
 rw [List.all_eq_true] at h ⊢
 exact fun x hx=>h x (List.mem_of_mem_take hx)
theorem jK {G':Gh} {sh:Sh} {ks:List Nat} {x:AV} {p:PV} {v:Value} (hle:G.le G') (hf:gq ns G G' sh ks) (hl:∀(s:Nat) (cells:List AV),sh[s]?=some (some cells)→cells.all aH=true)
   (ha:∀s∈dj x,s∈ks) (hx:∀cs,x≠.agg cs) (h:cD sh x=some p) (hr:ah (num ns) G x v):Rel G'.K p v:=by
 cases x with
 | aX s sz n ag=>
   simp only [cD] at h
   split at h
   · rename_i cells hc
     have key:∀ps els,fm (cells.take (n*sz))=some ps→db cells=false→n*sz≤cells.length→ey sz ag n ps=some els→Rel G'.K (.aE els) v:=by
       intro ps els h1 hmb hlen h2
       obtain ⟨b,vs,e1,e2,e3⟩:=hf s (ha s (by simp [dj])) cells hc hmb
       simp only [ah] at hr
       obtain ⟨b',cap,hb,rfl,_⟩:=hr
       rw [e1] at hb;cases hb
       have e3':ae (num ns) G' (cells.take (n*sz)) (vs.take (n*sz)):=e3.take _
       have e2':At G'.K b.1 0 (vs.take (n*sz)):=by
         intro j u hj
         rw [List.getElem?_take] at hj
         split at hj
         · exact e2 j u hj
         · simp at hj
       have hps:=qW h1 (z9 _ (hl s cells hc)) e3'
       have hpl:ps.length=n*sz:=by rw [←hps.length,e3'.length,List.length_take];omega
       unfold ey at h2
       split at h2
       · simp at h2;subst h2
         refine bu.2 ⟨_,_,_,rfl,by omega,by simp [jJ],.inr ⟨b.1,0,sz,rfl,oo n hps hpl e2'⟩⟩
       · simp only [Option.ite_none_right_eq_some,Option.some.injEq] at h2
         obtain ⟨rfl,rfl⟩:=h2
         exact bu.2 ⟨_,_,_,rfl,by omega,by omega,.inr ⟨b.1,0,1,rfl,mz hps e2'⟩⟩
     split at h
     · rename_i hlen
       simp only [Option.map_eq_some_iff,Option.bind_eq_some_iff] at h
       obtain ⟨els,⟨ps,h1,h2⟩,rfl⟩:=h
       exact key ps els (by rw [List.take_of_length_le (by omega)];exact h1) (xn h1) (by omega) h2
     · simp only [Option.ite_none_right_eq_some,Option.map_eq_some_iff,Option.bind_eq_some_iff] at h
       obtain ⟨⟨hmb,hlen⟩,els,⟨ps,h1,h2⟩,rfl⟩:=h
       exact key ps els h1 hmb hlen h2
   · simp at h
 | agg cs=>exact absurd rfl (hx cs)
 | _=>simp only [cD] at h;exact (jF h hr).mono hle.K
theorem nL {sh:Sh} {x:AV} {p:PV} (h:cD sh x=some p) (hl:aH x=true):er p=true:=by
 cases x with
 | aX s sz n ag=>
   simp only [cD] at h
   split at h
   · split at h
     · simp only [Option.map_eq_some_iff] at h
       obtain ⟨els,_,rfl⟩:=h
       rfl
     · simp only [Option.ite_none_right_eq_some,Option.map_eq_some_iff] at h
       obtain ⟨_,els,_,rfl⟩:=h
       rfl
   · simp at h
 | _=>simp only [cD] at h;exact kq h hl
theorem pz {x:AV} (h:aH x=true):∀cs,x≠.agg cs:=by
 rintro cs rfl;simp [aH] at h
theorem gW {G':Gh} {sh:Sh} {ks:List Nat} (hle:G.le G') (hf:gq ns G G' sh ks) (hl:∀(s:Nat) (cells:List AV),sh[s]?=some (some cells)→cells.all aH=true) :
   ∀{cs:List AV} {ps:List PV} {vs:List Value},(∀s∈dj (.agg cs),s∈ks)→cU sh cs=some ps→ae (num ns) G cs vs→cx G'.K ps vs
 | [],ps,vs,_,h,hr=>by simp [cU] at h;subst h;simp only [ae] at hr;simp [cx,hr]
 | c::cs,ps,vs,ha,h,hr=>by
   simp only [cU,Option.ite_none_right_eq_some] at h
   obtain ⟨hlf,h⟩:=h
   split at h
   · rename_i p ps' h1 h2
     simp at h;subst h
     simp only [ae] at hr
     obtain ⟨v,r,rfl,e1,e2⟩:=hr
     simp only [cx]
     refine ⟨v,r,rfl,(jK hle hf hl ?_ (pz hlf) h1 e1).z3 (nL h1 hlf),gW hle hf hl ?_ h2 e2⟩
     · intro s hs
       refine ha s ?_
       simp only [dj,List.flatMap_cons,List.mem_append]
       left
       cases c<;>simp_all [dj,aH]
     · intro s hs
       refine ha s ?_
       simp only [dj,List.flatMap_cons,List.mem_append] at hs ⊢
       exact .inr hs
   · simp at h
theorem mA {G':Gh} {sh:Sh} {ks:List Nat} (hle:G.le G') (hf:gq ns G G' sh ks) (hl:∀(s:Nat) (cells:List AV),sh[s]?=some (some cells)→cells.all aH=true)
   {x:AV} {p:PV} {v:Value} (ha:∀s∈dj x,s∈ks) (h:eo sh x=some p) (hr:ah (num ns) G x v):Rel G'.K p v:=by
 by_cases hx:∃cs,x=.agg cs
 · obtain ⟨cs,rfl⟩:=hx
   simp only [eo,Option.map_eq_some_iff] at h
   obtain ⟨ps,h1,rfl⟩:=h
   simp only [ah] at hr
   obtain ⟨vs,rfl,hr⟩:=hr
   simp only [Rel]
   exact ⟨vs,rfl,gW hle hf hl ha h1 hr⟩
 · have hx':∀cs,x≠.agg cs:=fun cs e=>hx ⟨cs,e⟩
   have:eo sh x=cD sh x:=by cases x<;>first | rfl | exact absurd rfl (hx' _)
   rw [this] at h
   exact jK hle hf hl ha hx' h hr
theorem lq {G':Gh} {sh:Sh} {ks:List Nat} (hle:G.le G') (hf:gq ns G G' sh ks) (hl:∀(s:Nat) (cells:List AV),sh[s]?=some (some cells)→cells.all aH=true) :
   ∀{xs:List AV} {ps:List PV} {vs:List Value},(∀s∈xs.flatMap dj,s∈ks)→bY sh xs=some ps→ae (num ns) G xs vs→fW G'.K ps vs
 | [],ps,vs,_,h,hr=>by simp [bY] at h;subst h;simp only [ae] at hr;exact hr
 | c::cs,ps,vs,ha,h,hr=>by
   simp only [bY] at h
   split at h
   · rename_i p ps' h1 h2
     simp at h;subst h
     simp only [ae] at hr
     obtain ⟨v,r,rfl,e1,e2⟩:=hr
     simp only [List.flatMap_cons,List.mem_append] at ha
     exact ⟨v,r,rfl,mA hle hf hl (fun s hs=>ha s (.inl hs)) h1 e1,lq hle hf hl (fun s hs=>ha s (.inr hs)) h2 e2⟩
   · simp at h
theorem Inv.mB {mem:List (Nat×List AV)} {sh:Sh} {aa:aq} (hi:Inv (num ns) G w mem sh aa):∀(s:Nat) (cells:List AV),sh[s]?=some (some cells)→cells.all aH=true:=by
 intro s cells hs
 obtain ⟨b,_,_,e3,_⟩:=hi.cr s cells hs
 exact e7 e3
end
end Go.Ab
namespace Go.Ab
section
variable {ns:Names} {G:Gh} {w:World}
mutual
theorem ff {ρ:bh} {G':Gh} (hK:G.K.le G'.K) (hs:∀s b,G.sm s=some b→G'.sm s=some b):∀{x:AV} {v:Value},bj x=true→ah ρ G x v→ah ρ G' x v
 | .pv p,_,_,h=>by simp only [ah] at h ⊢;exact h.mono hK
 | .un,_,_,h=>by simpa only [ah] using h
 | .cI _,_,_,h=>by simp only [ah] at h ⊢;obtain ⟨b,l,e,r⟩:=h;exact ⟨b,l,e,r.mono hK⟩
 | .aJ s o,_,_,h=>by simp only [ah] at h ⊢;obtain ⟨b,e,r⟩:=h;exact ⟨b,hs _ _ e,r⟩
 | .aX s _ n _,_,_,h=>by simp only [ah] at h ⊢;obtain ⟨b,c,e,r⟩:=h;exact ⟨b,c,hs _ _ e,r⟩
 | .ek _,_,_,h=>by simp only [ah] at h ⊢;obtain ⟨b,o,vs,e,f,r⟩:=h;exact ⟨b,o,vs,e,f.mono hK,cx.mono hK _ _ r⟩
 | .gz,_,_,h=>by simpa only [ah] using h
 | .gA s,_,_,h=>by simp only [ah] at h ⊢;obtain ⟨b,e,r⟩:=h;exact ⟨b,hs _ _ e,r⟩
 | .lN s _ _,_,_,h=>by simp only [ah] at h ⊢;obtain ⟨b,x,c,e,r⟩:=h;exact ⟨b,x,c,hs _ _ e,r⟩
 | .dT _,_,_,h=>by simp only [ah] at h
 | .fn g cap,_,hp,h=>by
   simp only [bj] at hp
   simp only [ah] at h ⊢
   obtain ⟨f,vs,e1,e2,r⟩:=h
   exact ⟨f,vs,e1,e2,iP hK hs hp r⟩
 | .agg cs,_,hp,h=>by
   simp only [bj] at hp
   simp only [ah] at h ⊢
   obtain ⟨vs,e,r⟩:=h
   exact ⟨vs,e,iP hK hs hp r⟩
 | .kP cs,_,hp,h=>by
   simp only [bj] at hp
   simp only [ah] at h ⊢
   obtain ⟨vs,e,r⟩:=h
   exact ⟨vs,e,iP hK hs hp r⟩
 | .own _ _,_,hp,_=>by simp [bj] at hp
 | .aN _ _,_,hp,_=>by simp [bj] at hp
 | .gB _ _,_,hp,_=>by simp [bj] at hp
theorem iP {ρ:bh} {G':Gh} (hK:G.K.le G'.K) (hs:∀s b,G.sm s=some b→G'.sm s=some b):∀{xs:List AV} {vs:List Value},bj.d5 xs=true→ae ρ G xs vs→ae ρ G' xs vs
 | [],_,_,h=>by simpa only [ae] using h
 | x::xs,_,hp,h=>by
   simp only [bj.d5,Bool.and_eq_true] at hp
   simp only [ae] at h ⊢
   obtain ⟨v,r,e,e1,e2⟩:=h
   exact ⟨v,r,e,ff hK hs hp.1 e1,iP hK hs hp.2 e2⟩
end
mutual
theorem gX:∀{x:AV},bm x=true→bj x=true
 | .pv _,_=>rfl
 | .aJ ..,_=>rfl
 | .aX ..,_=>rfl
 | .gz,_=>rfl
 | .gA _,_=>rfl
 | .dT _,_=>rfl
 | .lN ..,h=>by simp [bm] at h
 | .fn _ cap,h=>by simp only [bm] at h;simp only [bj];exact jf h
 | .un,h=>by simp [bm] at h
 | .cI _,h=>by simp [bj]
 | .own _ _,h=>by simp [bm] at h
 | .agg _,h=>by simp only [bm] at h;simp only [bj];exact jf h
 | .kP _,h=>by simp [bm] at h
 | .aN _ _,h=>by simp [bm] at h
 | .gB _ _,h=>by simp [bm] at h
 | .ek _,h=>by simp [bm] at h
theorem jf:∀{xs:List AV},bm.gC xs=true→bj.d5 xs=true
 | [],_=>rfl
 | x::xs,h=>by
   simp only [bm.gC,Bool.and_eq_true] at h
   simp only [bj.d5,Bool.and_eq_true]
   exact ⟨gX h.1,jf h.2⟩
end
theorem oq {ρ:bh} {G':Gh} (hK:G.K.le G'.K) (hs:∀s b,G.sm s=some b→G'.sm s=some b) (ht:∀τ t,G.tk τ=some t→G'.tk τ=some t) {x:AV} {v:Value} (hf:fY x=true) (h:ah ρ G x v):ah ρ G' x v:=by
 cases x with
 | own l τ=>
   simp only [ah] at h ⊢
   obtain ⟨t,e1,e2,e3,e4⟩:=h
   exact ⟨t,ht _ _ e1,e2,e3.mono hK,fun hl=>⟨(e4 hl).1,Ct (e4 hl).2 fun ⟨b,o,e,r⟩=>⟨b,o,e,Row.mono hK _ _ _ _ r⟩⟩⟩
 | _=>exact ff hK hs (by simpa [fY] using hf) h
theorem fF {ρ:bh} {G':Gh} (hK:G.K.le G'.K) (hs:∀s b,G.sm s=some b→G'.sm s=some b) (ht:∀τ t,G.tk τ=some t→G'.tk τ=some t):∀{xs:List AV} {vs:List Value},dN xs=true→ae ρ G xs vs→ae ρ G' xs vs
 | [],_,_,h=>by simpa only [ae] using h
 | x::xs,_,hp,h=>by
   simp only [dN,Bool.and_eq_true] at hp
   simp only [ae] at h ⊢
   obtain ⟨v,r,e,e1,e2⟩:=h
   exact ⟨v,r,e,oq hK hs ht hp.1 e1,fF hK hs ht hp.2 e2⟩
theorem jg {x:AV} (h:aH x=true):bj x=true∨∃l τ,x=.own l τ:=by
 cases x with
 | own l τ=>exact .inr ⟨l,τ,rfl⟩
 | fn g cap=>exact .inl (gX (by simpa [aH] using h))
 | pv p=>exact .inl rfl
 | cI _=>exact .inl rfl
 | aJ _ _=>exact .inl rfl
 | aX _ _ _ _=>exact .inl rfl
 | gz=>exact .inl rfl
 | gA _=>exact .inl rfl
 | dT _=>exact .inl rfl
 | _=>simp [aH] at h
theorem cv {live:List Nat} {env:List (Nat×AV)}:∀{l:List Nat} {t:Nat} {v:AV},look (aZ live env l) t=some v→look env t=some v∧cK live v=true∧t∈l
 | [],t,v,h=>by simp [aZ,look] at h
 | s::l,t,v,h=>by
   simp only [aZ] at h
   split at h
   · rename_i u hu
     split at h
     · rename_i hk
       simp only [look] at h
       split at h
       · rename_i e;subst e;cases h;exact ⟨hu,hk,by simp⟩
       · obtain ⟨h1,h2,h3⟩:=cv h;exact ⟨h1,h2,by simp [h3]⟩
     · obtain ⟨h1,h2,h3⟩:=cv h;exact ⟨h1,h2,by simp [h3]⟩
   · obtain ⟨h1,h2,h3⟩:=cv h;exact ⟨h1,h2,by simp [h3]⟩
theorem cw {mem:List (Nat×List AV)}:∀{l:List Nat} {t:Nat},look (a8 mem l) t=if t∈l then look mem t else none
 | [],t=>by simp [a8,look]
 | s::l,t=>by
   simp only [a8]
   by_cases nI:s=t
   · subst nI
     cases hm:look mem s with
     | none=>simp only [hm];rw [cw,hm];simp
     | some v=>simp [look]
   · have hts:t≠s:=fun e=>nI e.symm
     cases hm:look mem s with
     | none=>simp only [hm];rw [cw];simp [hts]
     | some v=>simp only [look,nI,if_false];rw [cw];simp [hts]
def Gh.aF (G:Gh) (live:List Nat):Gh:={ G with pm:=fun d=>if d∈live then G.pm d else none }
theorem qX {ρ:bh} {live:List Nat} {x:AV} {v:Value} (hk:cK live x=true) (h:ah ρ G x v):ah ρ (G.aF live) x v:=by
 have flat:bj x=true→ah ρ (G.aF live) x v:=fun hf=>ff (G:=G) (G':=G.aF live) (aU.le_refl G.K) (fun _ _ h=>h) hf h
 cases x with
 | aN d o=>
   simp only [ah] at h ⊢
   obtain ⟨b,e,r⟩:=h
   simp [cK] at hk
   exact ⟨b,by simp [Gh.aF,hk,e],r⟩
 | gB d o=>
   simp only [ah] at h ⊢
   obtain ⟨b,e,r⟩:=h
   simp [cK] at hk
   exact ⟨b,by simp [Gh.aF,hk,e],r⟩
 | own l τ=>
   simp only [ah] at h ⊢
   exact h
 | agg cs=>
   simp only [ah] at h ⊢
   obtain ⟨vs,e,r⟩:=h
   exact ⟨vs,e,fF (G:=G) (G':=G.aF live) (aU.le_refl G.K) (fun _ _ h=>h) (fun _ _ h=>h) (by simpa [cK] using hk) r⟩
 | _=>exact flat (by simpa [cK] using hk)
theorem xo {ρ:bh} {live:List Nat} {x:AV} {v:Value} (hl:aH x=true) (h:ah ρ G x v):ah ρ (G.aF live) x v:=by
 rcases jg hl with hf | ⟨l,τ,rfl⟩
 · exact ff (G:=G) (G':=G.aF live) (aU.le_refl G.K) (fun _ _ h=>h) hf h
 · simp only [ah] at h ⊢;exact h
theorem iz {ρ:bh} {live:List Nat}:∀{xs:List AV} {vs:List Value},xs.all aH=true→ae ρ G xs vs→ae ρ (G.aF live) xs vs
 | [],_,_,h=>by simpa only [ae] using h
 | x::xs,_,hl,h=>by
   simp only [List.all_cons,Bool.and_eq_true] at hl
   simp only [ae] at h ⊢
   obtain ⟨v,r,e,e1,e2⟩:=h
   exact ⟨v,r,e,xo hl.1 e1,iz hl.2 e2⟩
theorem Inv.aF {mem:List (Nat×List AV)} {sh:Sh} {aa:aq} (hi:Inv (num ns) G w mem sh aa) (live:List Nat):Inv (num ns) (G.aF live) w (a8 mem live) sh aa where
 known:=hi.known
 aI:=hi.aI
 fresh:=hi.fresh
 bT:=fun d cells hd=>by
   rw [cw] at hd
   split at hd
   · rename_i hl
     obtain ⟨b,e1,e2,e3⟩:=hi.bT d cells hd
     obtain ⟨hr,c,t,hh,hrel⟩:=e2
     exact ⟨b,by simp [Gh.aF,hl,e1],⟨hr,c,t,hh,iz e3 hrel⟩,e3⟩
   · simp at hd
 ep:=fun d b hd=>by
   simp only [Gh.aF] at hd
   split at hd
   · rename_i hl;rw [cw,if_pos hl];exact hi.ep d b hd
   · simp at hd
 cr:=fun s cells hs=>by
   obtain ⟨b,e1,e2,e3,e4⟩:=hi.cr s cells hs
   obtain ⟨hr,o,hh,hrel⟩:=e2
   exact ⟨b,e1,⟨hr,o,hh,hrel.to (fun _ _ _ h=>h) (fun _ e=>e) (fun _ r=>iz (e7 e3) r)⟩,e3,e4⟩
 cV:=hi.cV
 cq:=fun τ n hn=>by
   obtain ⟨t,e1,e2,e3⟩:=hi.cq τ n hn
   exact ⟨t,e1,e2,e3.cap,e3.zero,e3.spare⟩
 dy:=hi.dy
 i3:=hi.i3
theorem bf.aF (live:List Nat):bf G w (G.aF live) w:=
 { size:=Nat.le_refl _,os:=rfl,tape:=rfl,output:=rfl,K:=aU.le_refl G.K,sm:=fun _ _ h=>h,cS:=fun _ _ h=>⟨h,rfl⟩,eS:=fun _ τ _ h=>.inr ⟨τ,h⟩,d_:=fun _ _ _ _ _ h=>h }
theorem eG.restrict {n0 N:Nat} {st:St} {a:Act} (h:eG (num ns) n0 N G st a w) (live:List Nat):eG (num ns) n0 N (G.aF live) (restrict live st) a w:=
 ⟨⟨h.env.size,fun t x hx=>by
   obtain ⟨h1,h2,_⟩:=cv hx
   obtain ⟨v,h3,h4⟩:=h.env.env t x h1
   exact ⟨v,h3,qX h2 h4⟩⟩,h.inv.aF live,h.marks.tg (bf.aF live) rfl⟩
end
end Go.Ab
namespace Go.Ab
section
variable {ns:Names} {G:Gh} {w:World}
structure NS (G:Gh) (aC ts:aq) (m:Nat→Option Nat) (tks:List Tk):Prop where
 ts:ts=tks.map (·.len)
 map:∀τ k,m τ=some k→∃t,G.tk τ=some t∧tks[k]?=some t
 inj:∀τ σ k,m τ=some k→m σ=some k→τ=σ
 free:∀τ t,G.tk τ=some t→m τ=none→aC[τ]?=some t.len
 used:∀τ t k,G.tk τ=some t→m τ=some k→aC[τ]?=some (t.len+1)
 cap:∀k t,tks[k]?=some t→(∃τ,m τ=some k)∨(t.cap=t.len∧t.own=false)
def Gh.il (G:Gh) (m:Nat→Option Nat) (tks:List Tk):Gh:=
 { G with tk:=fun k=>tks[k]?,role:=fun b=>match G.role b with | .tok τ=>(match m τ with | some k=>.tok k | none=>.cS) | r=>r }
theorem Ek {m m':Nat→Option Nat} {tks ext:List Tk}:(G.il m tks).le (G.il m' (tks++ext)) where
 K:=aU.le_refl G.K
 pm:=fun _ _ h=>h
 sm:=fun _ _ h=>h
 tk:=fun k t h=>⟨t,by
   simp only [Gh.il] at h ⊢
   rw [List.getElem?_append_left (List.getElem?_eq_some_iff.1 h).1];exact h,⟨Nat.le_refl _,Tk.d9 _⟩,fun _=>rfl⟩
theorem qY {ρ:bh} {m:Nat→Option Nat} {tks:List Tk} {x:AV} {v:Value} (hf:bj x=true) (h:ah ρ G x v):ah ρ (G.il m tks) x v:=
 ff (G:=G) (G':=G.il m tks) (aU.le_refl G.K) (fun _ _ h=>h) hf h
theorem gY {m:Nat→Option Nat} {tks:List Tk} {b τ:Nat} (h:G.role b=.tok τ):(G.il m tks).role b=match m τ with | some k=>.tok k | none=>.cS:=by
 show (match G.role b with | .tok τ=>(match m τ with | some k=>iu.tok k | none=>.cS) | r=>r)=_
 rw [h]
def ia:AV→Bool
 | .aN .. | .gB .. | .own ..=>true
 | .agg cs=>dN cs
 | v=>bj v
structure xq (ns:Names) (G:Gh) (m:Nat→Option Nat) (tks:List Tk) (old' ts':aq) (m':Nat→Option Nat) (tks':List Tk):Prop where
 qZ:NS G old' ts' m' tks'
 ext:∃ext,tks'=tks++ext
theorem xq.le {m m':Nat→Option Nat} {tks tks':List Tk} {old' ts':aq} (h:xq ns G m tks old' ts' m' tks'):(G.il m tks).le (G.il m' tks'):=by
 obtain ⟨ext,e⟩:=h.ext
 subst e
 exact Ek
theorem lr {aC ts:aq} {m:Nat→Option Nat} {tks:List Tk} (hN:NS G aC ts m tks) {x:AV} {v:Value} (hx:fY x=true) (h:ah (num ns) G x v) :
   ∃m' tks',xq ns G m tks (cM aC ts x).2.1 (cM aC ts x).2.2 m' tks'∧ah (num ns) (G.il m' tks') (cM aC ts x).1 v:=by
 have flat:bj x=true→cM aC ts x=(x,aC,ts)→∃m' tks',xq ns G m tks (cM aC ts x).2.1 (cM aC ts x).2.2 m' tks'∧ah (num ns) (G.il m' tks') (cM aC ts x).1 v:=by
   intro hf e
   rw [e]
   exact ⟨m,tks,⟨hN,[],by simp⟩,qY hf h⟩
 cases x with
 | own l τ=>
   simp only [ah] at h
   obtain ⟨t,e1,e2,e3,e4⟩:=h
   simp only [cM]
   split
   · rename_i ho
     have hm:m τ=none:=by
       cases hm:m τ with
       | none=>rfl
       | some k=>
         have:=hN.used τ t k e1 hm
         rw [ho] at this
         simp at this
         omega
     have hlen:l.length=t.len:=by
       have:=hN.free τ t e1 hm
       rw [ho] at this
       simpa using this
     have hk:ts.length=tks.length:=by rw [hN.ts];simp
     refine ⟨fun σ=>if σ=τ then some tks.length else m σ,tks++[t],⟨⟨?_,?_,?_,?_,?_,?_⟩,[t],rfl⟩,?_⟩
     · rw [hN.ts,hlen];simp
     · intro σ k hk'
       split at hk'
       · rename_i e;subst e;simp at hk';subst hk';exact ⟨t,e1,by simp⟩
       · obtain ⟨t',g1,g2⟩:=hN.map σ k hk'
         exact ⟨t',g1,by rw [List.getElem?_append_left (List.getElem?_eq_some_iff.1 g2).1];exact g2⟩
     · intro σ σ' k h1 h2
       split at h1
       · rename_i e;subst e
         split at h2
         · rename_i e';exact e'.symm
         · simp at h1;subst h1
           obtain ⟨t',_,g2⟩:=hN.map σ' _ h2
           have:=(List.getElem?_eq_some_iff.1 g2).1
           omega
       · split at h2
         · rename_i e';subst e'
           simp at h2;subst h2
           obtain ⟨t',_,g2⟩:=hN.map σ _ h1
           have:=(List.getElem?_eq_some_iff.1 g2).1
           omega
         · exact hN.inj σ σ' k h1 h2
     · intro σ t' h1 h2
       split at h2
       · simp at h2
       · rename_i e
         rw [List.getElem?_set,if_neg (fun e'=>e e'.symm)]
         exact hN.free σ t' h1 h2
     · intro σ t' k h1 h2
       split at h2
       · rename_i e;subst e
         rw [e1] at h1;cases h1
         rw [List.getElem?_set,if_pos rfl,if_pos (List.getElem?_eq_some_iff.1 ho).1,hlen]
       · rename_i e
         rw [List.getElem?_set,if_neg (fun e'=>e e'.symm)]
         exact hN.used σ t' k h1 h2
     · intro k t' hk'
       rw [List.getElem?_append] at hk'
       split at hk'
       · rcases hN.cap k t' hk' with ⟨σ,hσ⟩ | hc
         · left
           refine ⟨σ,?_⟩
           rw [if_neg]
           · exact hσ
           · rintro rfl;rw [hm] at hσ;simp at hσ
         · exact .inr hc
       · rename_i hge
         left
         refine ⟨τ,?_⟩
         have:k=tks.length:=by
           have:=(List.getElem?_eq_some_iff.1 hk').1
           simp at this;omega
         simp [this]
     · simp only [ah]
       refine ⟨t,by simp [Gh.il,hk],⟨by omega,e2.2⟩,e3,fun _=>e4 hlen⟩
   · exact ⟨m,tks,⟨hN,[],by simp⟩,by simp only [ah];exact e3⟩
 | _=>exact flat (by simpa [fY] using hx) rfl
theorem jL:∀{xs:List AV} {vs:List Value} {aC ts:aq} {m:Nat→Option Nat} {tks:List Tk},NS G aC ts m tks→dN xs=true→ae (num ns) G xs vs →
   ∃m' tks',xq ns G m tks (bH aC ts xs).2.1 (bH aC ts xs).2.2 m' tks'∧ae (num ns) (G.il m' tks') (bH aC ts xs).1 vs
 | [],vs,aC,ts,m,tks,hN,_,h=>⟨m,tks,⟨hN,[],by simp⟩,by simpa only [bH,ae] using h⟩
 | x::xs,vs,aC,ts,m,tks,hN,hl,h=>by
   simp only [dN,Bool.and_eq_true] at hl
   simp only [ae] at h
   obtain ⟨v,r,e,e1,e2⟩:=h
   subst e
   obtain ⟨m1,t1,g1,g2⟩:=lr hN hl.1 e1
   obtain ⟨m2,t2,k1,k2⟩:=jL g1.qZ hl.2 e2
   refine ⟨m2,t2,⟨k1.qZ,?_⟩,?_⟩
   · obtain ⟨a,ha⟩:=g1.ext
     obtain ⟨b,hb⟩:=k1.ext
     exact ⟨a++b,by rw [hb,ha,List.append_assoc]⟩
   · simp only [bH,ae]
     exact ⟨v,r,rfl,g2.mono k1.le,k2⟩
theorem iA {aC ts:aq} {m:Nat→Option Nat} {tks:List Tk} (hN:NS G aC ts m tks) {x:AV} {v:Value} (hx:ia x=true) (h:ah (num ns) G x v) :
   ∃m' tks',xq ns G m tks (a7 aC ts x).2.1 (a7 aC ts x).2.2 m' tks'∧ah (num ns) (G.il m' tks') (a7 aC ts x).1 v:=by
 have flat:bj x=true→a7 aC ts x=(x,aC,ts)→∃m' tks',xq ns G m tks (a7 aC ts x).2.1 (a7 aC ts x).2.2 m' tks'∧ah (num ns) (G.il m' tks') (a7 aC ts x).1 v:=by
   intro hf e
   rw [e]
   exact ⟨m,tks,⟨hN,[],by simp⟩,qY hf h⟩
 cases x with
 | own l τ=>exact lr (x:=.own l τ) hN rfl h
 | cI l=>
   simp only [ah] at h
   obtain ⟨base,len,rfl,hsl⟩:=h
   have hk:ts.length=tks.length:=by rw [hN.ts];simp
   have hlen:=hsl.1
   obtain ⟨sz,hrow⟩:∃sz,l=[]∨∃b o,base=some ⟨b,o,none⟩∧Row G.K b o sz l:=by
     rcases hsl.2 with h1 | ⟨b,o,sz,e,hr⟩
     · exact ⟨0,.inl h1⟩
     · exact ⟨sz,.inr ⟨b,o,e,hr⟩⟩
   let t:Tk:=⟨base,len,len,sz,false⟩
   refine ⟨m,tks++[t],⟨⟨?_,?_,hN.inj,hN.free,hN.used,?_⟩,[t],rfl⟩,?_⟩
   · simp only [a7];rw [hN.ts];simp [t,hlen]
   · intro σ k hk'
     obtain ⟨t',g1,g2⟩:=hN.map σ k hk'
     exact ⟨t',g1,by rw [List.getElem?_append_left (List.getElem?_eq_some_iff.1 g2).1];exact g2⟩
   · intro k t' hk'
     rw [List.getElem?_append] at hk'
     split at hk'
     · exact hN.cap k t' hk'
     · right
       have:t'=t:=by
         have h1:=List.mem_of_getElem? hk'
         simpa using h1
       rw [this];exact ⟨rfl,rfl⟩
   · simp only [a7,ah]
     refine ⟨t,by simp [Gh.il,hk],⟨by simp [t,hlen],t.lX⟩,bu.2 ⟨_,_,_,rfl,Nat.le_refl _,hsl⟩,fun _=>⟨rfl,hrow⟩⟩
 | aN d o=>
   simp only [a7]
   exact ⟨m,tks,⟨hN,[],by simp⟩,by simp only [ah] at h ⊢;exact h⟩
 | gB d o=>
   simp only [a7]
   exact ⟨m,tks,⟨hN,[],by simp⟩,by simp only [ah] at h ⊢;exact h⟩
 | pv p=>exact flat rfl rfl
 | un=>exact flat rfl rfl
 | aJ _ _=>exact flat rfl rfl
 | aX _ _ _ _=>exact flat rfl rfl
 | ek _=>exact flat rfl rfl
 | gz=>exact flat rfl rfl
 | fn _ _=>exact flat (by simpa [ia] using hx) rfl
 | agg cs=>
   by_cases hf:bj.d5 cs=true
   · exact flat (by simpa [bj] using hf) (by simp only [a7];rw [if_pos hf])
   · simp only [ah] at h
     obtain ⟨vs,rfl,r⟩:=h
     obtain ⟨m',tks',g1,g2⟩:=jL hN (by simpa [ia] using hx) r
     have e:a7 aC ts (.agg cs)=(.agg (bH aC ts cs).1,(bH aC ts cs).2.1,(bH aC ts cs).2.2):=by simp only [a7];rw [if_neg hf]
     rw [e]
     exact ⟨m',tks',g1,by simp only [ah];exact ⟨vs,rfl,g2⟩⟩
 | kP _=>exact flat (by simpa [ia] using hx) rfl
 | gA _=>exact flat rfl rfl
 | lN _ _ _=>exact flat rfl rfl
 | dT _=>simp only [ah] at h
theorem tu {x:AV} (h:aH x=true):ia x=true:=by
 rcases jg h with hf | ⟨l,τ,rfl⟩
 · cases x<;>simp_all [ia,bj,aH]
 · rfl
theorem tv {aC ts:aq} {x:AV} (h:aH x=true):aH (a7 aC ts x).1=true:=by
 cases x with
 | own l τ=>simp only [a7];split<;>rfl
 | cI l=>rfl
 | agg _=>simp [aH] at h
 | _=>exact h
theorem iB:∀{xs:List AV} {vs:List Value} {aC ts:aq} {m:Nat→Option Nat} {tks:List Tk},NS G aC ts m tks→xs.all aH=true→ae (num ns) G xs vs →
   ∃m' tks',xq ns G m tks (aS aC ts xs).2.1 (aS aC ts xs).2.2 m' tks'∧ae (num ns) (G.il m' tks') (aS aC ts xs).1 vs∧(aS aC ts xs).1.all aH=true
 | [],vs,aC,ts,m,tks,hN,_,h=>⟨m,tks,⟨hN,[],by simp⟩,by simpa only [aS,ae] using h,rfl⟩
 | x::xs,vs,aC,ts,m,tks,hN,hl,h=>by
   simp only [List.all_cons,Bool.and_eq_true] at hl
   simp only [ae] at h
   obtain ⟨v,r,e,e1,e2⟩:=h
   subst e
   obtain ⟨m1,t1,g1,g2⟩:=iA hN (tu hl.1) e1
   obtain ⟨m2,t2,k1,k2,k3⟩:=iB g1.qZ hl.2 e2
   refine ⟨m2,t2,⟨k1.qZ,?_⟩,?_,?_⟩
   · obtain ⟨a,ha⟩:=g1.ext
     obtain ⟨b,hb⟩:=k1.ext
     exact ⟨a++b,by rw [hb,ha,List.append_assoc]⟩
   · simp only [aS,ae]
     exact ⟨v,r,rfl,g2.mono k1.le,k2⟩
   · simp only [aS,List.all_cons,k3,Bool.and_true]
     exact tv hl.1
theorem lx {a:Act}:∀{env:List (Nat×AV)} {aC ts:aq} {m:Nat→Option Nat} {tks:List Tk},NS G aC ts m tks →
   (∀p∈env,ia p.2=true∧∃v,a.tmps[p.1]?=some v∧ah (num ns) G p.2 v) →
   ∃m' tks',xq ns G m tks (cd aC ts env).2.1 (cd aC ts env).2.2 m' tks'∧∀p∈(cd aC ts env).1,∃v,a.tmps[p.1]?=some v∧ah (num ns) (G.il m' tks') p.2 v
 | [],aC,ts,m,tks,hN,_=>⟨m,tks,⟨hN,[],by simp⟩,by simp [cd]⟩
 | (t,x)::env,aC,ts,m,tks,hN,h=>by
   obtain ⟨hx,v,hv,hr⟩:=h (t,x) (by simp)
   obtain ⟨m1,t1,g1,g2⟩:=iA hN hx hr
   obtain ⟨m2,t2,k1,k2⟩:=lx (env:=env) (a:=a) g1.qZ (fun p hp=>h p (by simp [hp]))
   refine ⟨m2,t2,⟨k1.qZ,?_⟩,?_⟩
   · obtain ⟨a,ha⟩:=g1.ext
     obtain ⟨b,hb⟩:=k1.ext
     exact ⟨a++b,by rw [hb,ha,List.append_assoc]⟩
   · intro p hp
     simp only [cd,List.mem_cons] at hp
     rcases hp with rfl | hp
     · exact ⟨v,hv,g2.mono k1.le⟩
     · exact k2 p hp
def Em (ns:Names) (G:Gh) (w:World) (d:Nat) (cells:List AV) (G':Gh):Prop:=
 ∃b c t,G.pm d=some b∧G.role b=.ic d∧w.heap[b]?=some (.cells c t (0,0))∧ae (num ns) G' cells c.toList∧cells.all aH=true
theorem ly:∀{mem:List (Nat×List AV)} {aC ts:aq} {m:Nat→Option Nat} {tks:List Tk},NS G aC ts m tks →
   (∀p∈mem,Em ns G w p.1 p.2 G) →
   ∃m' tks',xq ns G m tks (dv aC ts mem).2.1 (dv aC ts mem).2.2 m' tks'∧∀p∈(dv aC ts mem).1,Em ns G w p.1 p.2 (G.il m' tks')
 | [],aC,ts,m,tks,hN,_=>⟨m,tks,⟨hN,[],by simp⟩,by simp [dv]⟩
 | (d,cells)::mem,aC,ts,m,tks,hN,h=>by
   obtain ⟨b,c,t,h1,h2,h3,h4,h5⟩:=h (d,cells) (by simp)
   obtain ⟨m1,t1,g1,g2,g3⟩:=iB hN h5 h4
   obtain ⟨m2,t2,k1,k2⟩:=ly (mem:=mem) g1.qZ (fun p hp=>h p (by simp [hp]))
   refine ⟨m2,t2,⟨k1.qZ,?_⟩,?_⟩
   · obtain ⟨a,ha⟩:=g1.ext
     obtain ⟨b,hb⟩:=k1.ext
     exact ⟨a++b,by rw [hb,ha,List.append_assoc]⟩
   · intro p hp
     simp only [dv,List.mem_cons] at hp
     rcases hp with rfl | hp
     · exact ⟨b,c,t,h1,h2,h3,ae.mono k1.le g2,g3⟩
     · exact k2 p hp
theorem tw {aC ts:aq} {n:Nat} {x:AV} (h:aw n x=true):aw n (cM aC ts x).1=true:=by
 unfold cM
 split
 · split<;>simp [aw]
 · exact h
theorem lz {n:Nat}:∀{xs:List AV} {aC ts:aq},aw.bG n xs=true→aw.bG n (bH aC ts xs).1=true
 | [],_,_,_=>rfl
 | x::xs,aC,ts,h=>by
   simp only [aw.bG,Bool.and_eq_true] at h
   simp only [bH,aw.bG,tw h.1,Bool.true_and]
   exact lz h.2
theorem tz {aC ts:aq} {n:Nat} {x:AV} (h:aw n x=true):aw n (a7 aC ts x).1=true:=by
 unfold a7
 split
 · split<;>simp [aw]
 · simp [aw]
 · split
   · exact h
   · simp only [aw] at h ⊢
     exact lz h
 · exact h
theorem mC {n:Nat}:∀{xs:List AV} {aC ts:aq},xs.all (aw n)=true→(aS aC ts xs).1.all (aw n)=true
 | [],_,_,_=>rfl
 | x::xs,aC,ts,h=>by
   simp only [List.all_cons,Bool.and_eq_true] at h
   simp only [aS,List.all_cons,tz h.1,Bool.true_and]
   exact mC h.2
theorem gi:∀{sh:Sh} {aC ts:aq} {m:Nat→Option Nat} {tks:List Tk} (R:Nat→Option (Obj×Nat)),NS G aC ts m tks →
   (∀s cells,sh[s]?=some (some cells)→cells.all aH=true∧∃o,R s=some o∧Holds (num ns) G o.1 o.2 cells) →
   ∃m' tks',xq ns G m tks (bt aC ts sh).2.1 (bt aC ts sh).2.2 m' tks'∧(bt aC ts sh).1.length=sh.length ∧
     ∀s cells',(bt aC ts sh).1[s]?=some (some cells')→∃cells,sh[s]?=some (some cells)∧(∃o,R s=some o∧Holds (num ns) (G.il m' tks') o.1 o.2 cells')∧cells'.all aH=true∧∀n,cells.all (aw n)=true→cells'.all (aw n)=true
 | [],aC,ts,m,tks,R,hN,_=>⟨m,tks,⟨hN,[],by simp⟩,rfl,fun s cells' h=>by simp [bt] at h⟩
 | none::sh,aC,ts,m,tks,R,hN,h=>by
   obtain ⟨m1,t1,g1,g2,g3⟩:=gi (sh:=sh) (fun s=>R (s+1)) hN (fun s cells hs=>h (s+1) cells (by simpa using hs))
   refine ⟨m1,t1,g1,by simp [bt,g2],fun s cells' hs=>?_⟩
   cases s with
   | zero=>simp [bt] at hs
   | succ s=>
     obtain ⟨cells,k1,k2⟩:=g3 s cells' (by simpa [bt] using hs)
     exact ⟨cells,by simpa using k1,k2⟩
 | some cs::sh,aC,ts,m,tks,R,hN,h=>by
   obtain ⟨hl,o,hR,hr⟩:=h 0 cs rfl
   obtain ⟨m1,t1,g1,g2,g3⟩:∃m' tks',xq ns G m tks (aS aC ts cs).2.1 (aS aC ts cs).2.2 m' tks'∧Holds (num ns) (G.il m' tks') o.1 o.2 (aS aC ts cs).1∧(aS aC ts cs).1.all aH=true:=by
     rcases hr with ⟨c,t,vs,suf,ho,e3,e4,hr⟩ | ⟨es,clock,kvs,ho,rfl,hm⟩
     · obtain ⟨m1,t1,g1,g2,g3⟩:=iB hN hl hr
       exact ⟨m1,t1,g1,.inl ⟨c,t,vs,suf,ho,e3,e4,g2⟩,g3⟩
     · exact ⟨m,tks,⟨hN,[],by simp⟩,.inr ⟨es,clock,kvs,ho,rfl,hm⟩,rfl⟩
   obtain ⟨m2,t2,k1,k2,k3⟩:=gi (sh:=sh) (fun s=>R (s+1)) g1.qZ (fun s cells hs=>h (s+1) cells (by simpa using hs))
   refine ⟨m2,t2,⟨k1.qZ,?_⟩,by simp [bt,k2],fun s cells' hs=>?_⟩
   · obtain ⟨a,ha⟩:=g1.ext
     obtain ⟨b,hb⟩:=k1.ext
     exact ⟨a++b,by rw [hb,ha,List.append_assoc]⟩
   · cases s with
     | zero=>
       simp only [bt,List.getElem?_cons_zero,Option.some.injEq] at hs
       subst hs
       exact ⟨cs,rfl,⟨o,hR,g2.mono k1.le⟩,g3,fun n hn=>mC hn⟩
     | succ s=>
       obtain ⟨cells,q1,q2⟩:=k3 s cells' (by simpa [bt] using hs)
       exact ⟨cells,by simpa using q1,q2⟩
def gZ (G:Gh) (w:World) (s:Nat):Option (Obj×Nat):=(G.sm s).bind fun b=>(w.heap[b.1]?).map fun o=>(o,b.2)
theorem Inv.gZ {mem:List (Nat×List AV)} {sh:Sh} {aa:aq} (hi:Inv (num ns) G w mem sh aa):∀s cells,sh[s]?=some (some cells)→cells.all aH=true∧∃o,Go.Ab.gZ G w s=some o∧Holds (num ns) G o.1 o.2 cells:=by
 intro s cells hs
 obtain ⟨b,e1,e2,e3,e4⟩:=hi.cr s cells hs
 obtain ⟨hr,o,hh,hrel⟩:=e2
 exact ⟨e3,(o,b.2),by simp [Go.Ab.gZ,e1,hh],hrel⟩
theorem Inv.DQ {mem:List (Nat×List AV)} {sh:Sh} {aa:aq} (hi:Inv (num ns) G w mem sh aa) {sh':Sh} {G':Gh} (hsm:∀s,G'.sm s=G.sm s) (hrole:∀b s,G.role b=.shr s→G'.role b=.shr s)
   (h:∀s cells',sh'[s]?=some (some cells')→∃cells,sh[s]?=some (some cells)∧(∃o,Go.Ab.gZ G w s=some o∧Holds (num ns) G' o.1 o.2 cells')∧cells'.all aH=true∧∀n,cells.all (aw n)=true→cells'.all (aw n)=true) :
   ∀s cells,sh'[s]?=some (some cells)→∃b,G'.sm s=some b∧o9 (num ns) G' w b (.shr s) cells∧cells.all cp=true∧cells.all (aw (s+1))=true:=by
 intro s cells' hs
 obtain ⟨cells,h1,⟨o,h2,h2'⟩,h3,h4⟩:=h s cells' hs
 obtain ⟨b,e1,e2,e3,e4⟩:=hi.cr s cells h1
 simp only [Go.Ab.gZ,e1,Option.bind_some,Option.map_eq_some_iff] at h2
 obtain ⟨o',h5,rfl⟩:=h2
 exact ⟨b,by rw [hsm];exact e1,⟨hrole b.1 s e2.role,o',h5,h2'⟩,h3,h4 _ e4⟩
theorem mD {α:Type}:∀{l:List (Nat×α)} {t:Nat} {x:α},look l t=some x→(t,x)∈l
 | [],_,_,h=>by simp [look] at h
 | (s,y)::l,t,x,h=>by
   simp only [look] at h
   split at h
   · rename_i e;subst e;cases h;simp
   · exact List.mem_cons_of_mem _ (mD h)
theorem mE:∀{mem:List (Nat×List AV)} {aC ts:aq} {d:Nat},(look mem d).isSome=true→(look (dv aC ts mem).1 d).isSome=true
 | [],_,_,d,h=>by simp [look] at h
 | (s,y)::mem,aC,ts,d,h=>by
   simp only [dv,look] at h ⊢
   split
   · rfl
   · rename_i hne
     rw [if_neg hne] at h
     exact mE h
theorem NS.start {mem:List (Nat×List AV)} {sh:Sh} {aa:aq} (hi:Inv (num ns) G w mem sh aa):NS G aa [] (fun _=>none) [] where
 ts:=rfl
 map:=by intro τ k h;simp at h
 inj:=by intro τ σ k h;simp at h
 free:=fun τ t h _=>hi.dy τ t h
 used:=by intro τ t k _ h;simp at h
 cap:=by intro k t h;simp at h
theorem dY {live:List Nat} {env:List (Nat×AV)}:∀{l:List Nat} {p:Nat×AV},p∈aZ live env l→look env p.1=some p.2∧cK live p.2=true
 | [],p,h=>by simp [aZ] at h
 | s::l,p,h=>by
   simp only [aZ] at h
   split at h
   · rename_i u hu
     split at h
     · rename_i hk
       simp only [List.mem_cons] at h
       rcases h with rfl | h
       · exact ⟨hu,hk⟩
       · exact dY h
     · exact dY h
   · exact dY h
theorem eU {mem:List (Nat×List AV)}:∀{l:List Nat} {p:Nat×List AV},p∈a8 mem l→look mem p.1=some p.2∧p.1∈l
 | [],p,h=>by simp [a8] at h
 | s::l,p,h=>by
   simp only [a8] at h
   split at h
   · rename_i u hu
     simp only [List.mem_cons] at h
     rcases h with rfl | h
     · exact ⟨hu,by simp⟩
     · obtain ⟨h1,h2⟩:=eU h;exact ⟨h1,by simp [h2]⟩
   · obtain ⟨h1,h2⟩:=eU h;exact ⟨h1,by simp [h2]⟩
theorem eG.head {n0 N:Nat} {st:St} {a:Act} (h:eG (num ns) n0 N G st a w) (live:List Nat):∃G',eG (num ns) n0 N G' (norm (Go.Ab.restrict live st)) a w∧bf G w G' w:=by
 have h0:=h.restrict live
 have hi:=h0.inv
 have hE:∀p∈(Go.Ab.restrict live st).env,ia p.2=true∧∃v,a.tmps[p.1]?=some v∧ah (num ns) (G.aF live) p.2 v:=by
   intro p hp
   obtain ⟨h1,h2⟩:=dY hp
   obtain ⟨v,h3,h4⟩:=h.env.env p.1 p.2 h1
   refine ⟨?_,v,h3,qX h2 h4⟩
   cases hpx:p.2<;>rw [hpx] at h2<;>simp_all [ia,cK,bj]
 have hM:∀p∈(Go.Ab.restrict live st).mem,Em ns (G.aF live) w p.1 p.2 (G.aF live):=by
   intro p hp
   obtain ⟨h1,h2⟩:=eU hp
   have h3:look (Go.Ab.restrict live st).mem p.1=some p.2:=by
     show look (a8 st.mem live) p.1=some p.2
     rw [cw,if_pos h2,h1]
   obtain ⟨b,e1,e2,e3⟩:=hi.bT p.1 p.2 h3
   obtain ⟨hr,c,t,hh,hrel⟩:=e2
   exact ⟨b,c,t,e1,hr,hh,hrel,e3⟩
 obtain ⟨m1,t1,g1,g2⟩:=lx (NS.start hi) hE
 obtain ⟨m3,t3,k1,k2⟩:=ly (w:=w) g1.qZ hM
 obtain ⟨m2,t2,q1,q2,q3⟩:=gi (gZ (G.aF live) w) k1.qZ hi.gZ
 have hN:=q1.qZ
 have hle3:=q1.le
 have hle:=Gh.le_trans k1.le q1.le
 have hrole:∀b r,(G.aF live).role b=r→(∀τ,r≠.tok τ)→((G.aF live).il m2 t2).role b=r:=by
   intro b r hr hn
   show (match (G.aF live).role b with | .tok τ=>(match m2 τ with | some k=>iu.tok k | none=>.cS) | r=>r)=r
   rw [hr]
   cases r with
   | tok τ=>exact absurd rfl (hn τ)
   | _=>rfl
 have hevo:bf G w ((G.aF live).il m2 t2) w:={
   size:=Nat.le_refl _,os:=rfl,tape:=rfl,output:=rfl,K:=aU.le_refl G.K,sm:=fun _ _ h=>h,
   cS:=fun b _ hr=>⟨hrole b _ hr (by simp),rfl⟩
   eS:=fun b τ _ hr=>by
     have hr':(G.aF live).role b=.tok τ:=hr
     rw [gY hr']
     cases m2 τ with
     | none=>exact .inl rfl
     | some k=>exact .inr ⟨k,rfl⟩
   d_:=fun _ _ _ _ _ h=>h }
 refine ⟨(G.aF live).il m2 t2,⟨⟨h.env.size,fun t x hx=>?_⟩,?_,h.marks.tg hevo rfl⟩,hevo⟩
 · obtain ⟨v,h1,h2⟩:=g2 (t,x) (mD hx)
   exact ⟨v,h1,h2.mono hle⟩
 · constructor
   · exact hi.known
   · intro b o v hk
     rcases hi.aI b o v hk with h1 | ⟨τ,h1⟩
     · exact .inl (hrole b _ h1 (by simp))
     · rw [gY h1]
       cases m2 τ with
       | none=>exact .inl rfl
       | some k=>exact .inr ⟨k,rfl⟩
   · intro b hb;exact hrole b _ (hi.fresh b hb) (by simp)
   · intro d cells hd
     obtain ⟨b,c,t,h1,h2,h3,h4,h5⟩:=k2 (d,cells) (mD hd)
     exact ⟨b,h1,⟨hrole b _ h2 (by simp),c,t,h3,ae.mono hle3 h4⟩,h5⟩
   · intro d b hd
     exact mE (hi.ep d b hd)
   · exact hi.DQ (G':=(G.aF live).il m2 t2) (fun _=>rfl) (fun b s hr=>hrole b _ hr (by simp)) q3
   · intro s b hs
     have:=hi.cV s b hs
     have e:(norm (Go.Ab.restrict live st)).sh.length=(Go.Ab.restrict live st).sh.length:=q2
     omega
   · intro k n hn
     have hts:(norm (Go.Ab.restrict live st)).aa=t2.map (·.len):=hN.ts
     rw [hts,List.getElem?_map,Option.map_eq_some_iff] at hn
     obtain ⟨t,ht,rfl⟩:=hn
     refine ⟨t,ht,rfl,?_⟩
     rcases hN.cap k t ht with ⟨τ,hτ⟩ | hc
     · obtain ⟨t',h1,h2⟩:=hN.map τ k hτ
       rw [ht] at h2;cases h2
       obtain ⟨t'',e1,e2,e3⟩:=hi.cq τ _ (hi.dy τ t h1)
       rw [h1] at e1;cases e1
       refine ⟨e3.cap,e3.zero,fun hlt=>?_⟩
       obtain ⟨b,o,c,ty,f1,f2,f3,f4,f5⟩:=e3.spare hlt
       refine ⟨b,o,c,ty,f1,?_,f3,f4,f5⟩
       rw [gY f2,hτ]
     · exact ⟨by omega,fun h=>by omega,fun h=>h.elim (fun h=>by omega) (fun h=>by rw [hc.2] at h;cases h)⟩
   · intro k t ht
     have hts:(norm (Go.Ab.restrict live st)).aa=t2.map (·.len):=hN.ts
     rw [hts,List.getElem?_map]
     have ht':t2[k]?=some t:=ht
     rw [ht'];rfl
   · exact fun b c hb=>⟨hrole b _ (hi.i3 b c hb).1 (by simp),(hi.i3 b c hb).2⟩
end
end Go.Ab
namespace Go.Ab
section
variable {P:Program} {ns:Names} {G:Gh} {w:World}
theorem q7 {x:AV} (h:gE x=true):fY x=true:=by
 cases x with
 | own _ _=>rfl
 | _=>simpa [fY,gE] using gX (by simpa [gE] using h)
theorem g_:∀{xs:List AV},dt xs=true→dN xs=true
 | [],_=>rfl
 | x::xs,h=>by
   simp only [dt,Bool.and_eq_true] at h
   simp only [dN,q7 h.1,g_ h.2,Bool.and_self]
theorem q8 {x:AV} (h:bg x=true):ia x=true:=by
 cases x with
 | own _ _=>rfl
 | aN _ _=>rfl
 | agg cs=>simp only [ia];exact g_ (by simpa [bg] using h)
 | _=>simpa [ia,bg] using gX (by simpa [bg] using h)
theorem q9 {aC ts:aq} {x:AV} (h:gE x=true):gE (cM aC ts x).1=true:=by
 unfold cM
 split
 · split<;>rfl
 · exact h
theorem lA:∀{xs:List AV} {aC ts:aq},dt xs=true→dt (bH aC ts xs).1=true
 | [],_,_,_=>rfl
 | x::xs,aC,ts,h=>by
   simp only [dt,Bool.and_eq_true] at h
   simp only [bH,dt,q9 h.1,Bool.true_and]
   exact lA h.2
theorem q_ {aC ts:aq} {x:AV} (h:bg x=true):bg (a7 aC ts x).1=true:=by
 unfold a7
 split
 · split<;>rfl
 · rfl
 · split
   · exact h
   · simp only [bg] at h ⊢
     exact lA h
 · exact h
theorem eN:∀{xs:List AV} {aC ts:aq},xs.all bg=true→(aS aC ts xs).1.all bg=true
 | [],_,_,_=>rfl
 | x::xs,aC,ts,h=>by
   simp only [List.all_cons,Bool.and_eq_true] at h
   simp only [aS,List.all_cons,q_ h.1,Bool.true_and]
   exact eN h.2
theorem rf {x:AV} (h:aH x=true):bg x=true:=by
 cases x with
 | own _ _=>rfl
 | fn g cap=>simpa [aH,bg] using h
 | pv _=>rfl
 | cI _=>rfl
 | aJ _ _=>rfl
 | aX _ _ _ _=>rfl
 | gz=>rfl
 | gA _=>rfl
 | dT _=>rfl
 | _=>simp [aH] at h
theorem e9 {xs:List AV} (h:xs.all aH=true):xs.all bg=true:=by
 rw [List.all_eq_true] at *
 exact fun x hx=>rf (h x hx)
theorem jM:∀{xs:List AV} {vs:List Value} {aC ts:aq} {m:Nat→Option Nat} {tks:List Tk},NS G aC ts m tks→xs.all bg=true→ae (num ns) G xs vs →
   ∃m' tks',xq ns G m tks (aS aC ts xs).2.1 (aS aC ts xs).2.2 m' tks'∧ae (num ns) (G.il m' tks') (aS aC ts xs).1 vs
 | [],vs,aC,ts,m,tks,hN,_,h=>⟨m,tks,⟨hN,[],by simp [aS]⟩,by simpa only [aS,ae] using h⟩
 | x::xs,vs,aC,ts,m,tks,hN,hp,h=>by
   simp only [List.all_cons,Bool.and_eq_true] at hp
   simp only [ae] at h
   obtain ⟨v,r,e,e1,e2⟩:=h
   subst e
   obtain ⟨m1,t1,g1,g2⟩:=iA hN (q8 hp.1) e1
   obtain ⟨m2,t2,k1,k2⟩:=jM g1.qZ hp.2 e2
   refine ⟨m2,t2,⟨k1.qZ,?_⟩,?_⟩
   · obtain ⟨a,ha⟩:=g1.ext
     obtain ⟨b,hb⟩:=k1.ext
     exact ⟨a++b,by rw [hb,ha,List.append_assoc]⟩
   · simp only [aS,ae]
     exact ⟨v,r,rfl,g2.mono k1.le,k2⟩
theorem xr {aC ts:aq} {x:AV}:(cM aC ts x).2.1.length=aC.length:=by
 unfold cM
 split
 · split<;>simp
 · rfl
theorem mF:∀{xs:List AV} {aC ts:aq},(bH aC ts xs).2.1.length=aC.length
 | [],_,_=>rfl
 | x::xs,aC,ts=>by simp only [bH];rw [mF,xr]
theorem xt {aC ts:aq} {x:AV}:(a7 aC ts x).2.1.length=aC.length:=by
 unfold a7
 split
 · split<;>simp
 · rfl
 · split
   · rfl
   · exact mF
 · rfl
theorem kz:∀{xs:List AV} {aC ts:aq},(aS aC ts xs).2.1.length=aC.length
 | [],_,_=>rfl
 | x::xs,aC,ts=>by simp only [aS];rw [kz,xt]
theorem kA:∀{sh:Sh} {aC ts:aq},(bt aC ts sh).2.1.length=aC.length
 | [],_,_=>rfl
 | none::sh,aC,ts=>by simp only [bt];exact kA
 | some cs::sh,aC,ts=>by simp only [bt];rw [kA,kz]
def Gh.to (G:Gh) (m:Nat→Option Nat) (tks:List Tk):Gh:=
 { K:=G.K,role:=fun b=>match G.role b with | .shr s=>.shr s | .tok τ=>(match m τ with | some k=>.tok k | none=>.cS) | _=>.cS,pm:=fun _=>none,sm:=G.sm,tk:=fun k=>tks[k]? }
theorem Eo {m:Nat→Option Nat} {tks:List Tk} {b s:Nat} (h:G.role b=.shr s):(G.to m tks).role b=.shr s:=by simp [Gh.to,h]
theorem pA {m:Nat→Option Nat} {tks:List Tk} {b τ k:Nat} (h:G.role b=.tok τ) (hm:m τ=some k):(G.to m tks).role b=.tok k:=by simp [Gh.to,h,hm]
theorem jN {m:Nat→Option Nat} {tks:List Tk} {b τ:Nat} (h:G.role b=.tok τ) (hm:m τ=none):(G.to m tks).role b=.cS:=by simp [Gh.to,h,hm]
theorem iC {m:Nat→Option Nat} {tks:List Tk} {b:Nat} (h:G.role b=.cS):(G.to m tks).role b=.cS:=by simp [Gh.to,h]
theorem pB {m:Nat→Option Nat} {tks:List Tk} {b d:Nat} (h:G.role b=.ic d):(G.to m tks).role b=.cS:=by simp [Gh.to,h]
theorem tC {ρ:bh} {G':Gh} (hK:G.K.le G'.K) (hs:∀s b,G.sm s=some b→G'.sm s=some b) (ht:∀τ t,G.tk τ=some t→G'.tk τ=some t) {xs:List AV} {vs:List Value} (hp:dt xs=true) (h:ae ρ G xs vs):ae ρ G' xs vs:=
 fF hK hs ht (g_ hp) h
theorem xu {ρ:bh} {G':Gh} (hK:G.K.le G'.K) (hs:∀s b,G.sm s=some b→G'.sm s=some b) (ht:∀τ t,G.tk τ=some t→G'.tk τ=some t) {x:AV} {v:Value} (hp:bg x=true) (h:ah ρ G x v):ah ρ G' x v:=by
 cases x with
 | own l τ=>
   simp only [ah] at h ⊢
   obtain ⟨t,e1,e2,e3,e4⟩:=h
   exact ⟨t,ht _ _ e1,e2,e3.mono hK,fun hl=>⟨(e4 hl).1,Ct (e4 hl).2 fun ⟨b,o,e,r⟩=>⟨b,o,e,Row.mono hK _ _ _ _ r⟩⟩⟩
 | agg cs=>
   simp only [ah] at h ⊢
   obtain ⟨vs,e,r⟩:=h
   exact ⟨vs,e,tC hK hs ht (by simpa [bg] using hp) r⟩
 | _=>exact iO hK hs (by simpa [bg] using hp) h
theorem fG {ρ:bh} {G':Gh} (hK:G.K.le G'.K) (hs:∀s b,G.sm s=some b→G'.sm s=some b) (ht:∀τ t,G.tk τ=some t→G'.tk τ=some t):∀{xs:List AV} {vs:List Value},xs.all bg=true→ae ρ G xs vs→ae ρ G' xs vs
 | [],_,_,h=>by simpa only [ae] using h
 | x::xs,_,hp,h=>by
   simp only [List.all_cons,Bool.and_eq_true] at hp
   simp only [ae] at h ⊢
   obtain ⟨v,r,e,e1,e2⟩:=h
   exact ⟨v,r,e,xu hK hs ht hp.1 e1,fG hK hs ht hp.2 e2⟩
theorem Inv.z7 {mem:List (Nat×List AV)} {sh:Sh} {aa:aq} (hi:Inv (num ns) G w mem sh aa) {xs:List AV} {vs:List Value} (hp:xs.all bg=true) (hr:ae (num ns) G xs vs) :
   ∃m tks,NS G (bQ aa xs sh).2.2.1 (bQ aa xs sh).2.2.2 m tks∧Inv (num ns) (G.to m tks) w [] (bQ aa xs sh).2.1 (bQ aa xs sh).2.2.2∧ae (num ns) (G.to m tks) (bQ aa xs sh).1 vs:=by
 obtain ⟨m0,tks0,hR,hrel⟩:=jM (NS.start hi) hp hr
 obtain ⟨m,tks,q1,q2,q3⟩:=gi (Go.Ab.gZ G w) hR.qZ hi.gZ
 have hN:=q1.qZ
 refine ⟨m,tks,hN,?_,fG (G:=G.il m tks) (G':=G.to m tks) (aU.le_refl _) (fun _ _ h=>h) (fun _ _ h=>h) (eN hp) (ae.mono q1.le hrel)⟩
 constructor
 · exact hi.known
 · intro b o v hk
   rcases hi.aI b o v hk with h | ⟨τ,h⟩
   · exact .inl (iC h)
   · cases hm:m τ with
     | none=>exact .inl (jN h hm)
     | some k=>exact .inr ⟨k,pA h hm⟩
 · intro b hb;exact iC (hi.fresh b hb)
 · intro d cells h;simp [look] at h
 · intro d b h;simp [Gh.to] at h
 · refine hi.DQ (G':=G.to m tks) (fun _=>rfl) (fun b s hr=>Eo hr) fun s cells' hs=>?_
   obtain ⟨cells,h1,h2,h3,h4⟩:=q3 s cells' hs
   obtain ⟨o,h2,h2'⟩:=h2
   exact ⟨cells,h1,⟨o,h2,h2'.to (fun _ _ _ h=>h) (fun _ e=>e) (fun _ r=>fG (G:=G.il m tks) (G':=G.to m tks) (aU.le_refl _) (fun _ _ h=>h) (fun _ _ h=>h) (e9 h3) r)⟩,h3,h4⟩
 · intro s b hs
   have:=hi.cV s b hs
   have e:(bQ aa xs sh).2.1.length=sh.length:=q2
   omega
 · intro k n hn
   have hts:(bQ aa xs sh).2.2.2=tks.map (·.len):=hN.ts
   rw [hts,List.getElem?_map,Option.map_eq_some_iff] at hn
   obtain ⟨t,ht,rfl⟩:=hn
   refine ⟨t,ht,rfl,?_⟩
   rcases hN.cap k t ht with ⟨τ,hτ⟩ | hc
   · obtain ⟨t',h1,h2⟩:=hN.map τ k hτ
     rw [ht] at h2;cases h2
     obtain ⟨t'',e1,e2,e3⟩:=hi.cq τ _ (hi.dy τ t h1)
     rw [h1] at e1;cases e1
     refine ⟨e3.cap,e3.zero,fun hlt=>?_⟩
     obtain ⟨b,o,c,ty,f1,f2,f3,f4,f5⟩:=e3.spare hlt
     exact ⟨b,o,c,ty,f1,pA f2 hτ,f3,f4,f5⟩
   · exact ⟨by omega,fun h=>by omega,fun h=>h.elim (fun h=>by omega) (fun h=>by rw [hc.2] at h;cases h)⟩
 · intro k t ht
   have hts:(bQ aa xs sh).2.2.2=tks.map (·.len):=hN.ts
   rw [hts,List.getElem?_map]
   have ht':tks[k]?=some t:=ht
   rw [ht'];rfl
 · exact fun b c hb=>⟨iC (hi.i3 b c hb).1,(hi.i3 b c hb).2⟩
theorem xv {aa:aq} {xs:List AV} {sh:Sh}:(bQ aa xs sh).2.2.1.length=aa.length:=by
 unfold bQ
 simp only [kA,kz]
theorem bf.to {G1:Gh} {w1:World} (h:bf G w G1 w1) (m:Nat→Option Nat) (tks:List Tk):bf G w (G1.to m tks) w1 where
 size:=h.size
 os:=h.os
 tape:=h.tape
 output:=h.output
 K:=h.K
 sm:=h.sm
 cS:=fun b hb hr=>⟨iC (h.cS b hb hr).1,(h.cS b hb hr).2⟩
 eS:=fun b τ hb hr=>by
   rcases h.eS b τ hb hr with h1 | ⟨τ',h1⟩
   · exact .inl (iC h1)
   · cases hm:m τ' with
     | none=>exact .inl (jN h1 hm)
     | some k=>exact .inr ⟨k,pA h1 hm⟩
 d_:=h.d_
def Ci (N:Nat):iu→iu
 | .tok k=>.tok (k+N)
 | .shr s=>.shr s
 | _=>.cS
def Gh.back (G:Gh) (m:Nat→Option Nat) (G1:Gh) (n N:Nat):Gh:=
 { K:=G1.K,
   role:=fun b=>if b<n then (match G.role b with | .shr _=>Ci N (G1.role b) | .tok τ=>(match m τ with | some _=>Ci N (G1.role b) | none=>.tok τ) | r=>r) else Ci N (G1.role b),
   pm:=G.pm,sm:=G1.sm,
   tk:=fun τ=>if τ<N then (match G.tk τ with | some t=>(match m τ with | some _=>some { t with base:=none,len:=t.len+1,cap:=t.len+1,own:=false } | none=>some t) | none=>none) else G1.tk (τ-N) }
theorem mG {G1 G':Gh} {N:Nat} (hK:G1.K.le G'.K) (hs:∀s b,G1.sm s=some b→G'.sm s=some b) (ht:∀τ t,G1.tk τ=some t→G'.tk (τ+N)=some t) {x:AV} {v:Value} (hp:gE x=true) (h:ah (num ns) G1 x v):ah (num ns) G' (eP N x) v:=by
 cases x with
 | own l τ=>
   simp only [eP,ah] at h ⊢
   obtain ⟨t,e1,e2,e3,e4⟩:=h
   exact ⟨t,ht _ _ e1,e2,e3.mono hK,fun hl=>⟨(e4 hl).1,Ct (e4 hl).2 fun ⟨b,o,e,r⟩=>⟨b,o,e,Row.mono hK _ _ _ _ r⟩⟩⟩
 | _=>
   simp only [eP]
   exact iO (G:=G1) (G':=G') hK hs (by simpa [gE] using hp) h
theorem lB {G1 G':Gh} {N:Nat} (hK:G1.K.le G'.K) (hs:∀s b,G1.sm s=some b→G'.sm s=some b) (ht:∀τ t,G1.tk τ=some t→G'.tk (τ+N)=some t):∀{xs:List AV} {vs:List Value},dt xs=true→ae (num ns) G1 xs vs→ae (num ns) G' (xs.map (eP N)) vs
 | [],_,_,h=>by simpa only [List.map_nil,ae] using h
 | x::xs,_,hp,h=>by
   simp only [dt,Bool.and_eq_true] at hp
   simp only [List.map_cons,ae] at h ⊢
   obtain ⟨v,r,e,e1,e2⟩:=h
   exact ⟨v,r,e,mG hK hs ht hp.1 e1,lB hK hs ht hp.2 e2⟩
theorem ot {G1 G':Gh} {N:Nat} (hK:G1.K.le G'.K) (hs:∀s b,G1.sm s=some b→G'.sm s=some b) (ht:∀τ t,G1.tk τ=some t→G'.tk (τ+N)=some t) {x:AV} {v:Value} (hp:bg x=true) (h:ah (num ns) G1 x v):ah (num ns) G' (cm N x) v:=by
 cases x with
 | own l τ=>exact mG (x:=.own l τ) hK hs ht rfl h
 | agg cs=>
   simp only [cm]
   split
   · rename_i hf
     exact ff (G:=G1) (G':=G') hK hs (by simpa [bj] using hf) h
   · simp only [ah] at h ⊢
     obtain ⟨vs,e,r⟩:=h
     exact ⟨vs,e,lB hK hs ht (by simpa [bg] using hp) r⟩
 | _=>
   simp only [cm]
   exact iO (G:=G1) (G':=G') hK hs (by simpa [bg] using hp) h
theorem jh {G1 G':Gh} {N:Nat} (hK:G1.K.le G'.K) (hs:∀s b,G1.sm s=some b→G'.sm s=some b) (ht:∀τ t,G1.tk τ=some t→G'.tk (τ+N)=some t):∀{xs:List AV} {vs:List Value},xs.all bg=true→ae (num ns) G1 xs vs→ae (num ns) G' (xs.map (cm N)) vs
 | [],_,_,h=>by simpa only [List.map_nil,ae] using h
 | x::xs,_,hp,h=>by
   simp only [List.all_cons,Bool.and_eq_true] at hp
   simp only [List.map_cons,ae] at h ⊢
   obtain ⟨v,r,e,e1,e2⟩:=h
   exact ⟨v,r,e,ot hK hs ht hp.1 e1,jh hK hs ht hp.2 e2⟩
theorem wm {m:Nat→Option Nat} {G1:Gh} {n N:Nat}:∀τ t,G1.tk τ=some t→(G.back m G1 n N).tk (τ+N)=some t:=by
 intro τ t h
 simp only [Gh.back]
 rw [if_neg (by omega),Nat.add_sub_cancel]
 exact h
theorem xw {m:Nat→Option Nat} {G1:Gh} {n N:Nat} {xs:List AV} {vs:List Value} (hp:xs.all bg=true) (h:ae (num ns) G1 xs vs):ae (num ns) (G.back m G1 n N) (xs.map (cm N)) vs:=
 jh (G1:=G1) (G':=G.back m G1 n N) (N:=N) (aU.le_refl G1.K) (fun _ _ h=>h) wm hp h
theorem rh {N n:Nat} {x:AV} (h:aw n x=true):aw n (eP N x)=true:=by
 cases x with
 | own _ _=>rfl
 | _=>exact h
theorem jO {N n:Nat}:∀{xs:List AV},aw.bG n xs=true→aw.bG n (xs.map (eP N))=true
 | [],_=>rfl
 | x::xs,h=>by
   simp only [aw.bG,Bool.and_eq_true] at h
   simp only [List.map_cons,aw.bG,rh h.1,jO h.2,Bool.and_self]
theorem ri {N n:Nat} {x:AV} (h:aw n x=true):aw n (cm N x)=true:=by
 cases x with
 | own _ _=>rfl
 | agg cs=>
   simp only [cm]
   split
   · exact h
   · simp only [aw] at h ⊢
     exact jO h
 | _=>exact h
theorem rj {N:Nat} {x:AV} (h:aH x=true):aH (cm N x)=true:=by
 cases x with
 | own _ _=>rfl
 | agg _=>simp [aH] at h
 | _=>exact h
theorem Inv.back {G1:Gh} {w1:World} {mem:List (Nat×List AV)} {sh sh':Sh} {aa aC ts ts':aq} {m:Nat→Option Nat} {tks:List Tk} (hi:Inv (num ns) G w mem sh aa) (hN:NS G aC ts m tks) (hol:aC.length=aa.length)
   (h1:Inv (num ns) G1 w1 [] sh' ts') (he:bf (G.to m tks) w G1 w1) :
   Inv (num ns) (G.back m G1 w.heap.size aa.length) w1 mem (fo aa.length sh') (aC++ts')∧G.le (G.back m G1 w.heap.size aa.length)∧bf G w (G.back m G1 w.heap.size aa.length) w1:=by
 have htl:∀τ t,G.tk τ=some t→τ<aa.length:=fun τ t h=>(List.getElem?_eq_some_iff.1 (hi.dy τ t h)).1
 have tkNone:∀τ t,G.tk τ=some t→m τ=none→(G.back m G1 w.heap.size aa.length).tk τ=some t:=by
   intro τ t h hm
   simp only [Gh.back,if_pos (htl τ t h),h,hm]
 have tkSome:∀τ t k,G.tk τ=some t→m τ=some k→(G.back m G1 w.heap.size aa.length).tk τ=some { t with base:=none,len:=t.len+1,cap:=t.len+1,own:=false }:=by
   intro τ t k h hm
   simp only [Gh.back,if_pos (htl τ t h),h,hm]
 have hle:G.le (G.back m G1 w.heap.size aa.length):=⟨he.K,fun _ _ h=>h,he.sm,fun τ t h=>by
   cases hm:m τ with
   | none=>exact ⟨t,tkNone τ t h hm,⟨Nat.le_refl _,Tk.d9 _⟩,fun _=>rfl⟩
   | some k=>exact ⟨_,tkSome τ t k h hm,⟨by simp,fun _=>⟨rfl,by simp⟩,.inl ⟨rfl,by simp⟩⟩,fun e=>by simp at e⟩⟩
 have rImm:∀b,b<w.heap.size→G.role b=.cS→(G.back m G1 w.heap.size aa.length).role b=.cS:=by intro b hb hr;simp only [Gh.back,if_pos hb,hr]
 have rPriv:∀b d,b<w.heap.size→G.role b=.ic d→(G.back m G1 w.heap.size aa.length).role b=.ic d:=by intro b d hb hr;simp only [Gh.back,if_pos hb,hr]
 have rFree:∀b τ,b<w.heap.size→G.role b=.tok τ→m τ=none→(G.back m G1 w.heap.size aa.length).role b=.tok τ:=by intro b τ hb hr hm;simp only [Gh.back,if_pos hb,hr,hm]
 have rTok:∀b τ k,b<w.heap.size→G.role b=.tok τ→m τ=some k→(G.back m G1 w.heap.size aa.length).role b=Ci aa.length (G1.role b):=by intro b τ k hb hr hm;simp only [Gh.back,if_pos hb,hr,hm]
 have rShr:∀b s,b<w.heap.size→G.role b=.shr s→(G.back m G1 w.heap.size aa.length).role b=Ci aa.length (G1.role b):=by intro b s hb hr;simp only [Gh.back,if_pos hb,hr]
 have rNew:∀b,¬b<w.heap.size→(G.back m G1 w.heap.size aa.length).role b=Ci aa.length (G1.role b):=by intro b hb;simp only [Gh.back,if_neg hb]
 have rOut:∀b,G1.role b≠.cS→(G.back m G1 w.heap.size aa.length).role b=Ci aa.length (G1.role b):=by
   intro b hn
   by_cases hb:b<w.heap.size
   · cases hr:G.role b with
     | shr s=>exact rShr b s hb hr
     | cS=>exact absurd (he.cS b hb (iC hr)).1 hn
     | ic d=>exact absurd (he.cS b hb (pB hr)).1 hn
     | tok τ=>
       cases hm:m τ with
       | none=>exact absurd (he.cS b hb (jN hr hm)).1 hn
       | some k=>exact rTok b τ k hb hr hm
   · exact rNew b hb
 have shKnown:∀b o v,G1.K b o=some v→Ci aa.length (G1.role b)=.cS∨∃τ,Ci aa.length (G1.role b)=.tok τ:=by
   intro b o v hk
   rcases h1.aI b o v hk with h | ⟨τ,h⟩
   · left;rw [h];rfl
   · right;exact ⟨τ+aa.length,by rw [h];rfl⟩
 have hevo:bf G w (G.back m G1 w.heap.size aa.length) w1:={
           size:=he.size,os:=he.os,tape:=he.tape,output:=he.output,K:=he.K,sm:=he.sm,
           cS:=fun b hb hr=>⟨rImm b hb hr,(he.cS b hb (iC hr)).2⟩
           eS:=fun b τ hb hr=>by
             cases hm:m τ with
             | none=>exact .inr ⟨τ,rFree b τ hb hr hm⟩
             | some k=>
               rw [rTok b τ k hb hr hm]
               rcases he.eS b k hb (pA hr hm) with h | ⟨τ',h⟩
               · left;rw [h];rfl
               · right;exact ⟨τ'+aa.length,by rw [h];rfl⟩
           d_:=fun b o v hb hr hk=>he.d_ b o v hb (iC hr) hk }
 refine ⟨⟨h1.known,?_,?_,?_,hi.ep,?_,?_,?_,?_,hi.eA hevo⟩,hle,hevo⟩
 · intro b o v hk
   have hk1:G1.K b o=some v:=hk
   by_cases hb:b<w.heap.size
   · cases hr:G.role b with
     | shr s=>rw [rShr b s hb hr];exact shKnown b o v hk1
     | cS=>exact .inl (rImm b hb hr)
     | tok τ=>
       cases hm:m τ with
       | none=>exact .inr ⟨τ,rFree b τ hb hr hm⟩
       | some k=>rw [rTok b τ k hb hr hm];exact shKnown b o v hk1
     | ic d=>
       exfalso
       have hk0:G.K b o=some v:=he.d_ b o v hb (pB hr) hk1
       rcases hi.aI b o v hk0 with h | ⟨τ,h⟩<;>rw [hr] at h<;>simp at h
   · rw [rNew b hb];exact shKnown b o v hk1
 · intro b hb
   have:=he.size
   rw [rNew b (by omega),h1.fresh b hb];rfl
 · intro d cs hd
   obtain ⟨b,e1,e2,e3⟩:=hi.bT d cs hd
   obtain ⟨hr,c,t,hh,hrel⟩:=e2
   have hb:=bC hh
   exact ⟨b,e1,⟨rPriv b d hb hr,c,t,((he.cS b hb (pB hr)).2).trans hh,ae.mono hle hrel⟩,e3⟩
 · intro s cs0 hs0
   simp only [fo,List.getElem?_map,Option.map_eq_some_iff] at hs0
   obtain ⟨o,hs,ho⟩:=hs0
   cases o with
   | none=>simp at ho
   | some cs=>
     simp at ho
     subst ho
     obtain ⟨b,e1,e2,e3,e4⟩:=h1.cr s cs hs
     obtain ⟨hr,o,hh,hrel⟩:=e2
     refine ⟨b,e1,⟨?_,o,hh,hrel.to (fun _ _ _ h=>h) (fun kvs e=>by subst e;rfl) (fun _ r=>xw (e9 e3) r)⟩,?_,?_⟩
     · rw [rOut b.1 (by rw [hr];simp),hr];rfl
     · rw [List.all_eq_true]
       intro x hx
       obtain ⟨y,hy,rfl⟩:=List.mem_map.1 hx
       exact rj (List.all_eq_true.1 e3 y hy)
     · rw [List.all_eq_true]
       intro x hx
       obtain ⟨y,hy,rfl⟩:=List.mem_map.1 hx
       exact ri (List.all_eq_true.1 e4 y hy)
 · intro s b h
   have:=h1.cV s b h
   simp only [fo,List.length_map]
   exact this
 · intro τ n hn
   by_cases hτ:τ<aa.length
   · rw [List.getElem?_append_left (by omega)] at hn
     obtain ⟨t,e1,e2,e3⟩:=hi.cq τ _ (List.getElem?_eq_getElem hτ)
     cases hm:m τ with
     | none=>
       have:=hN.free τ t e1 hm
       rw [hn] at this
       simp at this
       refine ⟨t,tkNone τ t e1 hm,this.symm,e3.cap,e3.zero,fun hlt=>?_⟩
       obtain ⟨b,o,c,ty,f1,f2,f3,f4,f5⟩:=e3.spare hlt
       have hb:=bC f3
       exact ⟨b,o,c,ty,f1,rFree b τ hb f2 hm,((he.cS b hb (jN f2 hm)).2).trans f3,f4,fun j v hk=>f5 j v (he.d_ b j v hb (jN f2 hm) hk)⟩
     | some k=>
       have:=hN.used τ t k e1 hm
       rw [hn] at this
       simp at this
       exact ⟨_,tkSome τ t k e1 hm,this.symm,⟨Nat.le_refl _,fun h=>by simp at h,fun h=>by simp at h⟩⟩
   · rw [List.getElem?_append_right (by omega),hol] at hn
     obtain ⟨t,e1,e2,e3⟩:=h1.cq _ n hn
     refine ⟨t,by simp only [Gh.back,if_neg hτ];exact e1,e2,e3.cap,e3.zero,fun hlt=>?_⟩
     obtain ⟨b,o,c,ty,f1,f2,f3,f4,f5⟩:=e3.spare hlt
     refine ⟨b,o,c,ty,f1,?_,f3,f4,f5⟩
     rw [rOut b (by rw [f2];simp),f2]
     simp only [Ci]
     rw [Nat.sub_add_cancel (by omega)]
 · intro τ t ht
   simp only [Gh.back] at ht
   split at ht
   · rename_i hτ
     rw [List.getElem?_append_left (by omega)]
     split at ht
     · rename_i t0 h0
       split at ht
       · rename_i k hm
         simp at ht;subst ht
         exact hN.used τ t0 k h0 hm
       · rename_i hm
         simp at ht;subst ht
         exact hN.free τ t0 h0 hm
     · simp at ht
   · rename_i hτ
     rw [List.getElem?_append_right (by omega),hol]
     exact h1.dy _ t ht
theorem jP {G1 G':Gh} {N:Nat} (hK:G1.K.le G'.K) (hs:∀s b,G1.sm s=some b→G'.sm s=some b) (ht:∀τ t,G1.tk τ=some t→G'.tk (τ+N)=some t) {rs:List AV} {v:Value} (hp:rs.all bg=true) (h:bR (num ns) G1 rs v):bR (num ns) G' (rs.map (cm N)) v:=by
 unfold bR at h
 split at h
 · rename_i r
   simp only [List.all_cons,List.all_nil,Bool.and_true] at hp
   simp only [List.map_cons,List.map_nil,bR]
   exact ot hK hs ht hp h
 · rename_i hn
   obtain ⟨vs,e,h⟩:=h
   unfold bR
   split
   · rename_i r he
     cases rs with
     | nil=>simp at he
     | cons a rs=>
       cases rs with
       | nil=>exact absurd rfl (hn a)
       | cons _ _=>simp at he
   · exact ⟨vs,e,jh hK hs ht hp h⟩
theorem rk {m:Nat→Option Nat} {G1:Gh} {n N:Nat} {rs:List AV} {v:Value} (hp:rs.all bg=true) (h:bR (num ns) G1 rs v):bR (num ns) (G.back m G1 n N) (rs.map (cm N)) v:=
 jP (G1:=G1) (G':=G.back m G1 n N) (N:=N) (aU.le_refl G1.K) (fun _ _ h=>h) wm hp h
def GG (N:Nat):iu→iu
 | .tok k=>.tok (k+N)
 | _=>.cS
def Gh.xx (G:Gh):Gh:={ K:=G.K,role:=fun _=>.cS,pm:=fun _=>none,sm:=fun _=>none,tk:=fun _=>none }
theorem Inv.xx {mem:List (Nat×List AV)} {sh:Sh} {aa:aq} (hi:Inv (num ns) G w mem sh aa):Inv (num ns) G.xx w [] [] [] where
 known:=hi.known
 aI:=fun _ _ _ _=>.inl rfl
 fresh:=fun _ _=>rfl
 bT:=fun d c h=>by simp [look] at h
 ep:=fun d b h=>by simp [Gh.xx] at h
 cr:=fun s c h=>by simp at h
 cV:=fun s b h=>by simp [Gh.xx] at h
 cq:=fun τ n h=>by simp at h
 dy:=fun τ t h=>by simp [Gh.xx] at h
 i3:=fun b c hb=>⟨rfl,(hi.i3 b c hb).2⟩
def Gh.eu (G:Gh) (G1:Gh) (n N:Nat):Gh:=
 { K:=G1.K,role:=fun b=>if b<n then G.role b else GG N (G1.role b),pm:=G.pm,sm:=G.sm,tk:=fun τ=>if τ<N then G.tk τ else G1.tk (τ-N) }
theorem Inv.eu {G1:Gh} {w1:World} {mem:List (Nat×List AV)} {sh:Sh} {aa ts':aq} (hi:Inv (num ns) G w mem sh aa)
   (h1:Inv (num ns) G1 w1 [] [] ts') (he:bf G.xx w G1 w1) :
   Inv (num ns) (G.eu G1 w.heap.size aa.length) w1 mem sh (aa++ts')∧G.le (G.eu G1 w.heap.size aa.length)∧bf G w (G.eu G1 w.heap.size aa.length) w1:=by
 have htl:∀τ t,G.tk τ=some t→τ<aa.length:=fun τ t h=>(List.getElem?_eq_some_iff.1 (hi.dy τ t h)).1
 have hK:G.K.le G1.K:=he.K
 have rOld:∀b,b<w.heap.size→(G.eu G1 w.heap.size aa.length).role b=G.role b:=fun b hb=>by simp only [Gh.eu,if_pos hb]
 have rNew:∀b,¬b<w.heap.size→(G.eu G1 w.heap.size aa.length).role b=GG aa.length (G1.role b):=fun b hb=>by simp only [Gh.eu,if_neg hb]
 have same:∀b,b<w.heap.size→w1.heap[b]?=w.heap[b]?:=fun b hb=>(he.cS b hb rfl).2
 have Kold:∀b o v,b<w.heap.size→G1.K b o=some v→G.K b o=some v:=fun b o v hb hk=>he.d_ b o v hb rfl hk
 have hle:G.le (G.eu G1 w.heap.size aa.length):=⟨hK,fun _ _ h=>h,fun _ _ h=>h,fun τ t h=>⟨t,by simp only [Gh.eu,if_pos (htl τ t h)];exact h,⟨Nat.le_refl _,Tk.d9 _⟩,fun _=>rfl⟩⟩
 have hevo:bf G w (G.eu G1 w.heap.size aa.length) w1:={
           size:=he.size,os:=he.os,tape:=he.tape,output:=he.output,K:=hK,sm:=fun _ _ h=>h,
           cS:=fun b hb hr=>⟨(rOld b hb).trans hr,same b hb⟩
           eS:=fun b τ hb hr=>.inr ⟨τ,(rOld b hb).trans hr⟩
           d_:=fun b o v hb _ hk=>Kold b o v hb hk }
 refine ⟨⟨h1.known,?_,?_,?_,hi.ep,?_,hi.cV,?_,?_,hi.eA hevo⟩,hle,hevo⟩
 · intro b o v hk
   by_cases hb:b<w.heap.size
   · rw [rOld b hb];exact hi.aI b o v (Kold b o v hb hk)
   · rw [rNew b hb]
     rcases h1.aI b o v hk with h | ⟨τ,h⟩
     · left;rw [h];rfl
     · right;exact ⟨τ+aa.length,by rw [h];rfl⟩
 · intro b hb
   have:=he.size
   rw [rNew b (by omega),h1.fresh b hb];rfl
 · intro d cs hd
   obtain ⟨b,e1,e2,e3⟩:=hi.bT d cs hd
   have hlt:b<w.heap.size:=by obtain ⟨_,_,_,hh,_⟩:=e2;exact bC hh
   exact ⟨b,e1,e2.mono hle (rOld b hlt) (same b hlt),e3⟩
 · intro s cs hs
   obtain ⟨b,e1,e2,e3⟩:=hi.cr s cs hs
   have hlt:b.1<w.heap.size:=e2.lt
   exact ⟨b,e1,e2.mono hle (rOld b.1 hlt) (same b.1 hlt),e3⟩
 · intro τ n hn
   by_cases hτ:τ<aa.length
   · rw [List.getElem?_append_left hτ] at hn
     obtain ⟨t,e1,e2,e3⟩:=hi.cq τ n hn
     refine ⟨t,by simp only [Gh.eu,if_pos hτ];exact e1,e2,e3.cap,e3.zero,fun hlt=>?_⟩
     obtain ⟨b,o,c,ty,f1,f2,f3,f4,f5⟩:=e3.spare hlt
     have hlt':=bC f3
     exact ⟨b,o,c,ty,f1,(rOld b hlt').trans f2,(same b hlt').trans f3,f4,fun j v hkk=>f5 j v (Kold b j v hlt' hkk)⟩
   · rw [List.getElem?_append_right (by omega)] at hn
     obtain ⟨t,e1,e2,e3⟩:=h1.cq _ n hn
     refine ⟨t,by simp only [Gh.eu,if_neg hτ];exact e1,e2,e3.cap,e3.zero,fun hlt=>?_⟩
     obtain ⟨b,o,c,ty,f1,f2,f3,f4,f5⟩:=e3.spare hlt
     have hb:¬b<w.heap.size:=fun hb=>by
       have:=(he.cS b hb rfl).1
       rw [f2] at this;cases this
     refine ⟨b,o,c,ty,f1,?_,f3,f4,f5⟩
     rw [rNew b hb,f2]
     simp only [GG]
     rw [Nat.sub_add_cancel (by omega)]
 · intro τ t ht
   simp only [Gh.eu] at ht
   split at ht
   · rename_i hτ
     rw [List.getElem?_append_left hτ]
     exact hi.dy τ t ht
   · rename_i hτ
     rw [List.getElem?_append_right (by omega)]
     exact h1.dy _ t ht
theorem xy {G1:Gh} {w1:World} {ts':aq} {n N:Nat} (h1:Inv (num ns) G1 w1 [] [] ts') {rs:List AV} {v:Value} (hp:rs.all bg=true) (h:bR (num ns) G1 rs v):bR (num ns) (G.eu G1 n N) (rs.map (cm N)) v:=
 jP (G1:=G1) (G':=G.eu G1 n N) (N:=N) (aU.le_refl G1.K) (fun s b h=>by have:=h1.cV s b h;simp at this) (fun τ t h=>by simp only [Gh.eu];rw [if_neg (by omega),Nat.add_sub_cancel];exact h) hp h
end
end Go.Ab
namespace Go.Ab
section
variable {P:Program} {ns:Names} {G:Gh} {w:World}
theorem ou {rs:List PV} {v:Value} (h:fD G.K rs v):ah (num ns) G (l_ rs) v:=by
 match rs,h with
 | [r],h=>simp only [fD] at h;simp only [l_,ah];exact h
 | [],h=>simp only [fD] at h;simp only [l_,ah];obtain ⟨vs,e,h⟩:=h;exact ⟨vs,e,dV h⟩
 | _::_::_,h=>simp only [fD] at h;simp only [l_,ah];obtain ⟨vs,e,h⟩:=h;exact ⟨vs,e,dV h⟩
theorem oz {rs:List AV} {v:Value} (h:bR (num ns) G rs v):ah (num ns) G (mc rs) v:=by
 match rs,h with
 | [r],h=>simp only [bR] at h;simp only [mc];exact h
 | [],h=>simp only [bR] at h;simp only [mc,ah];exact h
 | _::_::_,h=>simp only [bR] at h;simp only [mc,ah];exact h
theorem xz {v:AV} {rv:Value} (h:ah (num ns) G v rv):ah (num ns) G (i1 v) rv:=by
 unfold i1
 split
 · rename_i p hp;simp only [ah];exact pd hp h
 · exact h
theorem mH {own:List Nat}:∀{i:Nat} {xs:List AV} {vs:List Value},ae (num ns) G xs vs→ae (num ns) G (dc own i xs) vs
 | _,[],_,h=>by simpa [dc,ae] using h
 | i,x::xs,_,h=>by
   simp only [ae] at h
   obtain ⟨v,r,rfl,e1,e2⟩:=h
   simp only [dc,ae]
   refine ⟨v,r,rfl,?_,mH e2⟩
   split
   · exact e1
   · exact xz e1
theorem z_ {A:gJ} {dst:Option Nat} {c:Call} {k:AK} {args:List Operand} (h:a9 P ns A dst (.call c)=some (k,args)) (hk:k.calls=true) :
   (∃f g,c.callee=.value (.func f)∧ns.of f=some g∧args=c.args.toList∧(k=.aR g∨k=.ew g∨(∃own,k=.bV g own)∨(∃sz by_,(k=.clone sz by_∨∃ag,k=.ig sz by_ ag)∧look ns.cl g=some (sz,by_))∨k=.ik g)) ∨
   (∃t,c.callee=.value (.tmp t)∧args=.tmp t::c.args.toList∧(k=.fl∨k=.da)):=by
 obtain ⟨callee,cargs,ctypes⟩:=c
 simp only [a9] at h
 split at h
 · split at h<;>simp at h<;>(obtain ⟨rfl,_⟩:=h;simp [AK.calls] at hk)
 · split at h<;>simp at h;obtain ⟨rfl,_⟩:=h;simp [AK.calls] at hk
 · split at h<;>simp at h;obtain ⟨rfl,_⟩:=h;simp [AK.calls] at hk
 · split at h
   · split at h
     · rw [Option.ite_none_right_eq_some] at h
       obtain ⟨_,h⟩:=h
       split at h
       · simp only [Option.map_eq_some_iff,Prod.mk.injEq] at h
         obtain ⟨_,_,rfl,_⟩:=h;simp [AK.calls] at hk
       · split at h<;>(simp at h;obtain ⟨rfl,_⟩:=h;simp [AK.calls] at hk)
     · simp at h
   · simp at h
 · split at h
   · split at h
     · split at h<;>simp at h
       obtain ⟨rfl,_⟩:=h;simp [AK.calls] at hk
     · simp at h
   · simp at h
 · split at h
   · split at h<;>simp at h
     obtain ⟨rfl,_⟩:=h;simp [AK.calls] at hk
   · simp at h
 · rename_i f
   left
   split at h
   · rename_i g hg
     split at h
     · rename_i sz by_ hcl
       rw [Option.ite_none_right_eq_some] at h
       obtain ⟨_,h⟩:=h
       split at h
       · split at h
         · simp only [Option.map_eq_some_iff,Prod.mk.injEq] at h
           obtain ⟨ag,_,h1,h2⟩:=h
           exact ⟨f,g,rfl,hg,h2.symm,.inr (.inr (.inr (.inl ⟨sz,by_,.inr ⟨ag,h1.symm⟩,hcl⟩)))⟩
         · simp at h
       · simp only [Option.some.injEq,Prod.mk.injEq] at h
         exact ⟨f,g,rfl,hg,h.2.symm,.inr (.inr (.inr (.inl ⟨sz,by_,.inl h.1.symm,hcl⟩)))⟩
     · split at h
       · simp at h;exact ⟨f,g,rfl,hg,h.2.symm,.inr (.inr (.inr (.inr h.1.symm)))⟩
       · split at h
         · simp at h;exact ⟨f,g,rfl,hg,h.2.symm,.inr (.inr (.inl ⟨_,h.1.symm⟩))⟩
         · split at h
           · simp at h;exact ⟨f,g,rfl,hg,h.2.symm,.inr (.inl h.1.symm)⟩
           · simp at h;exact ⟨f,g,rfl,hg,h.2.symm,.inl h.1.symm⟩
   · simp at h
 · rename_i t
   right
   split at h
   · simp at h
     exact ⟨t,rfl,h.2.symm,.inr h.1.symm⟩
   · simp at h
     exact ⟨t,rfl,h.2.symm,.inl h.1.symm⟩
 · simp at h
mutual
theorem wo:∀{a b:PV},iZ a b=true→a=b
 | .bool a,b,h=>by cases b<;>simp [iZ] at h;rw [h]
 | .int k n,b,h=>by cases b<;>simp [iZ] at h;rw [h.1,h.2]
 | .str s,b,h=>by cases b<;>simp [iZ] at h;rw [h]
 | .agg l,b,h=>by
   cases b with
   | agg q=>simp only [iZ] at h;rw [mI h]
   | _=>simp [iZ] at h
 | .aE l,b,h=>by
   cases b with
   | aE q=>simp only [iZ] at h;rw [mI h]
   | _=>simp [iZ] at h
theorem mI:∀{a b:List PV},jC a b=true→a=b
 | [],b,h=>by cases b with | nil=>rfl | cons _ _=>simp [jC] at h
 | x::r,b,h=>by
   cases b with
   | nil=>simp [jC] at h
   | cons y q=>
     simp only [jC,Bool.and_eq_true] at h
     rw [wo h.1,mI h.2]
end
theorem wq:∀{a b:List AV},nH a b=true→a=b
 | [],b,h=>by cases b with | nil=>rfl | cons _ _=>simp [nH] at h
 | x::r,b,h=>by
   cases b with
   | nil=>simp [nH] at h
   | cons y q=>
     simp only [nH,Bool.and_eq_true] at h
     rw [wq h.2]
     have h1:=h.1
     cases x with
     | pv p=>cases y with
       | pv p'=>simp only [Ft] at h1;rw [wo h1]
       | _=>simp [Ft] at h1
     | _=>simp [Ft] at h1
theorem pC:∀{a b:Sh},i0 a b=true→a=b
 | [],b,h=>by cases b with | nil=>rfl | cons _ _=>simp [i0] at h
 | none::r,b,h=>by
   cases b with
   | nil=>simp [i0] at h
   | cons y q=>cases y with
     | none=>simp only [i0] at h;rw [pC h]
     | some _=>simp [i0] at h
 | some x::r,b,h=>by
   cases b with
   | nil=>simp [i0] at h
   | cons y q=>cases y with
     | none=>simp [i0] at h
     | some y=>
       simp only [i0,Bool.and_eq_true] at h
       rw [wq h.1,pC h.2]
theorem nM {orc:dr} {vals:List AV} {cells:Option (List AV)} {sh:Sh} {aa:aq} {out:Out} (h:exec orc .da vals cells sh aa=some out):exec orc .fl vals cells sh aa=some out:=by
 cases vals with
 | nil=>simp [exec] at h
 | cons f vals=>
   cases f with
   | fn g cap=>
     simp only [exec,Option.bind_eq_some_iff] at h
     obtain ⟨⟨v,sh',ts⟩,h1,h2⟩:=h
     simp only [GB,Option.ite_none_right_eq_some,Option.some.injEq] at h2
     obtain ⟨h3,rfl⟩:=h2
     have:=pC h3
     subst this
     simp [exec,h1]
   | _=>simp [exec] at h
theorem iD {orc:dr} (horc:fE P ns orc) {f g:Nat} {own:List Nat} (hg:ns.of f=some g) {vals:List AV} {vs:List Value} {x:AV} {mem:List (Nat×List AV)} {sh sh':Sh} {aa toks':aq}
   (hr:ae (num ns) G vals vs) (hi:Inv (num ns) G w mem sh aa) (h:cE orc g own vals sh aa=some (x,sh',toks')) :
   Calls P f vs.toArray w fun e w'=>∃v G',e=.returned v∧ah (num ns) G' x v∧Inv (num ns) G' w' mem sh' toks'∧G.le G'∧bf G w G' w':=by
 unfold cE at h
 simp only [Option.ite_none_right_eq_some,Option.map_eq_some_iff] at h
 obtain ⟨hp,⟨rs,sh1,ts1⟩,h1,h2⟩:=h
 simp only [Prod.mk.injEq] at h2
 obtain ⟨rfl,rfl,rfl⟩:=h2
 obtain ⟨hC,hpr⟩:=horc.i g f _ _ rs _ sh1 ts1 hg (eN hp) h1
 obtain ⟨m,tks,hN,hto,hargs⟩:=hi.z7 hp (mH (own:=own) (i:=0) hr)
 refine (hC (G.to m tks) w vs hto hargs).mono ?_
 rintro e w' ⟨v,G1,rfl,e6,hi1,hevo⟩
 obtain ⟨g1,g2,g3⟩:=hi.back hN xv hi1 hevo
 exact ⟨v,_,rfl,oz (rk hpr e6),g1,g2,g3⟩
theorem rl {orc:dr} (horc:fE P ns orc) {f g:Nat} (hg:ns.of f=some g) {bZ:List PV} {vs:List Value} {rs:List AV} {ts1:aq} {mem:List (Nat×List AV)} {sh:Sh} {aa:aq}
   (hr:fW G.K bZ vs) (hi:Inv (num ns) G w mem sh aa) (h:orc.i g (bZ.map .pv) [] []=some (rs,[],ts1)) :
   Calls P f vs.toArray w fun e w'=>∃v G',e=.returned v∧ah (num ns) G' (mc (rs.map (cm aa.length))) v∧Inv (num ns) G' w' mem sh (aa++ts1)∧G.le G'∧bf G w G' w':=by
 have hpass:(bZ.map AV.pv).all bg=true:=by
   rw [List.all_eq_true]
   intro x hx
   obtain ⟨p,_,rfl⟩:=List.mem_map.1 hx
   rfl
 obtain ⟨hC,hpr⟩:=horc.i g f _ _ rs _ _ ts1 hg hpass h
 refine (hC G.xx w vs hi.xx (dV (ρ:=num ns) (G:=G.xx) hr)).mono ?_
 rintro e w' ⟨v,G1,rfl,e6,hi1,hevo⟩
 obtain ⟨g1,g2,g3⟩:=hi.eu hi1 hevo
 exact ⟨v,_,rfl,oz (xy hi1 hpr e6),g1,g2,g3⟩
theorem CB (hB:eT P ns) {orc:dr} (horc:fE P ns orc) {A:gJ} {o:Oper} {k:AK} {args:List Operand} (hc:a9 P ns A o.dst o.op=some (k,args)) {a:Act} {vals:List AV} {out:Out}
   {mem:List (Nat×List AV)} {sh:Sh} {aa:aq} (hr:ae (num ns) G vals (args.map a.eval)) (hi:Inv (num ns) G w mem sh aa)
   (h:exec orc k vals (k.key.bind (look mem)) sh aa=some out) {next:Act→World→Prop} {Q:Exit→Act→World→Prop}
   (hn:∀v w' G',ah (num ns) G' out.val v→Inv (num ns) G' w' (dk mem k.key out.cells) out.sh out.aa→G.le G'→bf G w G' w'→next (a.put o.dst v) w'):o.wp P a w next Q:=by
 cases hk:k.calls with
 | false=>
   obtain ⟨n,v,w',G',g1,g2,g3,g4,g5,g6⟩:=ll hc hk hr hi h
   unfold Oper.wp
   rw [g1]
   rcases g2 with rfl | ⟨rfl,rfl⟩
   · exact hn v w' G' g3 g4 g5 g6
   · exact hn undef w' G' g3 g4 g5 g6
 | true=>
   obtain ⟨dst,op,type,pos,after,guard⟩:=o
   have hcall:∃c,op=.call c:=tt (k:=k) (by cases k<;>simp_all [AK.calls]) hc
   obtain ⟨c,rfl⟩:=hcall
   rcases z_ hc hk with ⟨f,g,hcal,hg,rfl,hk'⟩ | ⟨t,hcal,rfl,hkv⟩
   · have hrun:(execOp a.eval ⟨dst,.call c,type,pos,after,guard⟩).run P w=.ok (.enter f ((c.args.toList.map a.eval).toArray)) w:=by
       obtain ⟨callee,cargs,ctypes⟩:=c
       simp only at hcal;subst hcal
       simp only [execOp,resolve,Sem.run_bind,Act.eval,Deferred.ofValue,Sem.run_pure,Result.andThen_ok,invoke]
       rw [jI hB hg]
       congr 2
       apply Array.ext'
       simp
     rcases hk' with rfl | rfl | ⟨own,rfl⟩ | ⟨sz,by_,hkc,hcl⟩ | rfl
     · -- for pure data
       simp only [exec] at h
       split at h
       · rename_i bZ hp
         simp only [Option.map_eq_some_iff] at h
         obtain ⟨rs,h1,rfl⟩:=h
         have hC:=horc.p g f bZ rs hg h1 G.K w _ (fun b c hb=>(hi.i3 b c hb).2) hi.known (gL hp hr)
         unfold Oper.wp
         rw [hrun]
         refine hC.mono ?_
         rintro e w' ⟨v,K',rfl,e6,hK,hold,hkk,hb⟩
         obtain ⟨g1,g2,g3⟩:=hi.pure hK hold hkk hb
         exact hn v w' _ (ou e6) (by simpa [AK.key,dk] using g1) g2 g3
       · simp at h
     · -- for pure data,arrays frozen
       simp only [exec] at h
       split at h
       · rename_i bZ hp
         simp only [Option.map_eq_some_iff] at h
         obtain ⟨rs,h1,rfl⟩:=h
         obtain ⟨G1,k1,k2,k3,k4,k5⟩:=Inv.kill (vals.flatMap dj) hi
         have hC:=horc.p g f bZ rs hg h1 G1.K w _ (fun b c hb=>(k1.i3 b c hb).2) k1.known (lq k2 k4 hi.mB (fun s hs=>hs) hp hr)
         unfold Oper.wp
         rw [hrun]
         refine hC.mono ?_
         rintro e w' ⟨v,K',rfl,e6,hK,hold,hkk,hb⟩
         obtain ⟨g1,g2,g3⟩:=k1.pure hK hold hkk hb
         exact hn v w' _ (ou e6) (by simpa [AK.key,dk,ck] using g1) (Gh.le_trans k2 g2) (k3.trans g3)
       · simp at h
     · -- with the shared memory
       simp only [exec,Option.map_eq_some_iff] at h
       obtain ⟨⟨x,sh',ts'⟩,h1,rfl⟩:=h
       have hC:=iD horc hg hr hi h1
       unfold Oper.wp
       rw [hrun]
       refine hC.mono ?_
       rintro e w' ⟨v,G',rfl,g1,g2,g3,g4⟩
       exact hn v w' G' g1 (by simpa [AK.key,dk] using g2) g3 g4
     · -- slices.Clone
       have hkey:k.key=none:=by rcases hkc with rfl | ⟨ag,rfl⟩<;>rfl
       rw [hkey] at hn
       rcases vals with _ | ⟨x,_ | ⟨_,_⟩⟩
       · rcases hkc with rfl | ⟨ag,rfl⟩<;>simp [exec] at h
       · obtain ⟨oc,y,sh',ts',h1,rfl⟩:∃oc y sh' ts',gn oc sz by_ x sh aa=some (y,sh',ts')∧out=⟨y,none,sh',ts'⟩:=by
           rcases hkc with rfl | ⟨ag,rfl⟩
           · simp only [exec,Option.map_eq_some_iff] at h
             obtain ⟨⟨y,ts'⟩,h1,rfl⟩:=h
             exact ⟨none,y,sh,ts',by simp [gn,h1],rfl⟩
           · simp only [exec,Option.map_eq_some_iff] at h
             obtain ⟨⟨y,sh',ts'⟩,h1,rfl⟩:=h
             exact ⟨some ag,y,sh',ts',h1,rfl⟩
         have hl:=hr.length
         obtain ⟨v,hv⟩:∃v,c.args.toList.map a.eval=[v]:=List.length_eq_one_iff.1 (by simpa using hl)
         rw [hv] at hr
         simp only [ae] at hr
         obtain ⟨v',r,e,hx,rfl⟩:=hr
         cases e
         have hC:=horc.c g sz by_ f hcl hg oc G w mem sh sh' aa ts' x y v hi hx h1
         unfold Oper.wp
         rw [hrun,hv]
         refine hC.mono ?_
         rintro e w' ⟨u,G',rfl,g1,g2,g3,g4⟩
         exact hn u w' G' g1 (by simpa [dk] using g2) g3 g4
       · rcases hkc with rfl | ⟨ag,rfl⟩<;>simp [exec] at h
     · -- without the shared memory
       simp only [exec] at h
       split at h
       · rename_i bZ hp
         split at h
         · rename_i rs ts1 h1
           cases h
           have hC:=rl horc hg (gL hp hr) hi h1
           unfold Oper.wp
           rw [hrun]
           refine hC.mono ?_
           rintro e w' ⟨v,G',rfl,g1,g2,g3,g4⟩
           exact hn v w' G' g1 (by simpa [AK.key,dk] using g2) g3 g4
         · simp at h
       · simp at h
   · -- a function value
     have hkey:k.key=none:=by rcases hkv with rfl | rfl<;>rfl
     replace h:exec orc .fl vals none sh aa=some out:=by
       rcases hkv with rfl | rfl
       · exact h
       · exact nM h
     rw [hkey] at hn
     cases vals with
     | nil=>simp [ae] at hr
     | cons x0 vals=>
       simp only [List.map_cons,ae] at hr
       obtain ⟨fv,r,e,hf,hr⟩:=hr
       simp only [List.cons.injEq] at e
       obtain ⟨rfl,rfl⟩:=e
       cases x0 with
       | fn g cap=>
         simp only [exec,Option.map_eq_some_iff] at h
         obtain ⟨⟨x,sh',ts'⟩,h1,rfl⟩:=h
         simp only [ah] at hf
         obtain ⟨f,vs,hg,hv,hcap⟩:=hf
         have hrun:(execOp a.eval ⟨dst,.call c,type,pos,after,guard⟩).run P w=.ok (.enter f ((c.args.toList.map a.eval++vs).toArray)) w:=by
           obtain ⟨callee,cargs,ctypes⟩:=c
           simp only at hcal;subst hcal
           simp only [execOp,resolve,Sem.run_bind]
           rw [hv]
           simp only [Deferred.ofValue,Sem.run_pure,Result.andThen_ok,invoke]
           rw [jI hB hg]
           congr 2
           apply Array.ext'
           simp
         have hC:=iD horc hg (ae.append hr hcap) hi h1
         unfold Oper.wp
         rw [hrun]
         refine hC.mono ?_
         rintro e w' ⟨v,G',rfl,g1,g2,g3,g4⟩
         exact hn v w' G' g1 (by simpa [AK.key,dk] using g2) g3 g4
       | _=>simp [exec] at h
end
end Go.Ab
namespace Go.Ab
section
variable {n0:Nat} {P:Program} {ns:Names} {G:Gh} {w:World}
theorem iv.mono {G':Gh} {N:Nat} {env:List (Nat×AV)} {a:Act} (h:iv (num ns) G N env a) (hle:G.le G'):iv (num ns) G' N env a:=
 ⟨h.size,fun t x hx=>let ⟨v,h1,h2⟩:=h.env t x hx;⟨v,h1,h2.mono hle⟩⟩
theorem iv.put {N:Nat} {env:List (Nat×AV)} {a:Act} (h:iv (num ns) G N env a) {dst:Option Nat} (hd:(dst.map (fun d=>decide (d<N))).getD true=true) {x:AV} {v:Value} (hx:ah (num ns) G x v) :
   iv (num ns) G N (dP env dst x) (a.put dst v):=by
 cases dst with
 | none=>exact h
 | some d=>
   simp at hd
   refine ⟨by simp [Act.put,h.size],fun t y hy=>?_⟩
   simp only [dP] at hy
   by_cases ht:d=t
   · subst ht
     rw [bo] at hy
     cases hy
     exact ⟨v,by simp [Act.put,h.size,hd],hx⟩
   · rw [a_ _ _ _ _ ht] at hy
     obtain ⟨u,h1,h2⟩:=h.env t y hy
     exact ⟨u,by simp only [Act.put];rw [Array.getElem?_setIfInBounds_ne ht];exact h1,h2⟩
theorem put_defers (a:Act) (dst:Option Nat) (v:Value):(a.put dst v).defers=a.defers:=by cases dst<;>rfl
theorem hG {A:gJ} {N:Nat} {ops:Array Oper} {o:Oper} {ao:cB} (h:dx P ns A N ops o=some ao) :
   ∃args,a9 P ns A o.dst o.op=some (ao.op,args)∧bI (eX ns) args=some ao.args∧ao.dst=o.dst∧(o.dst.map (fun d=>decide (d<N))).getD true=true ∧
     ((o.guard=none∧ao.guard=none)∨∃j b t,o.guard=some (j,b)∧(ops[j]?).bind (·.dst)=some t∧ao.guard=some (t,b)):=by
 unfold dx at h
 split at h
 · rename_i k args hk
   split at h
   · rename_i as ha
     simp only [Option.ite_none_right_eq_some] at h
     obtain ⟨hd,h⟩:=h
     split at h
     · rename_i hg
       simp at h;subst h
       exact ⟨args,hk,ha,rfl,hd,.inl ⟨hg,rfl⟩⟩
     · rename_i j b hg
       split at h
       · rename_i t ht
         simp at h;subst h
         exact ⟨args,hk,ha,rfl,hd,.inr ⟨j,b,t,hg,ht,rfl⟩⟩
       · simp at h
   · simp at h
 · simp at h
theorem jQ {A:gJ} {N:Nat} {ops:Array Oper} {o:Oper} {ao:cB} {env:List (Nat×AV)} {a:Act} (h:dx P ns A N ops o=some ao) (he:iv (num ns) G N env a) {r:Bool}
   (hw:dH env ao.guard=some r):Region.wanted o (yielded ops a.tmps)=r:=by
 obtain ⟨_,_,_,_,_,hg⟩:=hG h
 rcases hg with ⟨h1,h2⟩ | ⟨j,b,t,h1,h2,h3⟩
 · rw [h2] at hw
   simp [dH] at hw
   simp [Region.wanted,h1,hw]
 · rw [h3] at hw
   simp only [dH] at hw
   split at hw
   · rename_i c hc
     obtain ⟨v,e1,e2⟩:=he.env t _ hc
     simp only [ah,fq] at e2
     simp at hw
     simp [Region.wanted,h1,yielded,h2,e1,e2,hw]
   · rename_i hc
     obtain ⟨v,e1,e2⟩:=he.env t _ hc
     simp only [ah] at e2
     simp at hw
     simp [Region.wanted,h1,yielded,h2,e1,e2,undef,←hw]
   · simp at hw
theorem tD (hB:eT P ns) {orc:dr} (horc:fE P ns orc) {A:gJ} {N:Nat} {ops:Array Oper} {o:Oper} {ao:cB} (hc:dx P ns A N ops o=some ao)
   {st st':St} {a:Act} (hs:eG (num ns) n0 N G st a w) (hev:cG orc ao st=some st') {next:Act→World→Prop} {Q:Exit→Act→World→Prop}
   (hn:∀G' v w',eG (num ns) n0 N G' st' (a.put o.dst v) w'→bf G w G' w'→next (a.put o.dst v) w') :
   (Region.wanted o (yielded ops a.tmps)=true∧o.wp P a w next Q)∨(Region.wanted o (yielded ops a.tmps)=false∧next (a.put o.dst undef) w):=by
 obtain ⟨args,h1,h2,h3,h4,_⟩:=hG hc
 unfold cG at hev
 split at hev
 · simp at hev
 · rename_i hw
   right
   refine ⟨jQ hc hs.env hw,?_⟩
   simp at hev;subst hev
   refine hn G _ w ⟨?_,hs.inv,hs.marks.tg (bf.refl G w) (put_defers _ _ _)⟩ (bf.refl G w)
   simp only [h3]
   exact hs.env.put h4 (by simp [ah])
 · rename_i hw
   left
   refine ⟨jQ hc hs.env hw,?_⟩
   split at hev
   · simp at hev
   · rename_i vals hv
     split at hev
     · simp at hev
     · rename_i out ho
       simp at hev;subst hev
       have hr:=qv hs.env h2 hv
       refine CB hB horc h1 hr hs.inv ho ?_
       intro v w' G' g1 g2 g3 g4
       refine hn G' _ w' ⟨?_,g2,hs.marks.tg g4 (put_defers _ _ _)⟩ g4
       simp only [h3]
       exact (hs.env.mono g3).put h4 g1
end
end Go.Ab
namespace Go.Ab
section
variable {orc:dr}
def Aa (E:Nat→Option AV):di→Option AV
 | .t n=>E n
 | .c v=>some v
def gH (E:Nat→Option AV):List di→Option (List AV)
 | []=>some []
 | x::r=>match Aa E x,gH E r with
   | some v,some vs=>some (v::vs)
   | _,_=>none
def iQ (E:Nat→Option AV):Option (Nat×Bool)→Option Bool
 | none=>some true
 | some (t,b)=>match E t with
   | some (.pv (.bool c))=>some (c == b)
   | some .un=>some false
   | _=>none
def bP (orc:dr) (o:cB) (E:Nat→Option AV) (M:Nat→Option (List AV)) (sh:Sh) (aa:aq):Option Out:=
 match iQ E o.guard with
 | none=>none
 | some false=>some ⟨.un,none,sh,aa⟩
 | some true=>match gH E o.args with
   | none=>none
   | some vals=>exec orc o.op vals (o.op.key.bind M) sh aa
theorem mJ (env:List (Nat×AV)):∀l,cJ env l=gH (look env) l
 | []=>rfl
 | x::l=>by
   have:et env x=Aa (look env) x:=by cases x<;>rfl
   simp only [cJ,gH,this,mJ env l]
   rfl
theorem cQ (o:cB) (st:St):cG orc o st=(bP orc o (look st.env) (look st.mem) st.sh st.aa).map
   fun r=>{ env:=dP st.env o.dst r.val,mem:=dk st.mem o.op.key r.cells,sh:=r.sh,aa:=r.aa }:=by
 unfold cG bP
 have hw:dH st.env o.guard=iQ (look st.env) o.guard:=by
   cases o.guard with
   | none=>rfl
   | some g=>rfl
 rw [hw]
 cases iQ (look st.env) o.guard with
 | none=>rfl
 | some b=>cases b with
   | false=>simp [dI]
   | true=>
     simp only [mJ]
     cases gH (look st.env) o.args with
     | none=>rfl
     | some vals=>
       simp only
       cases exec orc o.op vals (o.op.key.bind (look st.mem)) st.sh st.aa<;>rfl
theorem iE {E E':Nat→Option AV}:∀{l:List di},(∀t∈l.filterMap (fun | .t n=>some n | _=>none),E t=E' t)→gH E l=gH E' l
 | [],_=>rfl
 | .c v::l,h=>by
   simp only [gH,Aa]
   rw [iE (l:=l) (fun t ht=>h t (by simpa using ht))]
 | .t n::l,h=>by
   simp only [gH,Aa]
   rw [iE (l:=l) (fun t ht=>h t (by simp only [List.filterMap_cons,List.mem_cons];exact .inr ht)),h n (by simp)]
theorem ee {o:cB} {E E':Nat→Option AV} {M M':Nat→Option (List AV)} {sh:Sh} {aa:aq} (hE:∀t∈o.looks,E t=E' t) (hM:∀k,o.op.key=some k→M k=M' k) :
   bP orc o E M sh aa=bP orc o E' M' sh aa:=by
 have h1:iQ E o.guard=iQ E' o.guard:=by
   cases hg:o.guard with
   | none=>rfl
   | some g=>
     obtain ⟨t,b⟩:=g
     simp only [iQ]
     rw [hE t (by simp [cB.looks,hg])]
 have h2:gH E o.args=gH E' o.args:=iE fun t ht=>hE t (by simp only [cB.looks,List.mem_append];exact .inl ht)
 have h3:o.op.key.bind M=o.op.key.bind M':=by
   cases hk:o.op.key with
   | none=>rfl
   | some k=>exact hM k hk
 unfold bP
 rw [h1,h2,h3]
theorem Ep {op:AK} {vals:List AV} {cells:Option (List AV)} {sh:Sh} {aa:aq} {r:Out} (ht:op.eR=false) (h:exec orc op vals cells sh aa=some r) :
   r.sh=sh∧∀sh',exec orc op vals cells sh' aa=some { r with sh:=sh' }:=by
 cases op with
 | v vo=>
   simp only [exec,Option.map_eq_some_iff] at h ⊢
   obtain ⟨x,h1,rfl⟩:=h
   exact ⟨rfl,fun sh'=>⟨x,h1,rfl⟩⟩
 | bU k o s ag=>
   obtain ⟨cs,x,rfl,rfl,hx,rfl⟩:=eB h
   exact ⟨rfl,fun sh'=>by simp [exec,hx]⟩
 | bA k o s=>
   obtain ⟨cs,v,rfl,rfl,h1,h2,h3,rfl⟩:=eL h
   exact ⟨rfl,fun sh'=>by simp [exec,h1,h2,h3]⟩
 | alloc k z=>
   obtain ⟨rfl,rfl,rfl⟩:=fy h
   exact ⟨rfl,fun sh'=>by simp [exec]⟩
 | box k s=>
   obtain ⟨v,rfl,rfl,h1,h2,rfl⟩:=iy h
   exact ⟨rfl,fun sh'=>by simp only [exec];rw [if_pos ⟨h1,h2⟩]⟩
 | fj d s b z=>
   obtain ⟨k,k',n,rfl,h1,h2,h3,h4,rfl,rfl⟩:=fC h
   exact ⟨rfl,fun sh'=>by simp [exec,h1,h2,h3,h4]⟩
 | append s b=>
   obtain ⟨s,x,y,ts,rfl,h1,rfl⟩:=gh h
   exact ⟨rfl,fun sh'=>by simp [exec,h1]⟩
 | cR s b ag=>simp [AK.eR] at ht
 | jA s b=>first | (simp [exec] at h;done) | (simp [exec] at e;done) | (simp [exec];done)
 | gm s z=>simp [AK.eR] at ht
 | ij s=>simp [AK.eR] at ht
 | clone s b=>
   obtain ⟨x,y,ts,rfl,h1,rfl⟩:=je h
   exact ⟨rfl,fun sh'=>by simp [exec,h1]⟩
 | aR g=>
   simp only [exec] at h ⊢
   split at h
   · rename_i bZ hp
     simp only [Option.map_eq_some_iff] at h
     obtain ⟨rs,h1,rfl⟩:=h
     exact ⟨rfl,fun sh'=>by simp [h1]⟩
   · simp at h
 | ik g=>
   simp only [exec] at h ⊢
   split at h
   · rename_i bZ hp
     split at h
     · rename_i rs ts1 h1
       cases h
       exact ⟨rfl,fun sh'=>by simp [h1]⟩
     · simp at h
   · simp at h
 | _=>simp [AK.eR] at ht
theorem Er {op:AK} {vals:List AV} {cells:Option (List AV)} {sh:Sh} {aa:aq} {r:Out} (ht:op.d0=false) (h:exec orc op vals cells sh aa=some r) :
   r.aa=aa∧∀ts,exec orc op vals cells sh ts=some { r with aa:=ts }:=by
 cases op with
 | v vo=>
   simp only [exec,Option.map_eq_some_iff] at h ⊢
   obtain ⟨x,h1,rfl⟩:=h
   exact ⟨rfl,fun ts=>⟨x,h1,rfl⟩⟩
 | bU k o s ag=>
   obtain ⟨cs,x,rfl,rfl,hx,rfl⟩:=eB h
   exact ⟨rfl,fun ts=>by simp [exec,hx]⟩
 | bA k o s=>
   obtain ⟨cs,v,rfl,rfl,h1,h2,h3,rfl⟩:=eL h
   exact ⟨rfl,fun ts=>by simp [exec,h1,h2,h3]⟩
 | alloc k z=>
   obtain ⟨rfl,rfl,rfl⟩:=fy h
   exact ⟨rfl,fun ts=>by simp [exec]⟩
 | box k s=>
   obtain ⟨v,rfl,rfl,h1,h2,rfl⟩:=iy h
   exact ⟨rfl,fun ts=>by simp only [exec];rw [if_pos ⟨h1,h2⟩]⟩
 | fj d s b z=>
   obtain ⟨k,k',n,rfl,h1,h2,h3,h4,rfl,rfl⟩:=fC h
   exact ⟨rfl,fun ts=>by simp [exec,h1,h2,h3,h4]⟩
 | append s b=>simp [AK.d0] at ht
 | cR s b ag=>simp [AK.d0] at ht
 | jA s b=>first | (simp [exec] at h;done) | (simp [exec] at e;done) | (simp [exec];done)
 | clone s b=>simp [AK.d0] at ht
 | ig s b ag=>
   rcases vals with _ | ⟨x,_ | ⟨_,_⟩⟩
   · simp [exec] at h
   · simp only [exec,gn] at h ⊢
     split at h
     · rename_i xs hx
       split at h
       · rename_i hh
         simp only [Option.map_map,Option.map_eq_some_iff] at h
         obtain ⟨⟨y,sh'⟩,h1,rfl⟩:=h
         refine ⟨rfl,fun ts=>?_⟩
         simp [hx,hh,h1]
       · simp at h
     · simp at h
   · simp [exec] at h
 | gm s z=>
   obtain ⟨x,sh',rfl,h1,rfl⟩:=lg h
   exact ⟨rfl,fun ts=>by simp [exec,h1]⟩
 | ij s=>
   obtain ⟨x,y,xs,k,sh',rfl,h0,h1,rfl⟩:=gU h
   exact ⟨rfl,fun ts=>by simp [exec,h0,h1]⟩
 | we=>first | (simp [exec] at h;done) | (simp [exec] at e;done) | (simp [exec];done)
 | l8 c ok z=>first | (simp [exec] at h;done) | (simp [exec] at e;done) | (simp [exec];done)
 | Cr c=>first | (simp [exec] at h;done) | (simp [exec] at e;done) | (simp [exec];done)
 | aR g=>
   simp only [exec] at h ⊢
   split at h
   · rename_i bZ hp
     simp only [Option.map_eq_some_iff] at h
     obtain ⟨rs,h1,rfl⟩:=h
     exact ⟨rfl,fun ts=>by simp [h1]⟩
   · simp at h
 | ew g=>
   simp only [exec] at h ⊢
   split at h
   · rename_i bZ hp
     simp only [Option.map_eq_some_iff] at h
     obtain ⟨rs,h1,rfl⟩:=h
     exact ⟨rfl,fun ts=>by simp [h1]⟩
   · simp at h
 | bV g own=>simp [AK.d0] at ht
 | ik g=>simp [AK.d0] at ht
 | fl=>simp [AK.d0] at ht
 | da=>simp [AK.d0] at ht
 | dJ s ag=>
   obtain ⟨p,x,rfl,rfl,hor⟩:=gS h
   refine ⟨rfl,fun ts=>?_⟩
   rcases hor with ⟨cs,rfl,hx⟩ | ⟨b,off,cs,rfl,hcs,hm,hx⟩
   · simp [exec,hx]
   · simp [exec,hcs,hm,hx]
 | ev s=>
   obtain ⟨b,off,v,cs,rfl,hcs,h0,h1,h2,h3,h4,rfl⟩:=eM h
   refine ⟨rfl,fun ts=>?_⟩
   simp only [exec,hcs]
   rw [if_pos ⟨h0,h1,h2,h3,h4⟩]
 | o6 s=>first | (simp [exec] at h;done) | (simp [exec] at e;done) | (simp [exec];done)
 | kj s=>
   obtain ⟨v,rfl,h1,h2,h3,rfl⟩:=iN h
   refine ⟨rfl,fun ts=>?_⟩
   simp only [exec]
   rw [if_pos ⟨h1,h2,h3⟩]
 | Cq s=>first | (simp [exec] at h;done) | (simp [exec] at e;done) | (simp [exec];done)
 | gl z=>
   obtain ⟨rfl,rfl⟩:=gg h
   exact ⟨rfl,fun ts=>by simp [exec]⟩
 | hU s b ag z=>
   obtain ⟨k,k',n,rfl,h1,h2,h3,h4,rfl⟩:=gT h
   exact ⟨rfl,fun ts=>by simp [exec,h1,h2,h3,h4]⟩
theorem Es {op:AK} {vals:List AV} {cells:Option (List AV)} {sh:Sh} {aa:aq} {r:Out} (ht:op.eF=false) (hk:op.key≠none) (h:exec orc op vals cells sh aa=some r):r.cells=none:=by
 cases op with
 | bU k o s ag=>
   obtain ⟨cs,x,rfl,rfl,hx,rfl⟩:=eB h
   rfl
 | bA k o s=>simp [AK.eF] at ht
 | alloc k z=>simp [AK.eF] at ht
 | box k s=>simp [AK.eF] at ht
 | fj d s b z=>simp [AK.eF] at ht
 | _=>simp [AK.key] at hk
theorem nN {sz:Nat} {ag:Bool} {vals:List AV} {cells:Option (List AV)} {sh:Sh} {aa:aq} {r:Out} (h:exec orc (.dJ sz ag) vals cells sh aa=some r):r.sh=sh:=by
 obtain ⟨p,x,rfl,rfl,_⟩:=gS h
 rfl
theorem nO {c:CK} {ok:Bool} {z:PV} {vals:List AV} {cells:Option (List AV)} {sh:Sh} {aa:aq} {r:Out} (h:exec orc (.l8 c ok z) vals cells sh aa=some r):r.sh=sh:=by simp [exec] at h
theorem mK {vals:List AV} {cells:Option (List AV)} {sh:Sh} {aa:aq} {r:Out} (h:exec orc .da vals cells sh aa=some r):r.sh=sh:=by
 cases vals with
 | nil=>simp [exec] at h
 | cons f vals=>
   cases f with
   | fn g cap=>
     simp only [exec,Option.bind_eq_some_iff] at h
     obtain ⟨⟨v,sh',ts⟩,_,h2⟩:=h
     simp only [GB,Option.ite_none_right_eq_some,Option.some.injEq] at h2
     rw [←h2.2]
   | _=>simp [exec] at h
theorem mL {o:cB} {E:Nat→Option AV} {M:Nat→Option (List AV)} {sh:Sh} {aa:aq} {r:Out} (ht:o.op.eR=false) (h:bP orc o E M sh aa=some r) :
   r.sh=sh∧∀sh',bP orc o E M sh' aa=some { r with sh:=sh' }:=by
 unfold bP at *
 split at h
 · simp at h
 · simp at h;subst h;exact ⟨rfl,fun _=>rfl⟩
 · split at h
   · simp at h
   · exact Ep ht h
theorem rm {o:cB} {E:Nat→Option AV} {M:Nat→Option (List AV)} {sh:Sh} {aa:aq} {r:Out} (ht:o.op.oh=true) (h:bP orc o E M sh aa=some r):r.sh=sh:=by
 unfold bP at *
 split at h
 · simp at h
 · simp at h;subst h;rfl
 · split at h
   · simp at h
   · rename_i vals _
     cases ho:o.op with
     | dJ sz ag=>
       rw [ho] at h
       have hl:=nN h
       exact hl
     | l8 c ok z=>
       rw [ho] at h
       exact nO h
     | da=>
       rw [ho] at h
       exact mK h
     | _=>rw [ho] at ht;simp [AK.oh] at ht
theorem jR {o:cB} {E:Nat→Option AV} {M:Nat→Option (List AV)} {sh:Sh} {aa:aq} {r:Out} (ht:o.op.d0=false) (h:bP orc o E M sh aa=some r) :
   r.aa=aa∧∀ts,bP orc o E M sh ts=some { r with aa:=ts }:=by
 unfold bP at *
 split at h
 · simp at h
 · simp at h;subst h;exact ⟨rfl,fun _=>rfl⟩
 · split at h
   · simp at h
   · exact Er ht h
theorem jS {o:cB} {E:Nat→Option AV} {M:Nat→Option (List AV)} {sh:Sh} {aa:aq} {r:Out} (ht:o.op.eF=false) (hk:o.op.key≠none) (h:bP orc o E M sh aa=some r):r.cells=none:=by
 unfold bP at h
 split at h
 · simp at h
 · simp at h;subst h;rfl
 · split at h
   · simp at h
   · exact Es ht hk h
structure gr (x y:St):Prop where
 env:∀t,look x.env t=look y.env t
 mem:∀t,look x.mem t=look y.mem t
 sh:x.sh=y.sh
 aa:x.aa=y.aa
theorem gr.refl (x:St):gr x x:=⟨fun _=>rfl,fun _=>rfl,rfl,rfl⟩
theorem gr.symm {x y:St} (h:gr x y):gr y x:=⟨fun t=>(h.env t).symm,fun t=>(h.mem t).symm,h.sh.symm,h.aa.symm⟩
theorem gr.trans {x y z:St} (h:gr x y) (k:gr y z):gr x z:=⟨fun t=>(h.env t).trans (k.env t),fun t=>(h.mem t).trans (k.mem t),h.sh.trans k.sh,h.aa.trans k.aa⟩
theorem cZ (env:List (Nat×AV)) (d:Option Nat) (v:AV) (t:Nat):look (dP env d v) t=if d=some t then some v else look env t:=by
 cases d with
 | none=>simp [dP]
 | some d=>
   simp only [dP,Option.some.injEq]
   by_cases h:d=t
   · subst h;rw [if_pos rfl,bo]
   · rw [if_neg h,a_ _ _ _ _ h]
theorem iR (mem:List (Nat×List AV)) (k:Option Nat) (c:Option (List AV)) (t:Nat):look (dk mem k c) t=if k=some t then (match c with | some cs=>some cs | none=>look mem t) else look mem t:=by
 cases c with
 | none=>rw [dI];split<;>rfl
 | some cs=>
   cases k with
   | none=>simp [dk]
   | some k=>
     simp only [dk,Option.some.injEq]
     by_cases h:k=t
     · subst h;rw [if_pos rfl,bo]
     · rw [if_neg h,a_ _ _ _ _ h]
theorem xA {o:cB} {x y x':St} (h:gr x y) (he:cG orc o x=some x'):∃y',cG orc o y=some y'∧gr x' y':=by
 rw [cQ,Option.map_eq_some_iff] at he
 obtain ⟨r,hr,rfl⟩:=he
 have:bP orc o (look y.env) (look y.mem) y.sh y.aa=some r:=by
   rw [←h.sh,←h.aa,←hr]
   exact (ee (fun t _=>h.env t) (fun t _=>h.mem t)).symm
 refine ⟨{ env:=dP y.env o.dst r.val,mem:=dk y.mem o.op.key r.cells,sh:=r.sh,aa:=r.aa },by rw [cQ,this];rfl,⟨fun t=>?_,fun t=>?_,rfl,rfl⟩⟩
 · simp only [cZ,h.env]
 · simp only [iR,h.mem]
end
end Go.Ab
namespace Go.Ab
section
variable {orc:dr}
theorem kB {x y:cB} (h:indep x y=true) :
   (∀d,x.dst=some d→d∉y.looks∧y.dst≠some d)∧(∀d,y.dst=some d→d∉x.looks)∧(x.op.eR=false∨y.op.eR=false∨(x.op.oh=true∧y.op.oh=true))∧(x.op.d0=false∨y.op.d0=false) ∧
   (∀k,x.op.key=some k→y.op.key=some k→x.op.eF=false∧y.op.eF=false):=by
 simp only [indep,Bool.and_eq_true,Bool.or_eq_true,Bool.not_eq_true',Bool.and_eq_false_iff] at h
 obtain ⟨⟨⟨⟨h1,h2⟩,h3⟩,h4⟩,h5⟩:=h
 refine ⟨fun d hd=>?_,fun d hd=>?_,h3.elim (fun h=>h.elim .inl fun h=>.inr (.inl h)) fun h=>.inr (.inr h),h4,fun k hx hy=>?_⟩
 · rw [hd] at h1
   simp at h1
   exact h1
 · rw [hd] at h2
   simpa using h2
 · rw [hx,hy] at h5
   simp at h5
   exact h5
theorem CC {x y:cB} (h:indep x y=true) {st st1 st2:St} (h1:cG orc x st=some st1) (h2:cG orc y st1=some st2) :
   ∃st1' st2',cG orc y st=some st1'∧cG orc x st1'=some st2'∧gr st2' st2:=by
 obtain ⟨hd1,hd2,hS,hT,hK⟩:=kB h
 rw [cQ,Option.map_eq_some_iff] at h1 h2
 obtain ⟨r1,hr1,rfl⟩:=h1
 obtain ⟨r2,hr2,rfl⟩:=h2
 simp only at hr2
 have hr2':bP orc y (look st.env) (look st.mem) r1.sh r1.aa=some r2:=by
   rw [←hr2]
   refine ee (fun t ht=>?_) (fun k hk=>?_)
   · rw [cZ,if_neg]
     intro e
     exact (hd1 t e).1 ht
   · rw [iR]
     split
     · rename_i e
       have:=jS (hK k e hk).1 (by rw [e];simp) hr1
       rw [this]
     · rfl
 obtain ⟨sh',ts',hy,hsh,hts⟩:∃sh' ts',bP orc y (look st.env) (look st.mem) st.sh st.aa=some { r2 with sh:=sh',aa:=ts' } ∧
     ((x.op.eR=false∧sh'=r2.sh∧r1.sh=st.sh)∨(sh'=st.sh∧r2.sh=r1.sh)) ∧
     ((x.op.d0=false∧ts'=r2.aa∧r1.aa=st.aa)∨(y.op.d0=false∧ts'=st.aa∧r2.aa=r1.aa)):=by
   have stepS:∃sh',bP orc y (look st.env) (look st.mem) st.sh r1.aa=some { r2 with sh:=sh' }∧((x.op.eR=false∧sh'=r2.sh∧r1.sh=st.sh)∨(sh'=st.sh∧r2.sh=r1.sh)):=by
     rcases hS with hS | hS | ⟨hS,hS'⟩
     · have e:=(mL hS hr1).1
       exact ⟨r2.sh,by rw [←e];exact hr2',.inl ⟨hS,rfl,e⟩⟩
     · obtain ⟨e,f⟩:=mL hS hr2'
       exact ⟨st.sh,f st.sh,.inr ⟨rfl,e⟩⟩
     · have e:=rm hS hr1
       have e2:=rm hS' hr2'
       exact ⟨r2.sh,by rw [←e];exact hr2',.inr ⟨e2.trans e,e2⟩⟩
   obtain ⟨sh',hy1,hsh⟩:=stepS
   rcases hT with hT | hT
   · have e:=(jR hT hr1).1
     exact ⟨sh',r2.aa,by rw [←e];exact hy1,hsh,.inl ⟨hT,rfl,e⟩⟩
   · obtain ⟨_,f⟩:=jR hT hy1
     have e:=(jR hT hr2').1
     exact ⟨sh',st.aa,f st.aa,hsh,.inr ⟨hT,rfl,e⟩⟩
 refine ⟨{ env:=dP st.env y.dst r2.val,mem:=dk st.mem y.op.key r2.cells,sh:=sh',aa:=ts' },?_⟩
 have hx:bP orc x (look (dP st.env y.dst r2.val)) (look (dk st.mem y.op.key r2.cells)) st.sh st.aa=some r1:=by
   rw [←hr1]
   refine ee (fun t ht=>?_) (fun k hk=>?_)
   · rw [cZ,if_neg]
     intro e
     exact hd2 t e ht
   · rw [iR]
     split
     · rename_i e
       have:=jS (hK k hk e).2 (by rw [e];simp) hr2'
       rw [this]
     · rfl
 obtain ⟨r1',hx',hval,hcells,hsh2,hts2⟩:∃r1',bP orc x (look (dP st.env y.dst r2.val)) (look (dk st.mem y.op.key r2.cells)) sh' ts'=some r1'∧r1'.val=r1.val∧r1'.cells=r1.cells∧r1'.sh=r2.sh∧r1'.aa=r2.aa:=by
   have stepS:∃r1',bP orc x (look (dP st.env y.dst r2.val)) (look (dk st.mem y.op.key r2.cells)) sh' st.aa=some r1'∧r1'.val=r1.val∧r1'.cells=r1.cells∧r1'.sh=r2.sh∧r1'.aa=r1.aa:=by
     rcases hsh with ⟨hS,rfl,_⟩ | ⟨rfl,e⟩
     · exact ⟨_,(mL hS hx).2 r2.sh,rfl,rfl,rfl,rfl⟩
     · exact ⟨r1,hx,rfl,rfl,e.symm,rfl⟩
   obtain ⟨ra,ha,a1,a2,a3,a4⟩:=stepS
   rcases hts with ⟨hT,rfl,_⟩ | ⟨_,rfl,e⟩
   · exact ⟨_,(jR hT ha).2 r2.aa,a1,a2,a3,rfl⟩
   · exact ⟨ra,ha,a1,a2,a3,a4.trans e.symm⟩
 refine ⟨{ env:=dP (dP st.env y.dst r2.val) x.dst r1'.val,mem:=dk (dk st.mem y.op.key r2.cells) x.op.key r1'.cells,sh:=r1'.sh,aa:=r1'.aa },?_,?_,?_⟩
 · rw [cQ,hy];rfl
 · rw [cQ,hx'];rfl
 · refine ⟨fun t=>?_,fun t=>?_,hsh2,hts2⟩
   · simp only [cZ,hval]
     by_cases hx:x.dst=some t
     · rw [if_pos hx,if_neg (hd1 t hx).2,if_pos hx]
     · rw [if_neg hx,if_neg hx]
   · simp only [iR,hcells]
     by_cases hx:x.op.key=some t
     · rw [if_pos hx,if_pos hx]
       by_cases hy:y.op.key=some t
       · rw [if_pos hy,if_pos hy]
         have e1:=jS (hK t hx hy).1 (by rw [hx];simp) hr1
         have e2:=jS (hK t hx hy).2 (by rw [hy];simp) hr2'
         rw [e1,e2]
       · rw [if_neg hy,if_neg hy]
     · rw [if_neg hx,if_neg hx]
theorem pD {o:cB} {a:Nat} (h:o.addr=some a):∃r,o.args=.t a::r∧((∃sz ag,o.op=.dJ sz ag)∨∃sz,o.op=.ev sz):=by
 unfold cB.addr at h
 split at h
 · rename_i sz ag a' r h1 h2;cases h;exact ⟨r,h2,.inl ⟨sz,ag,h1⟩⟩
 · rename_i sz a' r h1 h2;cases h;exact ⟨r,h2,.inr ⟨sz,h1⟩⟩
 · cases h
theorem mM {o:cB} {a:Nat} (h:o.addr=some a):a∈o.looks:=by
 obtain ⟨r,h1,_⟩:=pD h
 simp [cB.looks,h1]
theorem rn {o:cB} {a:Nat} (h:o.addr=some a):o.op.key=none:=by
 obtain ⟨r,_,h | h⟩:=pD h
 · obtain ⟨_,_,h⟩:=h;rw [h];rfl
 · obtain ⟨_,h⟩:=h;rw [h];rfl
def xB (b:Nat) (g:Sh→Sh):Prop:=g=id∨∃x,g=fun s=>s.set b x
theorem xB.other {b b':Nat} {g:Sh→Sh} (h:xB b g) (hb:b≠b') (s:Sh):(g s)[b']?=s[b']?:=by
 rcases h with rfl | ⟨x,rfl⟩
 · rfl
 · exact List.getElem?_set_ne hb
theorem xB.comm {b b':Nat} {g g':Sh→Sh} (h:xB b g) (h':xB b' g') (hb:b≠b') (s:Sh):g (g' s)=g' (g s):=by
 rcases h with rfl | ⟨x,rfl⟩
 · rfl
 · rcases h' with rfl | ⟨y,rfl⟩
   · rfl
   · exact (List.set_comm _ _ hb.symm)
theorem lC {o:cB} {a:Nat} (h:o.addr=some a) {E:Nat→Option AV} {M:Nat→Option (List AV)} {sh:Sh} {aa:aq} {r:Out} {b off:Nat} (hE:E a=some (.aJ b off))
   (hr:bP orc o E M sh aa=some r):r.cells=none∧r.aa=aa∧∃g,xB b g∧r.sh=g sh∧∀sh',sh'[b]?=sh[b]?→bP orc o E M sh' aa=some { r with sh:=g sh' }:=by
 obtain ⟨rest,h1,h2⟩:=pD h
 unfold bP at hr ⊢
 split at hr
 · simp at hr
 · simp at hr;subst hr
   exact ⟨rfl,rfl,id,.inl rfl,rfl,fun sh' _=>rfl⟩
 · rw [h1] at hr ⊢
   simp only [gH,Aa,hE] at hr ⊢
   cases hv:gH E rest with
   | none=>rw [hv] at hr;simp at hr
   | some vs=>
     rw [hv] at hr
     simp only at hr ⊢
     rcases h2 with ⟨sz,ag,h2⟩ | ⟨sz,h2⟩
     · rw [h2] at hr ⊢
       obtain ⟨p,x,hp,rfl,hor⟩:=gS hr
       refine ⟨rfl,rfl,id,.inl rfl,rfl,fun sh' hs=>?_⟩
       cases vs with
       | cons _ _=>simp at hp
       | nil=>
         simp at hp
         rcases hor with ⟨cs,rfl,hx⟩ | ⟨b',off',cs,rfl,hcs,hm,hx⟩
         · simp at hp
         · simp at hp
           obtain ⟨rfl,rfl⟩:=hp
           simp [exec,hs,hcs,hm,hx]
     · rw [h2] at hr ⊢
       obtain ⟨b',off',v,cs,hp,hcs,h0,h1',h2',h3,h4,rfl⟩:=eM hr
       simp at hp
       obtain ⟨⟨rfl,rfl⟩,rfl⟩:=hp
       refine ⟨rfl,rfl,fun s=>s.set b (some (aO cs off (bE v))),.inr ⟨_,rfl⟩,rfl,fun sh' hs=>?_⟩
       simp only [exec,hs,hcs]
       rw [if_pos ⟨h0,h1',h2',h3,h4⟩]
def FI (F:Nat→Option AV) (x y:cB):Prop:=indep x y=true ∨
 ((∀d,x.dst=some d→d∉y.looks∧y.dst≠some d)∧(∀d,y.dst=some d→d∉x.looks)∧∃a b,x.addr=some a∧y.addr=some b∧apart (F a) (F b)=true)
theorem oA {x y:Option AV} (h:apart x y=true):∃b o b' o',x=some (.aJ b o)∧y=some (.aJ b' o')∧b≠b':=by
 unfold apart at h
 split at h
 · rename_i b o b' o'
   exact ⟨b,o,b',o',rfl,rfl,by simpa using h⟩
 · cases h
theorem Ac {F:Nat→Option AV} {x y:cB} (h:FI F x y) {st st1 st2:St} (hx:∀a,x.addr=some a→look st.env a=F a) (hy:∀a,y.addr=some a→look st1.env a=F a)
   (h1:cG orc x st=some st1) (h2:cG orc y st1=some st2) :
   ∃st1' st2',cG orc y st=some st1'∧cG orc x st1'=some st2'∧gr st2' st2∧(∀a,y.addr=some a→look st.env a=F a)∧(∀a,x.addr=some a→look st1'.env a=F a):=by
 have hside:(∀d,x.dst=some d→d∉y.looks∧y.dst≠some d)∧(∀d,y.dst=some d→d∉x.looks):=by
   rcases h with h | h
   · exact ⟨(kB h).1,(kB h).2.1⟩
   · exact ⟨h.1,h.2.1⟩
 have hyst:∀a,y.addr=some a→look st.env a=F a:=by
   intro a ha
   have h3:=hy a ha
   rw [cQ,Option.map_eq_some_iff] at h1
   obtain ⟨r1,_,rfl⟩:=h1
   rw [←h3]
   simp only [cZ]
   rw [if_neg]
   intro e
   exact (hside.1 a e).1 (mM ha)
 have hxst:∀st1',cG orc y st=some st1'→∀a,x.addr=some a→look st1'.env a=F a:=by
   intro st1' h3 a ha
   rw [cQ,Option.map_eq_some_iff] at h3
   obtain ⟨r1,_,rfl⟩:=h3
   rw [←hx a ha]
   simp only [cZ]
   rw [if_neg]
   intro e
   exact hside.2 a e (mM ha)
 rcases h with h | ⟨hd1,hd2,a,b,ha,hb,hap⟩
 · obtain ⟨st1',st2',g1,g2,g3⟩:=CC h h1 h2
   exact ⟨st1',st2',g1,g2,g3,hyst,hxst st1' g1⟩
 · obtain ⟨ba,oa,bb,ob,fa,fb,hne⟩:=oA hap
   have hE1:look st.env a=some (.aJ ba oa):=(hx a ha).trans fa
   have hE2:look st.env b=some (.aJ bb ob):=(hyst b hb).trans fb
   have h1':=h1
   rw [cQ,Option.map_eq_some_iff] at h1 h2
   obtain ⟨r1,hr1,rfl⟩:=h1
   obtain ⟨r2,hr2,rfl⟩:=h2
   obtain ⟨c1,t1,gx,tx,s1,k1⟩:=lC ha hE1 hr1
   simp only at hr2
   have hr2':bP orc y (look st.env) (look st.mem) (gx st.sh) st.aa=some r2:=by
     rw [←hr2,s1,t1]
     refine ee (fun t ht=>?_) (fun k hk=>?_)
     · rw [cZ,if_neg]
       intro e
       exact (hd1 t e).1 ht
     · rw [rn hb] at hk;cases hk
   obtain ⟨c2,t2,gy,ty,s2,k2⟩:=lC hb hE2 hr2'
   have hy0:=k2 st.sh (tx.other hne st.sh).symm
   have hy1:cG orc y st=some { env:=dP st.env y.dst r2.val,mem:=dk st.mem y.op.key r2.cells,sh:=gy st.sh,aa:=r2.aa }:=by
     rw [cQ,hy0];rfl
   have hx0:bP orc x (look (dP st.env y.dst r2.val)) (look (dk st.mem y.op.key r2.cells)) (gy st.sh) r2.aa=some { r1 with sh:=gx (gy st.sh) }:=by
     rw [←k1 (gy st.sh) (ty.other (Ne.symm hne) st.sh),t2]
     refine ee (fun t ht=>?_) (fun k hk=>?_)
     · rw [cZ,if_neg]
       intro e
       exact hd2 t e ht
     · rw [rn ha] at hk;cases hk
   refine ⟨_,{ env:=dP (dP st.env y.dst r2.val) x.dst r1.val,mem:=dk (dk st.mem y.op.key r2.cells) x.op.key r1.cells,sh:=gx (gy st.sh),aa:=r1.aa },hy1,?_,?_,hyst,hxst _ hy1⟩
   · rw [cQ,hx0];rfl
   · refine ⟨fun t=>?_,fun t=>?_,?_,?_⟩
     · simp only [cZ]
       by_cases hx:x.dst=some t
       · rw [if_pos hx,if_neg (hd1 t hx).2,if_pos hx]
       · rw [if_neg hx,if_neg hx]
     · simp only [c1,c2,dI]
     · simp only [s2];exact tx.comm ty hne st.sh
     · simp only [t1,t2]
variable {ops:Array Oper} {as:List cB} {R:St→Prop} {F:Nat→Option AV}
def rp (orc:dr) (ops:Array Oper) (as:List cB) (F:Nat→Option AV) (R:St→Prop):Nat→Array Bool→St→Prop
 | 0,listed,st=>Region.ready .any ops listed=[]∧R st
 | fuel+1,listed,st=>(Region.ready .any ops listed=[]→R st) ∧
   ∀i∈Region.ready .any ops listed,∃ao st',as[i]?=some ao∧(∀a,ao.addr=some a→look st.env a=F a)∧cG orc ao st=some st'∧rp orc ops as F R fuel (listed.setIfInBounds i true) st'
theorem oB (hR:∀x y,gr x y→R x→R y):∀{fuel:Nat} {listed:Array Bool} {x y:St},gr x y→rp orc ops as F R fuel listed x→rp orc ops as F R fuel listed y
 | 0,_,_,_,hl,h=>⟨h.1,hR _ _ hl h.2⟩
 | fuel+1,_,_,_,hl,h=>⟨fun h0=>hR _ _ hl (h.1 h0),fun i hi=>by
     obtain ⟨ao,st',h1,h6,h2,h3⟩:=h.2 i hi
     obtain ⟨y',h4,h5⟩:=xA hl h2
     exact ⟨ao,y',h1,fun a ha=>(hl.env a).symm.trans (h6 a ha),h4,oB hR h5 h3⟩⟩
def Down (ops:Array Oper) (listed:Array Bool):Prop:=∀k o,ops[k]?=some o→listed.getD k false=true→∀e∈o.after,Region.binds .any e=true→listed.getD e.on false=true
theorem Down.step {listed:Array Bool} (h:Down ops listed) {i:Nat} (hi:i∈Region.ready .any ops listed):Down ops (listed.setIfInBounds i true):=by
 intro k o ho hk e he hb
 by_cases hik:i=k
 · subst hik
   obtain ⟨_,o',ho',hall⟩:=mem_ready.1 hi
   rw [ho] at ho';cases ho'
   exact getD_set_true (hall e he hb)
 · rw [getD_set_ne false hik] at hk
   exact getD_set_true (h k o ho hk e he hb)
theorem tE (hR:∀x y,gr x y→R x→R y) {i:Nat} {ai:cB} (hai:as[i]?=some ai) {waits:Nat→Bool}
   (hwait:∀(listed:Array Bool),Down ops listed→∀j∈Region.ready .any ops listed,waits j=true→listed.getD i false=true) :
   ∀(fuel:Nat) (listed:Array Bool) (st st1:St),Down ops listed →
     (∀j aj,as[j]?=some aj→j≠i→listed.getD j true=false→waits j=false→FI F ai aj)→(∀a,ai.addr=some a→look st.env a=F a) →
     i∈Region.ready .any ops listed→cG orc ai st=some st1→rp orc ops as F R fuel (listed.setIfInBounds i true) st1→rp orc ops as F R (fuel+1) listed st:=by
 intro fuel
 induction fuel with
 | zero=>
   intro listed st st1 hdown hfree haddr hi hev H
   refine ⟨fun h=>(by rw [h] at hi;cases hi),fun j hj=>?_⟩
   by_cases hji:j=i
   · subst hji;exact ⟨ai,st1,hai,haddr,hev,H⟩
   · have:=ready_mono hj hji
     rw [H.1] at this
     cases this
 | succ fuel ih=>
   intro listed st st1 hdown hfree haddr hi hev H
   refine ⟨fun h=>(by rw [h] at hi;cases hi),fun j hj=>?_⟩
   by_cases hji:j=i
   · subst hji;exact ⟨ai,st1,hai,haddr,hev,H⟩
   · obtain ⟨aj,st2,h1,h6,h2,h3⟩:=H.2 j (ready_mono hj hji)
     obtain ⟨hun,_⟩:=mem_ready.1 hj
     have hw:waits j=false:=by
       cases hw:waits j with
       | false=>rfl
       | true=>
         have h1:=hwait listed hdown j hj hw
         have h0:=(mem_ready.1 hi).1
         rcases Nat.lt_or_ge i listed.size with h' | h'
         · simp [h'] at h0 h1;rw [h0] at h1;cases h1
         · simp [Array.getElem?_eq_none h'] at h1
     obtain ⟨st1',st2',g1,g2,g3,g4,g5⟩:=Ac (hfree j aj h1 hji hun hw) haddr h6 hev h2
     refine ⟨aj,st1',h1,g4,g1,ih (listed.setIfInBounds j true) st1' st2' (hdown.step hj) ?_ g5 (ready_mono hi (Ne.symm hji)) g2 ?_⟩
     · intro k ak hk hki hun' hwk
       refine hfree k ak hk hki ?_ hwk
       by_cases hjk:j=k
       · subst hjk;exact hun
       · rw [getD_set_ne true hjk] at hun';exact hun'
     · rw [Array.setIfInBounds_comm _ _ hji]
       exact oB hR g3.symm h3
theorem jT (acc:List Nat) (i:Nat):∀(l:List Edge) (s:Nat),
   (l.foldl (fun s e=>if Region.binds .any e then s ||| 2 ^ e.on ||| acc.getD e.on 0 else s) s).testBit i=true →
   s.testBit i=true∨∃e∈l,Region.binds .any e=true∧(e.on=i∨(acc.getD e.on 0).testBit i=true)
 | [],s,h=>.inl h
 | e::l,s,h=>by
   simp only [List.foldl_cons] at h
   rcases jT acc i l _ h with h1 | ⟨e',h2,h3⟩
   · split at h1
     · rename_i hb
       rw [Nat.testBit_or,Nat.testBit_or,Bool.or_eq_true,Bool.or_eq_true] at h1
       rcases h1 with (h1 | h1) | h1
       · exact .inl h1
       · refine .inr ⟨e,by simp,hb,.inl ?_⟩
         rw [Nat.testBit_two_pow] at h1
         simpa using h1
       · exact .inr ⟨e,by simp,hb,.inr h1⟩
     · exact .inl h1
   · exact .inr ⟨e',by simp [h2],h3⟩
theorem mN:∀(l:List Oper) (acc:List Nat),(iq l acc).length=acc.length+l.length∧(∀j,j<acc.length→(iq l acc).getD j 0=acc.getD j 0) ∧
   ∀k o,l[k]?=some o→∀i,((iq l acc).getD (acc.length+k) 0).testBit i=true→∃e∈o.after.toList,Region.binds .any e=true∧(e.on=i∨((iq l acc).getD e.on 0).testBit i=true)
 | [],acc=>⟨by simp [iq],fun j _=>rfl,fun k o h=>by simp at h⟩
 | o::l,acc=>by
   simp only [iq]
   obtain ⟨h1,h2,h3⟩:=mN l (acc++[o.after.toList.foldl (fun s e=>if Region.binds .any e then s ||| 2 ^ e.on ||| acc.getD e.on 0 else s) 0])
   refine ⟨by rw [h1];simp;omega,fun j hj=>?_,fun k o' ho i hi=>?_⟩
   · rw [h2 j (by simp;omega)]
     simp [List.getD,List.getElem?_append_left hj]
   · cases k with
     | zero=>
       simp at ho;subst ho
       rw [Nat.add_zero,h2 acc.length (by simp)] at hi
       have:(acc++[o.after.toList.foldl (fun s e=>if Region.binds .any e then s ||| 2 ^ e.on ||| acc.getD e.on 0 else s) 0]).getD acc.length 0 =
           o.after.toList.foldl (fun s e=>if Region.binds .any e then s ||| 2 ^ e.on ||| acc.getD e.on 0 else s) 0:=by
         simp [List.getD]
       rw [this] at hi
       rcases jT acc i _ _ hi with h | ⟨e,h4,h5,h6⟩
       · simp at h
       · refine ⟨e,h4,h5,Ct h6 fun h=>?_⟩
         have hlt:e.on<acc.length:=by
           rcases Nat.lt_or_ge e.on acc.length with h' | h'
           · exact h'
           · simp [List.getD,List.getElem?_eq_none h'] at h
         rw [h2 e.on (by simp;omega)]
         simpa [List.getD,List.getElem?_append_left hlt] using h
     | succ k=>
       have:=h3 k o' (by simpa using ho) i (by simpa [Nat.add_assoc,Nat.add_comm 1 k] using hi)
       exact this
theorem fH:∀(l:List Oper) (i:Nat),ez i l=true→∀k o,l[k]?=some o→∀e∈o.after,Region.binds .any e=true→e.on<i+k
 | [],_,_,k,o,h,_,_,_=>by simp at h
 | o::l,i,hd,k,o',ho,e,he,hb=>by
   simp only [ez,Bool.and_eq_true,List.all_eq_true] at hd
   cases k with
   | zero=>
     simp at ho;subst ho
     have:=hd.1 e (by simpa using he)
     simpa [hb] using this
   | succ k=>
     have:=fH l (i+1) hd.2 k o' (by simpa using ho) e he hb
     omega
theorem pE {l:List Oper} (hl:ops.toList=l) (hd:ez 0 l=true) {listed:Array Bool} (hdown:Down ops listed) (i:Nat):∀(j:Nat) (o:Oper),ops[j]?=some o →
   (∀e∈o.after,Region.binds .any e=true→listed.getD e.on false=true)→((iq l []).getD j 0).testBit i=true→listed.getD i false=true:=by
 intro j
 induction j using Nat.strongRecOn with
 | _ j ih=>
   intro o ho hall hbit
   have hlo:l[j]?=some o:=by rw [←hl];simpa using ho
   obtain ⟨e,h1,h2,h3⟩:=(mN l []).2.2 j o hlo i (by simpa using hbit)
   have he:e∈o.after:=by simpa using h1
   rcases h3 with h3 | h3
   · rw [←h3];exact hall e he h2
   · have hlt:=fH l 0 hd j o hlo e he h2
     have hlt':e.on<j:=by omega
     have hjs:j<ops.size:=(Array.getElem?_eq_some_iff.1 ho).1
     have hoo:ops[e.on]?=some (ops[e.on]'(by omega)):=Array.getElem?_eq_getElem (by omega)
     exact ih e.on hlt' _ hoo (fun e' he' hb'=>hdown e.on _ hoo (hall e he h2) e' he' hb') h3
theorem jU {ds:List (Nat×Nat)} {ms:List Nat} {i:Nat} {x:cB}:∀(l:List cB) (j:Nat),lV ds ms i x j l=true→∀k y,l[k]?=some y→(ms.getD (j+k) 0).testBit i=true∨(indep x y || qu ds x y)=true
 | [],_,_,k,y,h=>by simp at h
 | z::l,j,hp,k,y,hy=>by
   simp only [lV,Bool.and_eq_true,Bool.or_eq_true] at hp
   cases k with
   | zero=>simp at hy;subst hy;simpa [or_assoc] using hp.1
   | succ k=>
     have:=jU l (j+1) hp.2 k y (by simpa using hy)
     rwa [show j+1+k=j+(k+1) from by omega] at this
theorem i5 {ds:List (Nat×Nat)} {ms:List Nat}:∀(l:List cB) (i:Nat),ir ds ms i l=true→∀k m x y,k<m→l[k]?=some x→l[m]?=some y→(ms.getD (i+m) 0).testBit (i+k)=true∨(indep x y || qu ds x y)=true
 | [],_,_,k,m,x,y,_,h,_=>by simp at h
 | z::l,i,hp,k,m,x,y,hkm,hx,hy=>by
   simp only [ir,Bool.and_eq_true] at hp
   cases m with
   | zero=>omega
   | succ m=>
     cases k with
     | zero=>
       simp at hx;subst hx
       have:=jU l (i+1) hp.1 m y (by simpa using hy)
       rwa [show i+1+m=i+(m+1) from by omega] at this
     | succ k=>
       have:=i5 l (i+1) hp.2 k m x y (by omega) (by simpa using hx) (by simpa using hy)
       rwa [show i+1+m=i+(m+1) from by omega,show i+1+k=i+(k+1) from by omega] at this
theorem lR {n:Nat} (hd:ez 0 ops.toList=true) {k:Nat} {o:Oper} {listed:Array Bool} (hs:listed.size=n) (hl:∀j,j<n→listed[j]?=some (decide (j<k))) (hn:ops.size=n) (ho:ops[k]?=some o) :
   k∈Region.ready .any ops listed:=by
 have hk:k<ops.size:=(Array.getElem?_eq_some_iff.1 ho).1
 rw [mem_ready]
 refine ⟨by simp [hl k (by omega)],o,ho,fun e he hb=>?_⟩
 have:=fH _ 0 hd k o (by simpa using ho) e he hb
 simp [hl e.on (by omega)]
 omega
theorem xC {ds:List (Nat×Nat)} {x y:cB} (h:qu ds x y=true) :
   (∀d,x.dst=some d→d∉y.looks∧y.dst≠some d)∧(∀d,y.dst=some d→d∉x.looks)∧∃a b,x.addr=some a∧y.addr=some b∧(a,b)∈ds:=by
 simp only [qu,Bool.and_eq_true] at h
 obtain ⟨⟨h1,h2⟩,h3⟩:=h
 refine ⟨fun d hd=>?_,fun d hd=>?_,?_⟩
 · rw [hd] at h1
   simp at h1
   exact h1
 · rw [hd] at h2
   simpa using h2
 · split at h3
   · rename_i a b ha hb
     exact ⟨a,b,ha,hb,by simpa using h3⟩
   · cases h3
theorem mO {env:List (Nat×AV)}:∀{ds:List (Nat×Nat)},eQ env ds=true→∀a b,(a,b)∈ds→apart (look env a) (look env b)=true
 | [],_,a,b,h=>by simp at h
 | (a',b')::r,h,a,b,hm=>by
   simp only [eQ,Bool.and_eq_true] at h
   simp only [List.mem_cons,Prod.mk.injEq] at hm
   rcases hm with ⟨rfl,rfl⟩ | hm
   · exact h.1
   · exact mO h.2 a b hm
theorem mP {t:Nat}:∀{l:List cB} {st st':St},l.all (fun o=>o.dst != some t)=true→aY orc l st=some st'→look st'.env t=look st.env t
 | [],st,st',_,h=>by simp [aY] at h;subst h;rfl
 | o::l,st,st',hl,h=>by
   simp only [List.all_cons,Bool.and_eq_true,bne_iff_ne,ne_eq] at hl
   simp only [aY] at h
   split at h
   · simp at h
   · rename_i st1 h1
     rw [mP (by simpa using hl.2) h]
     rw [cQ,Option.map_eq_some_iff] at h1
     obtain ⟨r1,_,rfl⟩:=h1
     simp only [cZ]
     rw [if_neg hl.1]
theorem rq {ds:List (Nat×Nat)} (hR:∀x y,gr x y→R x→R y) (hd:ez 0 ops.toList=true) (hp:ir ds (iq ops.toList []) 0 as=true) (hlen:as.length=ops.size)
   (hF:∀a b,(a,b)∈ds→apart (F a) (F b)=true) :
   ∀(l:List cB) (k:Nat) (listed:Array Bool) (st st':St),(∀j,l[j]?=as[k+j]?)→l.length+k=ops.size→listed.size=ops.size→(∀j,j<ops.size→listed[j]?=some (decide (j<k)))→Down ops listed →
     o7 l=true→(∀a,F a=look st'.env a)→aY orc l st=some st'→R st'→rp orc ops as F R l.length listed st
 | [],k,listed,st,st',_,hk,hs,hl,_,_,_,hev,hr=>by
   simp [aY] at hev;subst hev
   refine ⟨?_,hr⟩
   rw [List.eq_nil_iff_forall_not_mem]
   intro i hi
   obtain ⟨h1,o,ho,_⟩:=mem_ready.1 hi
   have hi':i<ops.size:=(Array.getElem?_eq_some_iff.1 ho).1
   simp at hk
   simp [hl i hi'] at h1
   omega
 | x::l,k,listed,st,st',hlk,hk,hs,hl,hdown,hlt,hFe,hev,hr=>by
   have hev0:=hev
   simp only [o7,Bool.and_eq_true] at hlt
   simp only [aY] at hev
   split at hev
   · simp at hev
   · rename_i st1 hst1
     simp only [List.length_cons] at hk ⊢
     have hx:as[k]?=some x:=by simpa using (hlk 0).symm
     have hks:k<ops.size:=by omega
     have ho:ops[k]?=some ops[k]:=Array.getElem?_eq_getElem hks
     have hready:=lR hd hs hl rfl ho
     refine tE hR hx (waits:=fun j=>((iq ops.toList []).getD j 0).testBit k) ?_ l.length listed st st1 hdown ?_ (fun a ha=>?_) hready hst1 ?_
     · intro listed' hdown' j hj hw
       obtain ⟨_,o,hoj,hall⟩:=mem_ready.1 hj
       exact pE rfl hd hdown' k j o hoj hall hw
     · intro j aj hj hjk hun hw
       have hj':j<ops.size:=by rw [←hlen];exact (List.getElem?_eq_some_iff.1 hj).1
       have hkj:k<j:=by
         simp [hl j hj'] at hun
         omega
       have:=i5 as 0 hp k j x aj hkj hx hj
       simp only [Nat.zero_add] at this
       rcases this with h | h
       · rw [h] at hw;simp at hw
       · rcases Bool.or_eq_true _ _ |>.mp h with h | h
         · exact .inl h
         · obtain ⟨f1,f2,a,b,f3,f4,f5⟩:=xC h
           exact .inr ⟨f1,f2,a,b,f3,f4,hF a b f5⟩
     · have h1:=hlt.1
       rw [ha] at h1
       rw [hFe a]
       exact (mP h1 hev0).symm
     · refine rq hR hd hp hlen hF l (k+1) (listed.setIfInBounds k true) st1 st' (fun j=>?_) (by omega) (by simp [hs]) (fun j hj=>?_) (hdown.step hready) hlt.2 hFe hev hr
       · have:=hlk (j+1)
         rw [show k+(j+1)=k+1+j from by omega] at this
         simpa using this
       · by_cases hkj:k=j
         · subst hkj;simp [hs,hks]
         · rw [Array.getElem?_setIfInBounds_ne hkj,hl j hj]
           congr 1
           simp
           omega
end
section
variable {n0:Nat} {P:Program} {ns:Names}
theorem eG.Et {n0 N:Nat} {G:Gh} {x y:St} {a:Act} {w:World} (h:eG (num ns) n0 N G x a w) (hl:gr x y):eG (num ns) n0 N G y a w:=by
 refine ⟨⟨h.env.size,fun t v ht=>h.env.env t v (by rw [hl.env];exact ht)⟩,?_,h.marks⟩
 have hi:=h.inv
 rw [hl.sh,hl.aa] at hi
 exact { hi with
   bT:=fun d cells hd=>hi.bT d cells (by rw [hl.mem];exact hd)
   ep:=fun d b hd=>by rw [←hl.mem];exact hi.ep d b hd }
theorem eG.drew {n0 N:Nat} {G:Gh} {x:St} {a:Act} {w:World} (h:eG (num ns) n0 N G x a w):eG (num ns) n0 N G x a w.drew:=⟨h.env,h.inv.drew,h.marks.tg (bf.drew G w) rfl⟩
end
end Go.Ab
namespace Go.Ab
section
variable {n0:Nat} {P:Program} {ns:Names} {ro:Option Nat} {n:Nat}
def nP (ro:Option Nat):Fence:={ Fence.wide with round:=ro }
theorem xD {f:FuncId} {args:Array Value} {w:World} {R:Ending→World→Prop} (h:Calls P f args w R):CallsIn (nP ro) n P f args w R:=by
 have h0:=callsIn_wide (n:=n).2 h
 cases ro with
 | none=>exact h0
 | some l=>exact h0.inRound l
theorem Ad {row:String} {args:Array Value} {w:World} {R:Value→World→Prop} (h:Rows P row args w R):RowsIn (nP ro) n P row args w R:=by
 intro c cs _
 obtain ⟨v,w',r,s⟩:=h c cs
 have h0:=stepsIn_wide.2 s
 exact ⟨v,w',r,h0⟩
theorem wt {o:Oper} (hd:∀c,o.op≠.defer c) {a:Act} {w:World} {next:Act→World→Prop} {Q:Exit→Act→World→Prop}
   (h:o.wp P a w next (fun _ _ _=>False)):o.wpIn (nP ro) n P a w next Q:=by
 refine ⟨fun _ _=>trivial,?_⟩
 rw [Oper.semAt_eq _ _ _ hd]
 unfold Oper.wp at h
 generalize (execOp a.eval o).run P w=r at h ⊢
 cases r with
 | ok x w'=>
   cases x<;>simp only [Oper.upon,Oper.uponIn] at h ⊢<;>try exact h
   · refine ⟨fun e=>by simp [nP,Fence.wide] at e,xD (h.mono ?_)⟩
     intro e w'' he
     cases e with
     | returned v=>exact he
     | panicked c=>exact he.elim
     | outgrown=>obtain ⟨_,_,hf⟩:=he;exact hf.elim
   · exact ⟨fun e=>by simp [nP,Fence.wide] at e,Ad h⟩
 | halt x w'=>cases x<;>simp only [Oper.upon,Oper.uponIn] at h ⊢<;>exact h.elim
theorem pF {A:gJ} {N:Nat} {ops:Array Oper} {o:Oper} {ao:cB} (hc:dx P ns A N ops o=some ao):∀c,o.op≠.defer c:=by
 intro c e
 obtain ⟨args,h1,_⟩:=hG hc
 rw [e] at h1
 simp [a9] at h1
theorem pG {G:Gh} {w:World} (hB:eT P ns) {orc:dr} (horc:fE P ns orc) {A:gJ} {N:Nat} {ops:Array Oper} {o:Oper} {ao:cB} (hc:dx P ns A N ops o=some ao)
   {st st':St} {a:Act} (hs:eG (num ns) n0 N G st a w) (hev:cG orc ao st=some st') {next:Act→World→Prop} {Q:Exit→Act→World→Prop}
   (hn:∀G' v w',eG (num ns) n0 N G' st' (a.put o.dst v) w'→bf G w G' w'→next (a.put o.dst v) w') :
   if Region.wanted o (yielded ops a.tmps) then o.wpIn (nP ro) n P a w next Q else (∀f,o.about P w a.eval=some f→(nP ro).fn f)∧next (a.put o.dst undef) w:=by
 rcases tD (Q:=fun _ _ _=>False) hB horc hc hs hev hn with ⟨h1,h2⟩ | ⟨h1,h2⟩
 · rw [if_pos h1];exact wt (pF hc) h2
 · rw [h1,if_neg (by simp)];exact ⟨fun _ _=>trivial,h2⟩
theorem ru (hB:eT P ns) {orc:dr} (horc:fE P ns orc) {A:gJ} {N:Nat} {ops:Array Oper} {Q:Exit→Act→World→Prop}:∀{l:List Oper} {as:List cB} {st st':St} {G:Gh} {a:Act} {w:World},
   bI (dx P ns A N ops) l=some as→eG (num ns) n0 N G st a w→aY orc as st=some st' →
   (∀G' a' w',eG (num ns) n0 N G' st' a' w'→bf G w G' w'→Q .normal a' w')→wpListIn (nP ro) n P ops Q l a w
 | [],as,st,st',G,a,w,hc,hs,hev,hq=>by
   simp [bI] at hc;subst hc
   simp [aY] at hev;subst hev
   exact hq G a w hs (bf.refl G w)
 | o::l,as,st,st',G,a,w,hc,hs,hev,hq=>by
   simp only [bI] at hc
   split at hc
   · rename_i ao aos h1 h2
     simp at hc;subst hc
     simp only [aY] at hev
     split at hev
     · simp at hev
     · rename_i st1 hst1
       unfold wpListIn
       exact pG hB horc h1 hs hst1 (fun G' a' w' hs' he=>ru hB horc h2 hs' hev (fun G'' a'' w'' hs'' he'=>hq G'' a'' w'' hs'' (he.trans he')))
   · simp at hc
theorem wu (hB:eT P ns) {orc:dr} (horc:fE P ns orc) {A:gJ} {N:Nat} {ops:Array Oper} {as:List cB} (hc:bI (dx P ns A N ops) ops.toList=some as) {F:Nat→Option AV} {R:St→Prop} {Q:Exit→Act→World→Prop} :
   ∀{fuel:Nat} {listed:Array Bool} {st:St} {G:Gh} {a:Act} {w:World},eG (num ns) n0 N G st a w→rp orc ops as F R fuel listed st →
     (∀st' G' a' w',R st'→eG (num ns) n0 N G' st' a' w'→bf G w G' w'→Q .normal a' w')→wpAnyIn (nP ro) n P .any ops Q fuel listed a w
 | 0,_,st,G,a,w,hs,h,hq=>⟨h.1,hq st G a w h.2 hs (bf.refl G w)⟩
 | fuel+1,listed,st,G,a,w,hs,h,hq=>by
   refine ⟨fun h0=>hq st G a w (h.1 h0) hs (bf.refl G w),fun i hi=>?_⟩
   obtain ⟨ao,st',h1,_,h2,h3⟩:=h.2 i hi
   obtain ⟨_,o,ho,_⟩:=mem_ready.1 hi
   have hco:dx P ns A N ops o=some ao:=by
     obtain ⟨y,g1,g2⟩:=qC hc (i:=i) (x:=o) (by simpa using ho)
     rw [h1] at g1;cases g1;exact g2
   unfold wpOpIn
   simp only [ho]
   exact pG hB horc hco hs h2 (fun G' a' w' hs' he=>wu hB horc hc hs' h3 (fun st'' G'' a'' w'' hr hs'' he'=>hq st'' G'' a'' w'' hr hs'' (he.trans he')))
theorem oC (hm:P.follows .mixedOrders=true) (hB:eT P ns) {orc:dr} (horc:fE P ns orc) {A:gJ} {N id:Nat} {ops:Array Oper} {draw:Bool} {as:List cB}
   (hc:bI (dx P ns A N ops) ops.toList=some as) {ds:List (Nat×Nat)} (hd:draw=true→o8 ds ops.toList as=true) {st st':St} {G:Gh} {a:Act} {w:World} (hs:eG (num ns) n0 N G st a w) (hev:aY orc as st=some st') (hfar:eQ st'.env ds=true)
   {Q:Exit→Act→World→Prop} (hq:∀G' a' w',eG (num ns) n0 N G' st' a' w'→bf G w G' w'→Q .normal a' w'):(Code.region id ops draw).wpIn (nP ro) n P Q a w:=by
 cases draw with
 | false=>exact wpIn_region_list (ru hB horc hc hs hev hq)
 | true=>
   have hd':=hd rfl
   simp only [o8,Bool.and_eq_true] at hd'
   have hlen:as.length=ops.size:=by have:=d6 hc;simpa using this
   refine wpIn_region_any hm ?_
   have hany:rp orc ops as (look st'.env) (fun s=>gr s st') ops.size (Array.replicate ops.size false) st:=by
     have:=rq (orc:=orc) (ops:=ops) (as:=as) (F:=look st'.env) (R:=fun s=>gr s st') (fun x y hl hr=>hl.symm.trans hr) hd'.1 hd'.2.1 hlen (fun a b=>mO hfar a b) as 0 (Array.replicate ops.size false) st st' (fun j=>by simp) (by simp [hlen]) (by simp)
       (fun j hj=>by simp [hj]) (fun k o ho hk=>by
         exfalso
         have hk':k<ops.size:=(Array.getElem?_eq_some_iff.1 ho).1
         simp [hk'] at hk) hd'.2.2 (fun _=>rfl) hev (gr.refl _)
     rwa [hlen] at this
   exact wu hB horc hc hs.drew hany fun s G' a' w' hl hs' he=>hq G' a' w' (hs'.Et hl) ((bf.drew G w).trans he)
end
end Go.Ab
namespace Go.Ab
def ry {α:Type} (f:Nat→Option α):Prop:=∀k k' r,k≤k'→f k=some r→f k'=some r
open Classical in
noncomputable def zQ {α:Type} (f:Nat→Option α):Option α:=if h:∃r k,f k=some r then some h.choose else none
theorem mQ {α:Type} {f:Nat→Option α} (hf:ry f) {k:Nat} {r:α} (h:f k=some r):zQ f=some r:=by
 have hex:∃r k,f k=some r:=⟨r,k,h⟩
 unfold zQ
 rw [dif_pos hex]
 obtain ⟨k',h'⟩:=hex.choose_spec
 have h1:=hf _ (max k k') _ (Nat.le_max_right _ _) h'
 have h2:=hf _ (max k k') _ (Nat.le_max_left _ _) h
 rw [h1] at h2
 exact h2
theorem ef {α:Type} {f:Nat→Option α} {r:α} (h:zQ f=some r):∃k,f k=some r:=by
 unfold zQ at h
 split at h
 · rename_i hex
   obtain ⟨k,hk⟩:=hex.choose_spec
   cases h
   exact ⟨k,hk⟩
 · simp at h
theorem mR {α:Type} {f:Nat→Option α} (h:∀k,f k=none):zQ f=none:=by
 cases hl:zQ f with
 | none=>rfl
 | some r=>obtain ⟨k,hk⟩:=ef hl;rw [h k] at hk;simp at hk
theorem iS {α:Type} {f:Nat→Option α} (hf:ry f) {o:Option α} (h1:∀k r,f k=some r→o=some r) (h2:∀r,o=some r→∃k,f k=some r):zQ f=o:=by
 cases ho:o with
 | none=>exact mR fun k=>by cases hk:f k with | none=>rfl | some r=>rw [h1 k r hk] at ho;simp at ho
 | some r=>obtain ⟨k,hk⟩:=h2 r ho;exact mQ hf hk
structure dr.le (a b:dr):Prop where
 p:∀g x r,a.p g x=some r→b.p g x=some r
 i:∀g x s t r,a.i g x s t=some r→b.i g x s t=some r
theorem dr.le_refl (a:dr):a.le a:=⟨fun _ _ _ h=>h,fun _ _ _ _ _ h=>h⟩
theorem gu {a b:dr} (h:a.le b) {g:Nat} {own:List Nat} {vals:List AV} {sh:Sh} {aa:aq} {r:AV×Sh×aq} (e:cE a g own vals sh aa=some r):cE b g own vals sh aa=some r:=by
 unfold cE at *
 split at e
 · rename_i hp
   rw [if_pos hp]
   simp only [Option.map_eq_some_iff] at e ⊢
   obtain ⟨x,h1,h2⟩:=e
   exact ⟨x,h.i _ _ _ _ _ h1,h2⟩
 · simp at e
theorem xE {a b:dr} (h:a.le b) {op:AK} {vals:List AV} {cells:Option (List AV)} {sh:Sh} {aa:aq} {r:Out} (e:exec a op vals cells sh aa=some r):exec b op vals cells sh aa=some r:=by
 cases op with
 | aR g=>
   simp only [exec] at e ⊢
   split at e
   · simp only [Option.map_eq_some_iff] at e ⊢
     obtain ⟨x,h1,h2⟩:=e
     exact ⟨x,h.p _ _ _ h1,h2⟩
   · simp at e
 | ew g=>
   simp only [exec] at e ⊢
   split at e
   · simp only [Option.map_eq_some_iff] at e ⊢
     obtain ⟨x,h1,h2⟩:=e
     exact ⟨x,h.p _ _ _ h1,h2⟩
   · simp at e
 | bV g own=>
   simp only [exec,Option.map_eq_some_iff] at e ⊢
   obtain ⟨x,h1,h2⟩:=e
   exact ⟨x,gu h h1,h2⟩
 | ik g=>
   simp only [exec] at e ⊢
   split at e
   · split at e
     · rename_i rs ts h1
       rw [h.i _ _ _ _ _ h1]
       exact e
     · simp at e
   · simp at e
 | da=>
   cases vals with
   | nil=>simp [exec] at e
   | cons f vals=>
     cases f with
     | fn g cap=>
       simp only [exec,Option.bind_eq_some_iff] at e ⊢
       obtain ⟨x,h1,h2⟩:=e
       exact ⟨x,gu h h1,h2⟩
     | _=>simp [exec] at e
 | fl=>
   cases vals with
   | nil=>simp [exec] at e
   | cons f vals=>
     cases f with
     | fn g cap=>
       simp only [exec,Option.map_eq_some_iff] at e ⊢
       obtain ⟨x,h1,h2⟩:=e
       exact ⟨x,gu h h1,h2⟩
     | _=>simp [exec] at e
 | _=>rw [←e];unfold exec;split<;>first | rfl | (rename_i heq;cases heq;done) | (simp at *;done)
theorem oD {a b:dr} (h:a.le b) {o:cB} {st r:St} (e:cG a o st=some r):cG b o st=some r:=by
 unfold cG at *
 cases hw:dH st.env o.guard with
 | none=>rw [hw] at e;simp at e
 | some t=>
   cases t with
   | false=>rw [hw] at e;exact e
   | true=>
     rw [hw] at e
     dsimp only at e ⊢
     cases hv:cJ st.env o.args with
     | none=>rw [hv] at e;simp at e
     | some vals=>
       rw [hv] at e
       dsimp only at e ⊢
       cases ho:exec a o.op vals (o.op.key.bind (look st.mem)) st.sh st.aa with
       | none=>rw [ho] at e;simp at e
       | some out=>
         rw [ho] at e
         rw [xE h ho]
         exact e
theorem ji {a b:dr} (h:a.le b):∀{l:List cB} {st r:St},aY a l st=some r→aY b l st=some r
 | [],_,_,e=>e
 | o::l,st,r,e=>by
   simp only [aY] at e ⊢
   split at e
   · simp at e
   · rename_i st' ho
     rw [oD h ho]
     exact ji h e
theorem fJ {f f':St→Option (aP×St)} {pre:St→St} (h:∀s r,f s=some r→f' s=some r):∀{n n':Nat} {st:St} {r:aP×St},n≤n'→dw f pre n st=some r→dw f' pre n' st=some r
 | 0,_,_,_,_,e=>by simp [dw] at e
 | n+1,0,_,_,hn,_=>by omega
 | n+1,n'+1,st,r,hn,e=>by
   simp only [dw] at e ⊢
   cases hf:f (pre st) with
   | none=>rw [hf] at e;simp at e
   | some q=>
     rw [h _ _ hf]
     rw [hf] at e
     obtain ⟨x,s⟩:=q
     cases x with
     | normal=>exact fJ h (by omega) e
     | ret=>exact e
     | exit id=>exact e
theorem jj {f f':St→Option (aP×St)} (h:∀s r,f s=some r→f' s=some r) {live:List Nat} {pi px sz:Nat} {ag:Bool} {env:List (Nat×AV)}:∀{l:List (PV×Nat)} {st:St} {r:aP×St},
   kQ f live pi px sz ag env l st=some r→kQ f' live pi px sz ag env l st=some r
 | [],_,_,e=>e
 | (el,i)::l,st,r,e=>by
   simp only [kQ] at e ⊢
   cases hv:Ec sz ag el with
   | none=>rw [hv] at e;simp at e
   | some v=>
     rw [hv] at e
     simp only at e ⊢
     cases hf:f (norm (restrict live { st with env:=cC (cC env pi (.pv (.int .i64 i))) px v })) with
     | none=>rw [hf] at e;simp at e
     | some q=>
       rw [h _ _ hf]
       rw [hf] at e
       obtain ⟨x,s⟩:=q
       cases x with
       | normal=>exact jj h e
       | ret=>exact e
       | exit id=>exact e
theorem nQ {f f':St→Option (aP×St)} (h:∀s r,f s=some r→f' s=some r) {v:Option AV} {gb pi px sz:Nat} {ag:Bool} {live:List Nat} {st:St} {r:aP×St}
   (e:im f v gb pi px sz ag live st=some r):im f' v gb pi px sz ag live st=some r:=by
 unfold im at e ⊢
 split at e
 · split at e
   · rename_i hg
     rw [if_pos hg]
     split at e
     · split at e
       · rename_i hl
         rw [if_pos hl]
         exact jj h e
       · simp at e
     · simp at e
   · simp at e
 · simp at e
theorem jV {f g f' g':St→Option (aP×St)} (h:∀s r,f s=some r→f' s=some r) (k:∀s r,g s=some r→g' s=some r):∀s r,andThen f g s=some r→andThen f' g' s=some r:=by
 intro s r e
 unfold andThen at e ⊢
 cases hf:f s with
 | none=>rw [hf] at e;simp at e
 | some q=>
   rw [h _ _ hf]
   rw [hf] at e
   obtain ⟨x,t⟩:=q
   cases x with
   | normal=>exact k _ _ e
   | ret=>simp at e
   | exit id=>simp at e
theorem bx {a b:dr} (h:a.le b) {k k':Nat} (hk:k≤k'):∀{c:au} {st:St} {r:aP×St},bM a k c st=some r→bM b k' c st=some r
 | .skip,_,_,e=>e
 | .eo _,_,_,e=>e
 | .DN _,_,_,e=>e
 | .ie _,_,_,e=>e
 | .il _,_,_,e=>e
 | .Ea _,_,_,e=>e
 | .oe ops live,st,r,e=>by
   simp only [bM] at e ⊢
   split at e
   · rename_i st' ho
     rw [ji h ho]
     exact e
   · simp at e
 | .seq x y,st,r,e=>by
   simp only [bM] at e ⊢
   cases hx:bM a k x st with
   | none=>rw [hx] at e;simp at e
   | some q=>
     rw [bx h hk hx]
     rw [hx] at e
     obtain ⟨ex,s⟩:=q
     cases ex with
     | normal=>exact bx h hk e
     | ret=>exact e
     | exit id=>exact e
 | .cond c x y,st,r,e=>by
   simp only [bM] at e ⊢
   split at e
   · rename_i t hc
     split at e
     · rename_i ht;rw [if_pos ht];exact bx h hk e
     · rename_i ht;rw [if_neg ht];exact bx h hk e
   · simp at e
 | .block id x,st,r,e=>by
   simp only [bM] at e ⊢
   cases hx:bM a k x st with
   | none=>rw [hx] at e;simp at e
   | some q=>
     rw [bx h hk hx]
     rw [hx] at e
     exact e
 | .loop live x,st,r,e=>by
   simp only [bM] at e ⊢
   exact fJ (fun s r hs=>bx h hk hs) hk e
 | .exit id,_,_,e=>e
 | .ret,_,_,e=>e
 | .back c gb pi px sz ag live x y,st,r,e=>by
   simp only [bM] at e ⊢
   exact nQ (jV (fun s r hs=>bx h hk hs) (fun s r hs=>bx h hk hs)) e
theorem c_ {a b:dr} (h:a.le b) {k k':Nat} (hk:k≤k') {aF:Bool} {af:aB} {args:List AV} {sh:Sh} {ts:aq} {r:List AV×Sh×aq} (e:bq a k aF af args sh ts=some r):bq b k' aF af args sh ts=some r:=by
 unfold bq at *
 cases hc:bM a k af.body { env:=bp 0 args,mem:=[],sh,aa:=ts } with
 | none=>rw [hc] at e;simp at e
 | some q=>rw [bx h hk hc];rw [hc] at e;exact e
variable {AP:Nat→Option aB}
theorem bK:∀{n n' k k':Nat},n≤n'→k≤k'→(run AP k n).le (run AP k' n')
 | 0,_,_,_,_,_=>⟨fun g x r e=>by simp [run] at e,fun g x s t r e=>by simp [run] at e⟩
 | n+1,0,_,_,h,_=>by omega
 | n+1,n'+1,k,k',h,hk=>by
   have ih:(run AP k n).le (run AP k' n'):=bK (by omega) hk
   refine ⟨fun g x r e=>?_,fun g x s t r e=>?_⟩
   · simp only [run] at e ⊢
     cases hg:AP g with
     | none=>rw [hg] at e;simp at e
     | some af=>
       rw [hg] at e
       dsimp only at e ⊢
       cases hp:af.km with
       | some f=>rw [hp] at e;exact f.mono ih.p e
       | none=>
         rw [hp] at e
         dsimp only at e ⊢
         split at e
         · rename_i hc
           rw [if_pos hc]
           cases hb:bq (run AP k n) k false af (x.map .pv) [] [] with
           | none=>rw [hb] at e;simp at e
           | some q=>rw [c_ ih hk hb];rw [hb] at e;exact e
         · simp at e
   · simp only [run] at e ⊢
     cases hg:AP g with
     | none=>rw [hg] at e;simp at e
     | some af=>
       rw [hg] at e
       dsimp only at e ⊢
       split at e
       · rename_i hc
         rw [if_pos hc]
         exact c_ ih hk e
       · simp at e
noncomputable def aD (AP:Nat→Option aB):dr where
 p:=fun g x=>zQ fun n=>(run AP n n).p g x
 i:=fun g x s t=>zQ fun n=>(run AP n n).i g x s t
theorem lZ (g:Nat) (x:List PV):ry fun n=>(run AP n n).p g x:=fun _ _ _ h e=>(bK h h).p _ _ _ e
theorem wv (g:Nat) (x:List AV) (s:Sh) (t:aq):ry fun n=>(run AP n n).i g x s t:=fun _ _ _ h e=>(bK h h).i _ _ _ _ _ e
theorem Ae (n:Nat):(run AP n n).le (aD AP):=⟨fun g x _ e=>mQ (lZ g x) e,fun g x s t _ e=>mQ (wv g x s t) e⟩
theorem l0 {g:Nat} {x:List PV} {r:List PV} (h:(aD AP).p g x=some r):∃n,(run AP n n).p g x=some r:=ef h
theorem wx {g:Nat} {x:List AV} {s:Sh} {t:aq} {r:List AV×Sh×aq} (h:(aD AP).i g x s t=some r):∃n,(run AP n n).i g x s t=some r:=ef h
theorem jk {g:Nat} {own:List Nat} {vals:List AV} {sh:Sh} {aa:aq} {r:AV×Sh×aq} (e:cE (aD AP) g own vals sh aa=some r):∃n,cE (run AP n n) g own vals sh aa=some r:=by
 unfold cE at *
 split at e
 · rename_i hp
   simp only [Option.map_eq_some_iff] at e
   obtain ⟨x,h1,h2⟩:=e
   obtain ⟨n,hn⟩:=wx h1
   exact ⟨n,by rw [if_pos hp,hn];simp only [Option.map_some,h2]⟩
 · simp at e
theorem tF {op:AK} {vals:List AV} {cells:Option (List AV)} {sh:Sh} {aa:aq} {r:Out} (e:exec (aD AP) op vals cells sh aa=some r):∃n,exec (run AP n n) op vals cells sh aa=some r:=by
 cases op with
 | aR g=>
   simp only [exec] at e ⊢
   split at e
   · rename_i bZ hp
     simp only [Option.map_eq_some_iff] at e
     obtain ⟨x,h1,h2⟩:=e
     obtain ⟨n,hn⟩:=l0 h1
     exact ⟨n,by rw [hn];simp only [Option.map_some,h2]⟩
   · simp at e
 | ew g=>
   simp only [exec] at e ⊢
   split at e
   · rename_i bZ hp
     simp only [Option.map_eq_some_iff] at e
     obtain ⟨x,h1,h2⟩:=e
     obtain ⟨n,hn⟩:=l0 h1
     exact ⟨n,by rw [hn];simp only [Option.map_some,h2]⟩
   · simp at e
 | bV g own=>
   simp only [exec,Option.map_eq_some_iff] at e ⊢
   obtain ⟨x,h1,h2⟩:=e
   obtain ⟨n,hn⟩:=jk h1
   exact ⟨n,x,hn,h2⟩
 | ik g=>
   simp only [exec] at e ⊢
   split at e
   · split at e
     · rename_i rs ts h1
       obtain ⟨n,hn⟩:=wx h1
       exact ⟨n,by rw [hn];exact e⟩
     · simp at e
   · simp at e
 | da=>
   cases vals with
   | nil=>simp [exec] at e
   | cons f vals=>
     cases f with
     | fn g cap=>
       simp only [exec,Option.bind_eq_some_iff] at e ⊢
       obtain ⟨x,h1,h2⟩:=e
       obtain ⟨n,hn⟩:=jk h1
       exact ⟨n,x,hn,h2⟩
     | _=>simp [exec] at e
 | fl=>
   cases vals with
   | nil=>simp [exec] at e
   | cons f vals=>
     cases f with
     | fn g cap=>
       simp only [exec,Option.map_eq_some_iff] at e ⊢
       obtain ⟨x,h1,h2⟩:=e
       obtain ⟨n,hn⟩:=jk h1
       exact ⟨n,x,hn,h2⟩
     | _=>simp [exec] at e
 | _=>exact ⟨0,by rw [←e];unfold exec;split<;>first | rfl | (rename_i heq;cases heq;done) | (simp at *;done)⟩
theorem Af {o:cB} {st r:St} (e:cG (aD AP) o st=some r):∃n,cG (run AP n n) o st=some r:=by
 unfold cG at *
 cases hw:dH st.env o.guard with
 | none=>rw [hw] at e;simp at e
 | some t=>
   cases t with
   | false=>rw [hw] at e;exact ⟨0,e⟩
   | true=>
     rw [hw] at e
     dsimp only at e ⊢
     cases hv:cJ st.env o.args with
     | none=>rw [hv] at e;simp at e
     | some vals=>
       rw [hv] at e
       dsimp only at e ⊢
       cases ho:exec (aD AP) o.op vals (o.op.key.bind (look st.mem)) st.sh st.aa with
       | none=>rw [ho] at e;simp at e
       | some out=>
         obtain ⟨n,hn⟩:=tF ho
         rw [ho] at e
         exact ⟨n,by rw [hn];exact e⟩
theorem oE:∀{l:List cB} {st r:St},aY (aD AP) l st=some r→∃n,aY (run AP n n) l st=some r
 | [],_,_,e=>⟨0,e⟩
 | o::l,st,r,e=>by
   simp only [aY] at e ⊢
   cases ho:cG (aD AP) o st with
   | none=>rw [ho] at e;simp at e
   | some s=>
     rw [ho] at e
     obtain ⟨n,hn⟩:=Af ho
     obtain ⟨m,hm⟩:=oE (l:=l) e
     refine ⟨max n m,?_⟩
     rw [oD (bK (Nat.le_max_left n m) (Nat.le_max_left n m)) hn]
     exact ji (bK (Nat.le_max_right n m) (Nat.le_max_right n m)) hm
theorem mS {k:Nat} {c:au} {pre:St→St} (ih:∀{st:St} {r:aP×St},bM (aD AP) k c st=some r→∃n,bM (run AP n n) n c st=some r) :
   ∀{j:Nat} {st:St} {r:aP×St},dw (bM (aD AP) k c) pre j st=some r→∃n,dw (bM (run AP n n) n c) pre n st=some r
 | 0,_,_,e=>by simp [dw] at e
 | j+1,st,r,e=>by
   simp only [dw] at e
   cases hf:bM (aD AP) k c (pre st) with
   | none=>rw [hf] at e;simp at e
   | some q=>
     obtain ⟨n,hn⟩:=ih hf
     rw [hf] at e
     obtain ⟨x,s⟩:=q
     cases x with
     | normal=>
       obtain ⟨m,hm⟩:=mS ih e
       refine ⟨max n m+1,?_⟩
       simp only [dw]
       rw [bx (bK (n:=n) (n':=max n m+1) (by omega) (by omega)) (k:=n) (k':=max n m+1) (by omega) hn]
       exact fJ (fun s r hs=>bx (bK (n:=m) (by omega) (by omega)) (k:=m) (by omega) hs) (n:=m) (by omega) hm
     | ret=>
       refine ⟨n+1,?_⟩
       simp only [dw]
       rw [bx (bK (n:=n) (n':=n+1) (by omega) (by omega)) (k:=n) (k':=n+1) (by omega) hn]
       exact e
     | exit id=>
       refine ⟨n+1,?_⟩
       simp only [dw]
       rw [bx (bK (n:=n) (n':=n+1) (by omega) (by omega)) (k:=n) (k':=n+1) (by omega) hn]
       exact e
theorem kC {n m:Nat} (h:n≤m) {c:au} {st:St} {r:aP×St} (e:bM (run AP n n) n c st=some r):bM (run AP m m) m c st=some r:=bx (bK h h) h e
theorem nR {k:Nat} {x y:au} (ihx:∀{st:St} {r:aP×St},bM (aD AP) k x st=some r→∃n,bM (run AP n n) n x st=some r) (ihy:∀{st:St} {r:aP×St},bM (aD AP) k y st=some r→∃n,bM (run AP n n) n y st=some r)
   {st:St} {r:aP×St} (e:andThen (bM (aD AP) k x) (bM (aD AP) k y) st=some r):∃n,andThen (bM (run AP n n) n x) (bM (run AP n n) n y) st=some r:=by
 unfold andThen at e ⊢
 cases hx:bM (aD AP) k x st with
 | none=>rw [hx] at e;simp at e
 | some q=>
   obtain ⟨n,hn⟩:=ihx hx
   rw [hx] at e
   obtain ⟨ex,s⟩:=q
   cases ex with
   | normal=>
     obtain ⟨m,hm⟩:=ihy e
     exact ⟨max n m,by rw [kC (Nat.le_max_left n m) hn];exact kC (Nat.le_max_right n m) hm⟩
   | ret=>simp at e
   | exit id=>simp at e
theorem mT {F:St→Option (aP×St)} {f:Nat→St→Option (aP×St)} (hm:∀{n m:Nat},n≤m→∀s r,f n s=some r→f m s=some r) (ih:∀{st:St} {r:aP×St},F st=some r→∃n,f n st=some r)
   {live:List Nat} {pi px sz:Nat} {ag:Bool} {env:List (Nat×AV)}:∀{l:List (PV×Nat)} {st:St} {r:aP×St},kQ F live pi px sz ag env l st=some r→∃n,kQ (f n) live pi px sz ag env l st=some r
 | [],_,_,e=>⟨0,e⟩
 | (el,i)::l,st,r,e=>by
   simp only [kQ] at e ⊢
   cases hv:Ec sz ag el with
   | none=>rw [hv] at e;simp at e
   | some v=>
     rw [hv] at e
     simp only at e ⊢
     cases hf:F (norm (restrict live { st with env:=cC (cC env pi (.pv (.int .i64 i))) px v })) with
     | none=>rw [hf] at e;simp at e
     | some q=>
       obtain ⟨n,hn⟩:=ih hf
       rw [hf] at e
       obtain ⟨x,s⟩:=q
       cases x with
       | normal=>
         obtain ⟨m,hm'⟩:=mT hm ih e
         exact ⟨max n m,by rw [hm (Nat.le_max_left n m) _ _ hn];exact jj (hm (Nat.le_max_right n m)) hm'⟩
       | ret=>exact ⟨n,by rw [hn];exact e⟩
       | exit id=>exact ⟨n,by rw [hn];exact e⟩
theorem e_ {k:Nat}:∀{c:au} {st:St} {r:aP×St},bM (aD AP) k c st=some r→∃n,bM (run AP n n) n c st=some r
 | .skip,_,_,e=>⟨0,e⟩
 | .eo _,_,_,e=>⟨0,e⟩
 | .DN _,_,_,e=>⟨0,e⟩
 | .ie _,_,_,e=>⟨0,e⟩
 | .il _,_,_,e=>⟨0,e⟩
 | .Ea _,_,_,e=>⟨0,e⟩
 | .oe ops live,st,r,e=>by
   simp only [bM] at e ⊢
   cases ho:aY (aD AP) ops st with
   | none=>rw [ho] at e;simp at e
   | some s=>obtain ⟨n,hn⟩:=oE ho;rw [ho] at e;exact ⟨n,by rw [hn];exact e⟩
 | .seq x y,st,r,e=>by
   simp only [bM] at e ⊢
   cases hx:bM (aD AP) k x st with
   | none=>rw [hx] at e;simp at e
   | some q=>
     obtain ⟨n,hn⟩:=e_ hx
     rw [hx] at e
     obtain ⟨ex,s⟩:=q
     cases ex with
     | normal=>
       obtain ⟨m,hm⟩:=e_ (c:=y) e
       exact ⟨max n m,by rw [kC (Nat.le_max_left n m) hn];exact kC (Nat.le_max_right n m) hm⟩
     | ret=>exact ⟨n,by rw [hn];exact e⟩
     | exit id=>exact ⟨n,by rw [hn];exact e⟩
 | .cond c x y,st,r,e=>by
   simp only [bM] at e ⊢
   split at e
   · rename_i t hc
     split at e
     · rename_i ht
       obtain ⟨n,hn⟩:=e_ e
       exact ⟨n,by rw [if_pos ht];exact hn⟩
     · rename_i ht
       obtain ⟨n,hn⟩:=e_ e
       exact ⟨n,by rw [if_neg ht];exact hn⟩
   · simp at e
 | .block id x,st,r,e=>by
   simp only [bM] at e ⊢
   cases hx:bM (aD AP) k x st with
   | none=>rw [hx] at e;simp at e
   | some q=>
     obtain ⟨n,hn⟩:=e_ hx
     rw [hx] at e
     exact ⟨n,by rw [hn];exact e⟩
 | .loop live x,st,r,e=>by
   simp only [bM] at e ⊢
   exact mS (fun h=>e_ h) e
 | .exit id,_,_,e=>⟨0,e⟩
 | .ret,_,_,e=>⟨0,e⟩
 | .back c gb pi px sz ag live x y,st,r,e=>by
   simp only [bM] at e ⊢
   unfold im at e ⊢
   split at e
   · split at e
     · rename_i hg
       split at e
       · split at e
         · rename_i hl
           obtain ⟨n,hn⟩:=mT (f:=fun n=>andThen (bM (run AP n n) n x) (bM (run AP n n) n y)) (fun h=>jV (fun s r hs=>kC h hs) (fun s r hs=>kC h hs)) (nR (fun h=>e_ h) (fun h=>e_ h)) e
           exact ⟨n,by rw [if_pos hg,if_pos hl];exact hn⟩
         · simp at e
       · simp at e
     · simp at e
   · simp at e
noncomputable def cl (AP:Nat→Option aB) (c:au) (st:St):Option (aP×St):=zQ fun k=>bM (aD AP) k c st
theorem l3 (c:au) (st:St):ry fun k=>bM (aD AP) k c st:=fun _ _ _ h e=>bx (dr.le_refl _) h e
theorem iF {c:au} {st:St} {k:Nat} {r:aP×St} (h:bM (aD AP) k c st=some r):cl AP c st=some r:=mQ (l3 c st) h
theorem CD {st:St}:cl AP .skip st=some (.normal,st):=iF (k:=0) rfl
theorem CE {id:Nat} {st:St}:cl AP (.exit id) st=some (.exit id,st):=iF (k:=0) rfl
theorem Eu {st:St}:cl AP .ret st=some (.ret,st):=iF (k:=0) rfl
theorem Ew {ops:List cB} {live:List Nat} {st:St}:cl AP (.oe ops live) st=(aY (aD AP) ops st).map fun st'=>(.normal,restrict live st'):=by
 cases h:aY (aD AP) ops st with
 | none=>exact mR fun k=>by simp only [bM,h]
 | some s=>exact iF (k:=0) (by simp only [bM,h])
def after (f:St→Option (aP×St)):Option (aP×St)→Option (aP×St)
 | some (.normal,st)=>f st
 | r=>r
theorem Ey {a b:au} {st:St}:cl AP (.seq a b) st=after (cl AP b) (cl AP a st):=by
 refine iS (l3 _ _) (fun k r h=>?_) fun r h=>?_
 · simp only [bM] at h
   cases hx:bM (aD AP) k a st with
   | none=>rw [hx] at h;simp at h
   | some q=>
     rw [iF hx]
     rw [hx] at h
     obtain ⟨ex,s⟩:=q
     cases ex with
     | normal=>exact iF h
     | ret=>exact h
     | exit id=>exact h
 · cases hx:cl AP a st with
   | none=>rw [hx] at h;simp [after] at h
   | some q=>
     obtain ⟨k,hk⟩:=ef hx
     rw [hx] at h
     obtain ⟨ex,s⟩:=q
     cases ex with
     | normal=>
       obtain ⟨k',hk'⟩:=ef (show zQ (fun k=>bM (aD AP) k b s)=some r from h)
       refine ⟨max k k',?_⟩
       simp only [bM]
       rw [bx (dr.le_refl _) (Nat.le_max_left k k') hk]
       exact bx (dr.le_refl _) (Nat.le_max_right k k') hk'
     | ret=>exact ⟨k,by simp only [bM];rw [hk];exact h⟩
     | exit id=>exact ⟨k,by simp only [bM];rw [hk];exact h⟩
theorem CF {c:di} {a b:au} {st:St} {t:Bool} (h:et st.env c=some (.pv (.bool t))):cl AP (.cond c a b) st=if t then cl AP a st else cl AP b st:=by
 unfold cl
 simp only [bM,h]
 cases t<;>rfl
def leave (id:Nat):Option (aP×St)→Option (aP×St)
 | some (.exit id',st)=>if id'=id then some (.normal,st) else some (.exit id',st)
 | r=>r
theorem Ag {id:Nat} {b:au} {st:St}:cl AP (.block id b) st=leave id (cl AP b st):=by
 refine iS (l3 _ _) (fun k r h=>?_) fun r h=>?_
 · simp only [bM] at h
   cases hx:bM (aD AP) k b st with
   | none=>rw [hx] at h;simp at h
   | some q=>rw [iF hx];rw [hx] at h;exact h
 · cases hx:cl AP b st with
   | none=>rw [hx] at h;simp [leave] at h
   | some q=>
     obtain ⟨k,hk⟩:=ef hx
     rw [hx] at h
     exact ⟨k,by simp only [bM];rw [hk];exact h⟩
theorem bL {live:List Nat} {b:au} {st:St}:cl AP (.loop live b) st=after (cl AP (.loop live b)) (cl AP b (norm (restrict live st))):=by
 refine iS (l3 _ _) (fun k r h=>?_) fun r h=>?_
 · simp only [bM] at h
   cases k with
   | zero=>simp [dw] at h
   | succ k=>
     simp only [dw] at h
     cases hx:bM (aD AP) (k+1) b (norm (restrict live st)) with
     | none=>rw [hx] at h;simp at h
     | some q=>
       rw [iF hx]
       rw [hx] at h
       obtain ⟨ex,s⟩:=q
       cases ex with
       | normal=>exact iF (k:=k+1) (by simp only [bM];exact fJ (fun _ _ h=>h) (Nat.le_succ k) h)
       | ret=>exact h
       | exit id=>exact h
 · cases hx:cl AP b (norm (restrict live st)) with
   | none=>rw [hx] at h;simp [after] at h
   | some q=>
     obtain ⟨k,hk⟩:=ef hx
     rw [hx] at h
     obtain ⟨ex,s⟩:=q
     have up:∀m,k≤m→bM (aD AP) m b (norm (restrict live st))=some (ex,s):=fun m hm=>bx (dr.le_refl _) hm hk
     cases ex with
     | normal=>
       obtain ⟨k',hk'⟩:=ef (show zQ (fun k=>bM (aD AP) k (.loop live b) s)=some r from h)
       refine ⟨max k k'+1,?_⟩
       simp only [bM,dw]
       rw [up _ (by omega)]
       simp only [bM] at hk'
       exact fJ (fun _ _ h=>bx (dr.le_refl _) (by omega) h) (by omega) hk'
     | ret=>exact ⟨k+1,by simp only [bM,dw];rw [up _ (by omega)];exact h⟩
     | exit id=>exact ⟨k+1,by simp only [bM,dw];rw [up _ (by omega)];exact h⟩
def finish (aF:Bool) (af:aB) (sh:Sh):Option (aP×St)→Option (List AV×Sh×aq)
 | some (e,st)=>
   if e=.ret∨e=.normal then
     match cN st af.results with
     | some vs=>
       let rs:=bB aF af.ks st.sh vs
       let sh':=if rs.all (aw sh.length)=true then (de aF af.ks st.sh vs).take sh.length else de aF af.ks st.sh vs
       if rs.all bg=true then some ((bQ st.aa rs sh').1,(bQ st.aa rs sh').2.1,(bQ st.aa rs sh').2.2.2) else none
     | none=>none
   else none
 | none=>none
theorem dZ {orc:dr} {k:Nat} {aF:Bool} {af:aB} {args:List AV} {sh:Sh} {ts:aq}:bq orc k aF af args sh ts=finish aF af sh (bM orc k af.body { env:=bp 0 args,mem:=[],sh,aa:=ts }):=by
 unfold bq finish
 cases bM orc k af.body { env:=bp 0 args,mem:=[],sh,aa:=ts } with
 | none=>rfl
 | some q=>obtain ⟨e,st⟩:=q;rfl
noncomputable def i6 (AP:Nat→Option aB) (aF:Bool) (af:aB) (args:List AV) (sh:Sh) (ts:aq):Option (List AV×Sh×aq):=
 finish aF af sh (cl AP af.body { env:=bp 0 args,mem:=[],sh,aa:=ts })
theorem oF {aF:Bool} {af:aB} {args:List AV} {sh:Sh} {ts:aq} {r:List AV×Sh×aq} (h:i6 AP aF af args sh ts=some r):∃n,bq (run AP n n) n aF af args sh ts=some r:=by
 unfold i6 at h
 cases hc:cl AP af.body { env:=bp 0 args,mem:=[],sh,aa:=ts } with
 | none=>rw [hc] at h;simp [finish] at h
 | some q=>
   obtain ⟨k,hk⟩:=ef hc
   obtain ⟨n,hn⟩:=e_ hk
   exact ⟨n,by rw [dZ,hn,←hc];exact h⟩
theorem wy {n:Nat} {aF:Bool} {af:aB} {args:List AV} {sh:Sh} {ts:aq} {r:List AV×Sh×aq} (h:bq (run AP n n) n aF af args sh ts=some r):i6 AP aF af args sh ts=some r:=by
 rw [dZ] at h
 unfold i6
 cases hc:bM (run AP n n) n af.body { env:=bp 0 args,mem:=[],sh,aa:=ts } with
 | none=>rw [hc] at h;simp [finish] at h
 | some q=>
   rw [iF (bx (Ae n) (Nat.le_refl n) hc)]
   rw [hc] at h
   exact h
theorem DR {g:Nat} {af:aB} {x:List PV} (hg:AP g=some af) (hp:af.km=none) (h1:x.length=af.nparams) (h2:x.length≤af.ntmps) :
   (aD AP).p g x=(i6 AP false af (x.map .pv) [] []).bind fun r=>dQ r.1:=by
 refine iS (lZ g x) (fun k r h=>?_) fun r h=>?_
 · cases k with
   | zero=>simp [run] at h
   | succ k=>
     simp only [run,hg,hp] at h
     rw [if_pos ⟨h1,h2⟩] at h
     cases hb:bq (run AP (k+1) k) (k+1) false af (x.map .pv) [] [] with
     | none=>rw [hb] at h;simp at h
     | some q=>
       rw [wy (n:=k+1) (c_ (bK (Nat.le_succ k) (Nat.le_refl _)) (Nat.le_refl _) hb)]
       rw [hb] at h
       exact h
 · cases hb:i6 AP false af (x.map .pv) [] [] with
   | none=>rw [hb] at h;simp at h
   | some q=>
     obtain ⟨n,hn⟩:=oF hb
     rw [hb] at h
     refine ⟨n+1,?_⟩
     simp only [run,hg,hp]
     rw [if_pos ⟨h1,h2⟩,c_ (bK (n:=n) (n':=n) (k:=n) (k':=n+1) (Nat.le_refl _) (Nat.le_succ n)) (Nat.le_succ n) hn]
     exact h
theorem oG:∀(l:List (Nat×List PV×List PV)),(∀c∈l,(aD AP).p c.1 c.2.1=some c.2.2)→∃n,∀c∈l,(run AP n n).p c.1 c.2.1=some c.2.2
 | [],_=>⟨0,by simp⟩
 | c::l,h=>by
   obtain ⟨n,hn⟩:=l0 (h c (by simp))
   obtain ⟨m,hm⟩:=oG l fun c' hc=>h c' (by simp [hc])
   refine ⟨max n m,fun c' hc=>?_⟩
   simp only [List.mem_cons] at hc
   rcases hc with rfl | hc
   · exact (bK (Nat.le_max_left n m) (Nat.le_max_left n m)).p _ _ _ hn
   · exact (bK (Nat.le_max_right n m) (Nat.le_max_right n m)).p _ _ _ (hm c' hc)
theorem wz {g:Nat} {af:aB} {x:List PV} {f:Prim} (hg:AP g=some af) (hp:af.km=some f):(aD AP).p g x=f.f (aD AP).p x:=by
 refine iS (lZ g x) (fun k r h=>?_) fun r h=>?_
 · cases k with
   | zero=>simp [run] at h
   | succ k=>
     simp only [run,hg,hp] at h
     exact f.mono (fun g x r e=>(Ae (k+1)).p _ _ _ ((bK (Nat.le_succ k) (Nat.le_refl _)).p _ _ _ e)) h
 · obtain ⟨l,h1,h2⟩:=f.fin _ _ _ h
   obtain ⟨n,hn⟩:=oG l h1
   refine ⟨n+1,?_⟩
   simp only [run,hg,hp]
   exact h2 _ fun c hc=>(bK (n:=n) (n':=n) (k:=n) (k':=n+1) (Nat.le_refl _) (Nat.le_succ n)).p _ _ _ (hn c hc)
theorem wA {g:Nat} {af:aB} {x:List PV} {f:List PV→Option (List PV)} (hg:AP g=some af) (hp:af.km=some (Prim.pure f)):(aD AP).p g x=f x:=wz hg hp
theorem DS {g:Nat} {af:aB} {x:List AV} {sh:Sh} {ts:aq} (hg:AP g=some af) (h2:x.length≤af.ntmps):(aD AP).i g x sh ts=i6 AP true af x sh ts:=by
 refine iS (wv g x sh ts) (fun k r h=>?_) fun r h=>?_
 · cases k with
   | zero=>simp [run] at h
   | succ k=>
     simp only [run,hg] at h
     rw [if_pos h2] at h
     exact wy (n:=k+1) (c_ (bK (Nat.le_succ k) (Nat.le_refl _)) (Nat.le_refl _) h)
 · obtain ⟨n,hn⟩:=oF h
   refine ⟨n+1,?_⟩
   simp only [run,hg]
   rw [if_pos h2]
   exact c_ (bK (n:=n) (n':=n) (k:=n) (k':=n+1) (Nat.le_refl _) (Nat.le_succ n)) (Nat.le_succ n) hn
end Go.Ab
namespace Go.Ab.Ev
section
variable {AP:Nat→Option aB} {O:dr}
noncomputable def branch (AP:Nat→Option aB) (o:Option AV) (a b:au) (st:St):Option (aP×St):=
 match o with
 | some (.pv (.bool t))=>if t=true then cl AP a st else cl AP b st
 | _=>none
theorem xF {c:di} {a b:au} {st:St}:cl AP (.cond c a b) st=branch AP (et st.env c) a b st:=by
 unfold branch
 split
 · rename_i t h
   rw [CF h]
 · rename_i h
   unfold cl
   refine mR fun k=>?_
   simp only [bM]
theorem rz {t:Bool} {a b:au} {st:St}:branch AP (some (.pv (.bool t))) a b st=if t=true then cl AP a st else cl AP b st:=rfl
def mU (live:List Nat):Option St→Option (aP×St)
 | some st=>some (.normal,restrict live st)
 | none=>none
theorem xG {ops:List cB} {live:List Nat} {st:St}:cl AP (.oe ops live) st=mU live (aY (aD AP) ops st):=by
 rw [Ew]
 cases aY (aD AP) ops st<;>rfl
theorem rA {live:List Nat} {st:St}:mU live (some st)=some (.normal,restrict live st):=rfl
theorem tG {live:List Nat} {c:Prop} [Decidable c] {x y:Option St}:mU live (if c then x else y)=if c then mU live x else mU live y:=by split<;>rfl
theorem pH {f:St→Option (aP×St)} {st:St}:after f (some (.normal,st))=f st:=rfl
theorem xH {f:St→Option (aP×St)} {st:St}:after f (some (.ret,st))=some (.ret,st):=rfl
theorem tH {f:St→Option (aP×St)} {st:St} {id:Nat}:after f (some (.exit id,st))=some (.exit id,st):=rfl
theorem xI {f:St→Option (aP×St)} {c:Prop} [Decidable c] {x y:Option (aP×St)}:after f (if c then x else y)=if c then after f x else after f y:=by split<;>rfl
theorem pI {id:Nat} {st:St}:leave id (some (.normal,st))=some (.normal,st):=rfl
theorem xJ {id:Nat} {st:St}:leave id (some (.ret,st))=some (.ret,st):=rfl
theorem tI {id id':Nat} {st:St}:leave id (some (.exit id',st))=if id'=id then some (.normal,st) else some (.exit id',st):=rfl
theorem xK {id:Nat} {c:Prop} [Decidable c] {x y:Option (aP×St)}:leave id (if c then x else y)=if c then leave id x else leave id y:=by split<;>rfl
def pJ (O:dr) (l:List cB):Option St→Option St
 | some st=>aY O l st
 | none=>none
theorem xL {st:St}:aY O [] st=some st:=rfl
theorem hH {o:cB} {l:List cB} {st:St}:aY O (o::l) st=pJ O l (cG O o st):=by
 simp only [aY]
 cases cG O o st<;>rfl
theorem tJ {d:Option Nat} {args:List di} {op:AK} {l:List cB} {st:St}:aY O (⟨d,none,args,op⟩::l) st=pJ O l (cG O ⟨d,none,args,op⟩ st):=hH
theorem pK {l:List cB} {st:St}:pJ O l (some st)=aY O l st:=rfl
def Ah (d k:Option Nat) (env:List (Nat×AV)) (mem:List (Nat×List AV)):Option Out→Option St
 | some out=>some { env:=dP env d out.val,mem:=dk mem k out.cells,sh:=out.sh,aa:=out.aa }
 | none=>none
def Ai (O:dr) (op:AK) (vals:Option (List AV)) (cells:Option (List AV)) (sh:Sh) (aa:aq):Option Out:=
 match vals with
 | some vals=>exec O op vals cells sh aa
 | none=>none
theorem tK {d:Option Nat} {args:List di} {op:AK} {env:List (Nat×AV)} {mem:List (Nat×List AV)} {sh:Sh} {aa:aq} :
   cG O ⟨d,none,args,op⟩ ⟨env,mem,sh,aa⟩=Ah d op.key env mem (Ai O op (cJ env args) (op.key.bind (look mem)) sh aa):=by
 simp only [cG,dH]
 cases cJ env args with
 | none=>rfl
 | some vals=>
   dsimp only [Ai]
   cases exec O op vals (op.key.bind (look mem)) sh aa<;>rfl
def mV (t:Nat) (b:Bool) (o:cB):cB:=
 match o.guard with
 | some (t',b')=>if t'=t then (if b'=b then { o with guard:=none } else ⟨o.dst,none,[.c .un],.v .mv⟩) else o
 | none=>o
def Cj (t:Nat):List cB→Bool
 | []=>true
 | o::l=>(o.dst != some t) && Cj t l
theorem iT {α:Type} {t t':Nat} {v:α}:∀{l:List (Nat×α)},look (cC l t v) t'=if t'=t then some v else look l t'
 | []=>by
   simp only [cC,look]
   by_cases h:t'=t
   · subst h;simp
   · rw [if_neg (fun e=>h e.symm),if_neg h]
 | (k,u)::r=>by
   simp only [cC]
   by_cases hk:k=t
   · subst hk
     simp only [if_true,look]
     by_cases h:t'=k
     · subst h;simp
     · rw [if_neg (fun e=>h e.symm),if_neg h,if_neg (fun e=>h e.symm)]
   · rw [if_neg hk]
     simp only [look,iT (l:=r)]
     by_cases h:k=t'
     · subst h;simp [hk]
     · rw [if_neg h,if_neg h]
theorem kD {α:Type} {t:Nat} {v:α}:∀{l:List (Nat×α)},look l t=some v→cC l t v=l
 | [],h=>by simp [look] at h
 | (k,u)::r,h=>by
   simp only [look] at h
   simp only [cC]
   split at h
   · rename_i e;cases h;rw [if_pos e]
   · rename_i e;rw [if_neg e,kD h]
theorem xM {o:cB} {st st':St} {t:Nat} {v:AV} (hd:(o.dst != some t)=true) (h:look st.env t=some v) (e:cG O o st=some st'):look st'.env t=some v:=by
 have key:∀x,look (dP st.env o.dst x) t=some v:=by
   intro x
   cases hdd:o.dst with
   | none=>exact h
   | some d=>
     rw [hdd] at hd
     simp only [dP,iT]
     rw [if_neg (by intro e;subst e;simp at hd)]
     exact h
 simp only [cG] at e
 split at e
 · cases e
 · cases e;exact key _
 · split at e
   · cases e
   · split at e
     · cases e
     · cases e;exact key _
theorem xN {o:cB} {st:St} {t:Nat} {b:Bool} (h:look st.env t=some (.pv (.bool b))):cG O o st=cG O (mV t b o) st:=by
 obtain ⟨d,g,args,op⟩:=o
 cases g with
 | none=>rfl
 | some p=>
   obtain ⟨t',b'⟩:=p
   simp only [mV]
   by_cases ht:t'=t
   · subst ht
     rw [if_pos rfl]
     by_cases hb:b'=b
     · subst hb
       rw [if_pos rfl]
       simp only [cG,dH,h,beq_self_eq_true]
     · rw [if_neg hb]
       have hb':(b == b')=false:=by simpa using fun e=>hb e.symm
       simp only [cG,dH,h,hb']
       obtain ⟨env,mem,sh,aa⟩:=st
       rfl
   · rw [if_neg ht]
theorem jl {t:Nat} {b:Bool}:∀{l:List cB} {st:St},Cj t l=true→look st.env t=some (.pv (.bool b))→aY O l st=aY O (l.map (mV t b)) st
 | [],_,_,_=>rfl
 | o::l,st,hn,h=>by
   simp only [Cj,Bool.and_eq_true] at hn
   rw [List.map_cons,hH,hH,←xN h]
   cases e:cG O o st with
   | none=>rfl
   | some st'=>exact jl hn.2 (xM hn.1 h e)
theorem rB {d:Option Nat} {t:Nat} {b:Bool} {args:List di} {op:AK} {l:List cB} {env:List (Nat×AV)} {mem:List (Nat×List AV)} {sh:Sh} {aa:aq} {c:Bool} (h:look env t=some (.pv (.bool c))) (hn:Cj t (⟨d,some (t,b),args,op⟩::l)=true) :
   aY O (⟨d,some (t,b),args,op⟩::l) ⟨env,mem,sh,aa⟩ =
     if c=true then aY O ((⟨d,some (t,b),args,op⟩::l).map (mV t true)) ⟨cC env t (.pv (.bool true)),mem,sh,aa⟩
     else aY O ((⟨d,some (t,b),args,op⟩::l).map (mV t false)) ⟨cC env t (.pv (.bool false)),mem,sh,aa⟩:=by
 cases c with
 | true=>rw [if_pos rfl,kD h];exact jl hn h
 | false=>rw [if_neg (by simp),kD h];exact jl hn h
theorem pL {d:Option Nat} {t:Nat} {b:Bool} {args:List di} {op:AK} {l:List cB} {env:List (Nat×AV)} {mem:List (Nat×List AV)} {sh:Sh} {aa:aq} (h:look env t=some .un) :
   aY O (⟨d,some (t,b),args,op⟩::l) ⟨env,mem,sh,aa⟩=aY O l ⟨dP env d .un,mem,sh,aa⟩:=by
 rw [hH]
 simp only [cG,dH,h]
 rfl
noncomputable def gd (O:dr) (t:Nat) (ops:List cB) (d:Option Nat) (l:List cB) (env:List (Nat×AV)) (mem:List (Nat×List AV)) (sh:Sh) (aa:aq):Option AV→Option St
 | some (.pv (.bool c))=>if Cj t ops=true then (if c=true then aY O (ops.map (mV t true)) ⟨cC env t (.pv (.bool true)),mem,sh,aa⟩
     else aY O (ops.map (mV t false)) ⟨cC env t (.pv (.bool false)),mem,sh,aa⟩) else aY O ops ⟨env,mem,sh,aa⟩
 | some .un=>aY O l ⟨dP env d .un,mem,sh,aa⟩
 | _=>aY O ops ⟨env,mem,sh,aa⟩
theorem Aj {d:Option Nat} {t:Nat} {b:Bool} {args:List di} {op:AK} {l:List cB} {env:List (Nat×AV)} {mem:List (Nat×List AV)} {sh:Sh} {aa:aq} :
   aY O (⟨d,some (t,b),args,op⟩::l) ⟨env,mem,sh,aa⟩=gd O t (⟨d,some (t,b),args,op⟩::l) d l env mem sh aa (look env t):=by
 unfold gd
 split
 · rename_i c h
   split
   · rename_i hn;exact rB h hn
   · rfl
 · rename_i h;exact pL h
 · rfl
theorem CG {t:Nat} {ops:List cB} {d:Option Nat} {l:List cB} {env:List (Nat×AV)} {mem:List (Nat×List AV)} {sh:Sh} {aa:aq} {c:Bool}:gd O t ops d l env mem sh aa (some (.pv (.bool c))) =
   if Cj t ops=true then (if c=true then aY O (ops.map (mV t true)) ⟨cC env t (.pv (.bool true)),mem,sh,aa⟩
     else aY O (ops.map (mV t false)) ⟨cC env t (.pv (.bool false)),mem,sh,aa⟩) else aY O ops ⟨env,mem,sh,aa⟩:=rfl
theorem FJ {t:Nat} {ops:List cB} {d:Option Nat} {l:List cB} {env:List (Nat×AV)} {mem:List (Nat×List AV)} {sh:Sh} {aa:aq}:gd O t ops d l env mem sh aa (some .un)=aY O l ⟨dP env d .un,mem,sh,aa⟩:=rfl
theorem CH {t:Nat}:Cj t []=true:=rfl
theorem Ao {t d:Nat} {g:Option (Nat×Bool)} {args:List di} {op:AK} {l:List cB}:Cj t (⟨some d,g,args,op⟩::l)=(!(decide (d=t)) && Cj t l):=by
 simp only [Cj]
 congr 1
theorem xO {t:Nat} {b:Bool} {d:Option Nat} {args:List di} {op:AK}:mV t b ⟨d,none,args,op⟩=⟨d,none,args,op⟩:=rfl
theorem xQ {t t':Nat} {b b':Bool} {d:Option Nat} {args:List di} {op:AK}:mV t b ⟨d,some (t',b'),args,op⟩=if t'=t then (if b'=b then ⟨d,none,args,op⟩ else ⟨d,none,[.c .un],.v .mv⟩) else ⟨d,some (t',b'),args,op⟩:=rfl
theorem rC {d k:Option Nat} {env:List (Nat×AV)} {mem:List (Nat×List AV)} {v:AV} {cs:Option (List AV)} {sh:Sh} {aa:aq} :
   Ah d k env mem (some ⟨v,cs,sh,aa⟩)=some ⟨dP env d v,dk mem k cs,sh,aa⟩:=rfl
theorem tL {op:AK} {vals:List AV} {cells:Option (List AV)} {sh:Sh} {aa:aq}:Ai O op (some vals) cells sh aa=exec O op vals cells sh aa:=rfl
def Ap (sh:Sh) (aa:aq):Option AV→Option Out
 | some x=>some ⟨x,none,sh,aa⟩
 | none=>none
theorem xR {sh:Sh} {aa:aq} {x:AV}:Ap sh aa (some x)=some ⟨x,none,sh,aa⟩:=rfl
variable {vals:List AV} {cells:Option (List AV)} {sh:Sh} {aa:aq}
theorem Ez {o:Co}:exec O (.v o) vals cells sh aa=Ap sh aa (a5 o vals):=by
 show (a5 o vals).map _=_
 cases a5 o vals<;>rfl
theorem eB {key off sz d o:Nat} {ag:Bool} {cs:List AV}:exec O (.bU key off sz ag) [.aN d o] (some cs) sh aa=if d=key∧o=off then Ap sh aa (br ag sz cs off) else none:=by
 show (if d=key∧o=off then (br ag sz cs off).map _ else none)=_
 cases br ag sz cs off<;>rfl
theorem eL {key off sz d o:Nat} {v:AV} {cs:List AV}:exec O (.bA key off sz) [.aN d o,v] (some cs) sh aa =
   if d=key∧o=off∧(aM v).length=sz∧(aM v).all aH=true then if off+sz≤cs.length then some ⟨.un,some (aO cs off (aM v)),sh,aa⟩ else none else none:=rfl
theorem fy {key:Nat} {zero:List PV}:exec O (.alloc key zero) [] none sh aa=some ⟨.aN key 0,some (zero.map a5.zeroCell),sh,aa⟩:=rfl
theorem iy {key sz:Nat} {v:AV}:exec O (.box key sz) [v] none sh aa=if (aM v).length=sz∧(aM v).all aH=true then some ⟨.aN key 0,some (aM v),sh,aa⟩ else none:=rfl
theorem rD {sz:Nat} {ag:Bool} {cs:List PV}:exec O (.dJ sz ag) [.ek cs] cells sh aa=Ap sh aa (bN ag sz cs):=by
 show (bN ag sz cs).map _=_
 cases bN ag sz cs<;>rfl
def pM (ag:Bool) (sz off:Nat):Option (Option (List AV))→Option AV
 | some (some cs)=>if db cs=true then none else br ag sz cs off
 | _=>none
theorem lD {ag:Bool} {sz off:Nat} {cs:List AV}:pM ag sz off (some (some cs))=if db cs=true then none else br ag sz cs off:=rfl
theorem rE {sz b off:Nat} {ag:Bool}:exec O (.dJ sz ag) [.aJ b off] cells sh aa=Ap sh aa (pM ag sz off sh[b]?):=by
 show (match sh[b]? with | some (some cs)=>if db cs=true then none else (br ag sz cs off).map _ | _=>none)=_
 split
 · rename_i cs h
   rw [h,lD]
   split
   · rfl
   · cases br ag sz cs off<;>rfl
 · rename_i h
   unfold pM
   split
   · rename_i cs e;exact absurd e (h cs)
   · rfl
def pN (b off sz:Nat) (vs:List AV) (sh:Sh) (aa:aq):Option (Option (List AV))→Option Out
 | some (some cs)=>if db cs=false∧vs.length=sz∧off+sz≤cs.length∧vs.all cp=true∧vs.all (aw (b+1))=true then some ⟨.un,none,sh.set b (some (aO cs off vs)),aa⟩ else none
 | _=>none
theorem jW {b off sz:Nat} {vs cs:List AV}:pN b off sz vs sh aa (some (some cs))=if db cs=false∧vs.length=sz∧off+sz≤cs.length∧vs.all cp=true∧vs.all (aw (b+1))=true then some ⟨.un,none,sh.set b (some (aO cs off vs)),aa⟩ else none:=rfl
theorem eM {sz b off:Nat} {v:AV}:exec O (.ev sz) [.aJ b off,v] cells sh aa=pN b off sz (bE v) sh aa sh[b]?:=by
 show (match sh[b]? with | some (some cs)=>_ | _=>none)=_
 split
 · rename_i cs h
   rw [h,jW]
 · rename_i h
   unfold pN
   split
   · rename_i cs e;exact absurd e (h cs)
   · rfl
theorem iN {sz:Nat} {v:AV}:exec O (.kj sz) [v] cells sh aa=if (bE v).length=sz∧(bE v).all cp=true∧(bE v).all (aw sh.length)=true then some ⟨.aJ sh.length 0,none,sh++[some (bE v)],aa⟩ else none:=rfl
theorem gg {zero:List PV}:exec O (.gl zero) [] cells sh aa=some ⟨.aJ sh.length 0,none,sh++[some (zero.map a5.zeroCell)],aa⟩:=rfl
theorem gT {sz bytes:Nat} {ag:Bool} {zero:List PV} {k k':IntKind} {n n':Int}:exec O (.hU sz bytes ag zero) [.pv (.int k n),.pv (.int k' n')] cells sh aa =
   if n=n'∧0≤n∧n≤9223372036854775807∧n*bytes≤140737488355328∧zero.length=sz then some ⟨.aX sh.length sz n.toNat ag,none,sh++[some ((List.replicate n.toNat (zero.map .pv)).flatten)],aa⟩ else none:=rfl
theorem fC {key sz bytes:Nat} {zero:List PV} {k k':IntKind} {n n':Int}:exec O (.fj key sz bytes zero) [.pv (.int k n),.pv (.int k' n')] none sh aa =
   if n=n'∧0≤n∧n≤9223372036854775807∧n*bytes≤140737488355328∧zero.length=sz then some ⟨.gB key n.toNat,some ((List.replicate n.toNat (zero.map .pv)).flatten),sh,aa⟩ else none:=rfl
theorem tM {live:List Nat} {d n:Nat}:cK live (.gB d n)=live.contains d:=rfl
def Hx (ts:List Nat) (st:St):Option AV→St
 | some (.aX b _ _ _)=>match st.sh[b]? with
   | some (some cells)=>if db cells=false then { st with env:=ta b st.sh.length ts st.env,sh:=st.sh.set b none++[some cells] } else st
   | _=>st
 | _=>st
def Hy (r:List Nat) (st:St):Option AV→St
 | some (.aX b _ _ _)=>match st.sh[b]? with
   | some (some cells)=>if db cells=false∧(dj (.agg cells)).contains b=false then
       match cU st.sh cells with
       | some ps=>jD r { st with sh:=(ck st.sh [.agg cells]).set b (some (ps.map .pv)) }
       | none=>jD r st
     else jD r st
   | _=>jD r st
 | _=>jD r st
def GH (aa:aq):Option (AV×Sh×aq)→Option Out
 | some (v,sh',ts)=>some ⟨v,none,sh',ts⟩
 | none=>none
theorem xS {v:AV} {sh':Sh} {ts:aq}:GH aa (some (v,sh',ts))=some ⟨v,none,sh',ts⟩:=rfl
theorem CI {p:PV} {r:List AV}:db (.pv p::r)=false:=rfl
def EA (s:Nat) (sh:Sh) (aa:aq):Option (List (PV×PV))→Option Out
 | some kvs=>some ⟨.un,none,sh.set s (some [.dT kvs]),aa⟩
 | none=>none
theorem xT {s:Nat} {kvs:List (PV×PV)}:EA s sh aa (some kvs)=some ⟨.un,none,sh.set s (some [.dT kvs]),aa⟩:=rfl
def GI (c:CK) (s:Nat) (k:PV) (sh:Sh) (aa:aq):Option (Option (List AV))→Option PV→Option Out
 | some (some [.dT kvs]),some p=>EA s sh aa (zV c kvs k p)
 | _,_=>none
theorem xU {c:CK} {s:Nat} {k p:PV} {kvs:List (PV×PV)}:GI c s k sh aa (some (some [.dT kvs])) (some p)=EA s sh aa (zV c kvs k p):=rfl
def EB (sh:Sh):Option (AV×aq)→Option Out
 | some (v,ts)=>some ⟨v,none,sh,ts⟩
 | none=>none
theorem xW {v:AV} {ts:aq}:EB sh (some (v,ts))=some ⟨v,none,sh,ts⟩:=rfl
theorem gh {sz bytes:Nat} {s x:AV}:exec O (.append sz bytes) [s,x] cells sh aa=EB sh (bn sz bytes s x aa):=by
 show (bn sz bytes s x aa).map _=_
 cases bn sz bytes s x aa<;>rfl
theorem je {sz bytes:Nat} {x:AV}:exec O (.clone sz bytes) [x] cells sh aa=EB sh (bn sz bytes (.cI []) x aa):=by
 show (bn sz bytes (.cI []) x aa).map _=_
 cases bn sz bytes (.cI []) x aa<;>rfl
def wB (sz bytes:Nat) (s:AV) (aa:aq):Option (List PV)→Option (AV×aq)
 | some xs=>if a6 sz xs=true then
   match s with
   | .cI l=>if xs.isEmpty=true then some (.cI l,aa) else if a6 sz l=true∧(l.length+xs.length)*bytes≤140737488355328 then
       some (.own (l++xs) aa.length,aa++[(l++xs).length]) else none
   | .own l τ=>if aa[τ]?=some l.length∧a6 sz l=true∧(l.length+xs.length)*bytes≤140737488355328 then
       some (.own (l++xs) τ,aa.set τ (l++xs).length) else none
   | _=>none
   else none
 | none=>none
theorem nS {sz bytes:Nat} {s x:AV}:bn sz bytes s x aa=wB sz bytes s aa (cy x):=by
 unfold bn wB
 cases cy x<;>rfl
theorem xX {sz bytes:Nat} {l xs:List PV}:wB sz bytes (.cI l) aa (some xs)=if a6 sz xs=true then if xs.isEmpty=true then some (.cI l,aa) else if a6 sz l=true∧(l.length+xs.length)*bytes≤140737488355328 then
       some (.own (l++xs) aa.length,aa++[(l++xs).length]) else none else none:=rfl
theorem xY {sz bytes τ:Nat} {l xs:List PV}:wB sz bytes (.own l τ) aa (some xs)=if a6 sz xs=true then if aa[τ]?=some l.length∧a6 sz l=true∧(l.length+xs.length)*bytes≤140737488355328 then
       some (.own (l++xs) τ,aa.set τ (l++xs).length) else none else none:=rfl
def EC (aa:aq):Option (AV×Sh)→Option Out
 | some (v,sh)=>some ⟨v,none,sh,aa⟩
 | none=>none
theorem xZ {v:AV} {sh:Sh}:EC aa (some (v,sh))=some ⟨v,none,sh,aa⟩:=rfl
def Aq (sz bytes:Nat) (ag:Bool) (s:AV) (sh:Sh) (aa:aq):Option (List PV)→Option Out
 | some xs=>if a6 sz xs=true then EC aa (lO sz bytes ag s xs sh aa) else none
 | none=>none
theorem tN {sz bytes:Nat} {ag:Bool} {s:AV} {xs:List PV}:Aq sz bytes ag s sh aa (some xs)=if a6 sz xs=true then EC aa (lO sz bytes ag s xs sh aa) else none:=rfl
theorem gV {sz bytes:Nat} {ag:Bool} {s x:AV}:exec O (.cR sz bytes ag) [s,x] cells sh aa=Aq sz bytes ag s sh aa (cy x):=by
 simp only [exec,Aq]
 cases cy x with
 | none=>rfl
 | some xs=>
   simp only
   split
   · cases lO sz bytes ag s xs sh aa<;>rfl
   · rfl
def tO (sz bytes:Nat) (ag:Bool) (b z n:Nat) (g:Bool) (xs:List PV) (sh:Sh):Option (Option (List AV))→Option (AV×Sh)
 | some (some cells)=>if z=sz∧g=ag∧db cells=false∧n*sz≤cells.length∧(n+xs.length)*bytes≤140737488355328 then
       if xs.isEmpty=true then some (.aX b sz n ag,sh) else some (.aX sh.length sz (n+xs.length) ag,sh.set b none++[some (cells.take (n*sz)++(xs.flatMap aL).map .pv)])
     else none
 | _=>none
theorem rF {sz bytes:Nat} {ag:Bool} {b z n:Nat} {g:Bool} {xs:List PV} {cells:List AV}:tO sz bytes ag b z n g xs sh (some (some cells))=if z=sz∧g=ag∧db cells=false∧n*sz≤cells.length∧(n+xs.length)*bytes≤140737488355328 then
       if xs.isEmpty=true then some (.aX b sz n ag,sh) else some (.aX sh.length sz (n+xs.length) ag,sh.set b none++[some (cells.take (n*sz)++(xs.flatMap aL).map .pv)])
     else none:=rfl
theorem Au {sz bytes:Nat} {ag:Bool} {xs:List PV}:lO sz bytes ag (.cI []) xs sh aa=me sz bytes ag (.cI []) xs sh:=rfl
theorem Av {sz bytes τ:Nat} {ag:Bool} {xs:List PV}:lO sz bytes ag (.own [] τ) xs sh aa=if aa[τ]?=some 0 then me sz bytes ag (.own [] τ) xs sh else none:=rfl
theorem x7 {sz bytes b z n:Nat} {ag g:Bool} {xs:List PV}:lO sz bytes ag (.aX b z n g) xs sh aa=tO sz bytes ag b z n g xs sh sh[b]?:=by
 simp only [lO,tO]
 rcases sh[b]? with _ | _ | cells<;>rfl
theorem CJ {sz bytes:Nat} {ag:Bool} {s:AV} {xs:List PV}:me sz bytes ag s xs sh=if xs.isEmpty=true then some (s,sh) else if xs.length*bytes≤140737488355328 then some (.aX sh.length sz xs.length ag,sh++[some ((xs.flatMap aL).map .pv)]) else none:=rfl
def CL (r:List Nat) (t:Nat) (st:St) (v:AV):Option PV→St
 | some p=>jb r { st with env:=cC st.env t (.pv p),sh:=ck st.sh [v] }
 | none=>jb r (s_ v st)
def Aw (d:Nat) (cs:List AV) (st:St):Option (List PV)→St
 | some ps=>{ st with mem:=cC st.mem d (ps.map .pv),sh:=ck st.sh [.agg cs] }
 | none=>st
def Ax (d:Nat) (st:St):Option (List AV)→St
 | some cs=>Aw d cs st (cU st.sh cs)
 | none=>st
theorem x8 {d:Nat} {st:St}:s_ (.aN d 0) st=Ax d st (look st.mem d):=by
 simp only [s_]
 cases look st.mem d with
 | none=>rfl
 | some cs=>
   simp only [Ax]
   cases cU st.sh cs<;>rfl
theorem tP {d:Nat} {st:St} {cs:List AV}:Ax d st (some cs)=Aw d cs st (cU st.sh cs):=rfl
theorem tQ {d:Nat} {st:St} {cs:List AV} {ps:List PV}:Aw d cs st (some ps)={ st with mem:=cC st.mem d (ps.map .pv),sh:=ck st.sh [.agg cs] }:=rfl
def ED (r:List Nat) (t:Nat) (st:St):Option AV→St
 | some v=>CL r t st v (eo st.sh v)
 | none=>jb r st
theorem Ay {st:St}:jb [] st=st:=rfl
theorem x9 {t:Nat} {r:List Nat} {st:St}:jb (t::r) st=ED r t st (look st.env t):=by
 simp only [jb]
 cases look st.env t with
 | none=>rfl
 | some v=>
   simp only [ED]
   cases eo st.sh v<;>rfl
theorem x_ {r:List Nat} {t:Nat} {st:St} {v:AV}:ED r t st (some v)=CL r t st v (eo st.sh v):=rfl
theorem ya {r:List Nat} {t:Nat} {st:St} {v:AV} {p:PV}:CL r t st v (some p)=jb r { st with env:=cC st.env t (.pv p),sh:=ck st.sh [v] }:=rfl
theorem yd {r:List Nat} {t:Nat} {st:St} {v:AV}:CL r t st v none=jb r (s_ v st):=rfl
def GJ (aa:aq):Option Sh→Option Out
 | some sh=>some ⟨.kP [],none,sh,aa⟩
 | none=>none
theorem ye {sh:Sh}:GJ aa (some sh)=some ⟨.kP [],none,sh,aa⟩:=rfl
def Az (sz:Nat) (sh:Sh) (aa:aq) (x:AV):Option (List PV)→Option Out
 | some xs=>FK aa (og sz sh xs x)
 | none=>none
where FK (aa:aq):Option (Nat×Sh)→Option Out
 | some (k,sh')=>some ⟨.pv (.int .i64 (k:Int)),none,sh',aa⟩
 | none=>none
theorem gU {sz:Nat} {x y:AV}:exec O (.ij sz) [x,y] cells sh aa=Az sz sh aa x (cy y):=by
 simp only [exec,Az]
 cases cy y with
 | none=>rfl
 | some xs=>simp only;cases og sz sh xs x<;>rfl
theorem yf:qq [] []=true:=rfl
theorem tR {a b:List UInt8} {r q:List PV}:qq (.str a::r) (.str b::q)=((a == b) && qq r q):=rfl
theorem tS {sz b n:Nat} {ag lo hi:Bool} {rest:List AV}:a5 (.s9 sz lo hi) (.aX b sz n ag::rest)=jB sz lo hi (.aX b sz n ag::rest):=rfl
theorem AA {l:List PV}:cy (.pv (.aE l))=some l:=rfl
theorem yg {l:List PV}:cy (.cI l)=some l:=rfl
theorem yh {l:List PV} {τ:Nat}:cy (.own l τ)=some l:=rfl
theorem tT {sz:Nat}:a6 sz []=true:=rfl
theorem rG {sz:Nat} {p:PV} {r:List PV}:a6 sz (p::r)=((aL p).length == sz):=rfl
def EE (sh:Sh) (aa:aq):Option (List PV)→Option Out
 | some rs=>some ⟨l_ rs,none,sh,aa⟩
 | none=>none
theorem yi {rs:List PV}:EE sh aa (some rs)=some ⟨l_ rs,none,sh,aa⟩:=rfl
def AB (O:dr) (g:Nat):Option (List PV)→Option (List PV)
 | some bZ=>O.p g bZ
 | none=>none
theorem jm {g:Nat} {bZ:List PV}:AB O g (some bZ)=O.p g bZ:=rfl
theorem tU {g:Nat}:exec O (.aR g) vals cells sh aa=EE sh aa (AB O g (bY [] vals)):=by
 show (match bY [] vals with | some bZ=>_ | none=>none)=_
 split
 · rename_i bZ h
   rw [h,jm]
   cases O.p g bZ<;>rfl
 · rename_i h;rw [h];rfl
theorem rH {g:Nat}:exec O (.ew g) vals cells sh aa=EE (ck sh vals) aa (AB O g (bY sh vals)):=by
 show (match bY sh vals with | some bZ=>_ | none=>none)=_
 split
 · rename_i bZ h
   rw [h,jm]
   cases O.p g bZ<;>rfl
 · rename_i h;rw [h];rfl
def EF (n:Nat) (ts0:aq):Option (List AV×Sh×aq)→Option Out
 | some (rs,sh',ts)=>some ⟨mc (rs.map (cm n)),none,fo n sh',ts0++ts⟩
 | none=>none
theorem yj {n:Nat} {ts0:aq} {rs:List AV} {sh':Sh} {ts:aq}:EF n ts0 (some (rs,sh',ts))=some ⟨mc (rs.map (cm n)),none,fo n sh',ts0++ts⟩:=rfl
def wC (O:dr) (g n:Nat) (q:List AV×Sh×aq×aq):Option Out:=EF n q.2.2.1 (O.i g q.1 q.2.1 q.2.2.2)
theorem AD {g n:Nat} {a:List AV} {s:Sh} {o t:aq}:wC O g n (a,s,o,t)=EF n o (O.i g a s t):=rfl
def rI (O:dr) (g:Nat) (args:List AV) (sh:Sh) (aa:aq):Option Out:=
 if args.all bg=true then wC O g aa.length (bQ aa args sh) else none
theorem AE {g:Nat} {args:List AV}:rI O g args sh aa=if args.all bg=true then wC O g aa.length (bQ aa args sh) else none:=rfl
theorem lE {g:Nat} {own:List Nat}:(cE O g own vals sh aa).map (fun (v,sh',ts)=>(⟨v,none,sh',ts⟩:Out))=rI O g (dc own 0 vals) sh aa:=by
 unfold cE rI wC
 split
 · cases O.i g (bQ aa (dc own 0 vals) sh).1 (bQ aa (dc own 0 vals) sh).2.1 (bQ aa (dc own 0 vals) sh).2.2.2 with
   | none=>rfl
   | some q=>obtain ⟨a,b,c⟩:=q;rfl
 · rfl
theorem tV {g:Nat} {own:List Nat}:exec O (.bV g own) vals cells sh aa=rI O g (dc own 0 vals) sh aa:=lE
def He (sh:Sh):Option Out→Option Out
 | some o=>if i0 o.sh sh=true then some ⟨o.val,none,sh,o.aa⟩ else none
 | none=>none
theorem AF {v:AV} {c:Option (List AV)} {s:Sh} {t:aq}:He sh (some ⟨v,c,s,t⟩)=if i0 s sh=true then some ⟨v,none,sh,t⟩ else none:=rfl
theorem rJ {g:Nat} {cap:List AV}:exec O .da (.fn g cap::vals) cells sh aa=He sh (rI O g (dc [] 0 (vals++cap)) sh aa):=by
 rw [←lE]
 simp only [exec]
 cases cE O g [] (vals++cap) sh aa with
 | none=>rfl
 | some q=>obtain ⟨v,s,t⟩:=q;rfl
theorem tW:AK.key .da=none:=rfl
mutual
theorem oH:∀p:PV,iZ p p=true
 | .bool _=>by simp [iZ]
 | .int _ _=>by simp [iZ]
 | .str _=>by simp [iZ]
 | .agg l=>by simp only [iZ];exact jn l
 | .aE l=>by simp only [iZ];exact jn l
theorem jn:∀l:List PV,jC l l=true
 | []=>rfl
 | p::r=>by simp only [jC,oH p,jn r,Bool.and_self]
end
theorem EG {p:PV}:Ft (.pv p) (.pv p)=true:=oH p
theorem AG:nH [] []=true:=rfl
theorem yk {a b:AV} {r q:List AV}:nH (a::r) (b::q)=(Ft a b && nH r q):=rfl
theorem AH:i0 [] []=true:=rfl
theorem yl {a b:List AV} {r q:Sh}:i0 (some a::r) (some b::q)=(nH a b && i0 r q):=rfl
def b2sO:Option (List UInt8)→Option AV
 | some s=>some (.pv (.str s))
 | none=>none
theorem b2sO_some {s:List UInt8}:b2sO (some s)=some (.pv (.str s)):=rfl
theorem tX {own:List Nat} {i:Nat}:dc own i []=[]:=rfl
theorem rK {own:List Nat} {i:Nat} {v:AV} {r:List AV}:dc own i (v::r)=(if own.contains i then v else i1 v)::dc own (i+1) r:=rfl
theorem AI {p:PV}:i1 (.pv p)=.pv p:=rfl
theorem ym {l:List PV}:i1 (.cI l)=.pv (.aE l):=rfl
theorem yn {l:List PV} {τ:Nat}:i1 (.own l τ)=.pv (.aE l):=rfl
theorem tY {b o:Nat}:i1 (.aJ b o)=.aJ b o:=rfl
theorem AJ {g:Nat} {cap:List AV}:i1 (.fn g cap)=.fn g cap:=rfl
theorem tZ {b s n:Nat} {ag:Bool}:i1 (.aX b s n ag)=.aX b s n ag:=rfl
def EH (cs:List AV):Option (List PV)→AV
 | some ps=>.pv (.agg ps)
 | none=>.agg cs
theorem rL {cs:List AV} {ps:List PV}:EH cs (some ps)=.pv (.agg ps):=rfl
def oI {α:Type}:Option α→Option (List α)→Option (List α)
 | some x,some l=>some (x::l)
 | _,_=>none
theorem t4 {α:Type} {x:α} {l:List α}:oI (some x) (some l)=some (x::l):=rfl
theorem t5 {env:List (Nat×AV)}:cJ env []=some []:=rfl
theorem rM {env:List (Nat×AV)} {x:di} {r:List di}:cJ env (x::r)=oI (et env x) (cJ env r):=by
 simp only [cJ]
 cases et env x<;>cases cJ env r<;>rfl
theorem CM {env:List (Nat×AV)} {n:Nat}:et env (.t n)=look env n:=rfl
theorem CN {env:List (Nat×AV)} {v:AV}:et env (.c v)=some v:=rfl
theorem AL:fm []=some []:=rfl
theorem t6:bY sh []=some []:=rfl
theorem rN {v:AV} {r:List AV}:bY sh (v::r)=oI (eo sh v) (bY sh r):=by
 simp only [bY]
 cases eo sh v<;>cases bY sh r<;>rfl
theorem yo:cU sh []=some []:=rfl
theorem t7 {v:AV} {r:List AV}:cU sh (v::r)=if aH v=true then oI (cD sh v) (cU sh r) else none:=by
 simp only [cU]
 split
 · cases cD sh v<;>cases cU sh r<;>rfl
 · rfl
theorem CO {p:PV}:ja (.pv p)=some p:=rfl
theorem EI {p:PV}:eo sh (.pv p)=some p:=rfl
theorem CP {l:List PV}:eo sh (.cI l)=some (.aE l):=rfl
theorem CQ {l:List PV} {τ:Nat}:eo sh (.own l τ)=some (.aE l):=rfl
def FL:Option (List PV)→Option PV
 | some ps=>some (.agg ps)
 | none=>none
theorem yp {ps:List PV}:FL (some ps)=some (.agg ps):=rfl
theorem CR {cs:List AV}:eo sh (.agg cs)=FL (cU sh cs):=by
 simp only [eo]
 cases cU sh cs<;>rfl
theorem t8 {p:PV}:cD sh (.pv p)=some p:=rfl
theorem rO {l:List PV}:cD sh (.cI l)=some (.aE l):=rfl
theorem rP {l:List PV} {τ:Nat}:cD sh (.own l τ)=some (.aE l):=rfl
def EJ (sz n:Nat) (ag:Bool):Option (Option (List AV))→Option PV
 | some (some cells)=>if cells.length=n*sz then ((fm cells).bind (ey sz ag n)).map .aE
   else if db cells=false∧n*sz≤cells.length then ((fm (cells.take (n*sz))).bind (ey sz ag n)).map .aE else none
 | _=>none
theorem pO {b sz n:Nat} {ag:Bool}:cD sh (.aX b sz n ag)=EJ sz n ag sh[b]?:=rfl
theorem AM {b sz n:Nat} {ag:Bool}:eo sh (.aX b sz n ag)=EJ sz n ag sh[b]?:=rfl
theorem yq {sz n:Nat} {ag:Bool} {cells:List AV}:EJ sz n ag (some (some cells))=if cells.length=n*sz then ((fm cells).bind (ey sz ag n)).map .aE else if db cells=false∧n*sz≤cells.length then ((fm (cells.take (n*sz))).bind (ey sz ag n)).map .aE else none:=rfl
theorem AN {r:PV}:l_ [r]=.pv r:=rfl
theorem AO {a b:PV} {r:List PV}:l_ (a::b::r)=.kP (.pv a::.pv b::r.map .pv):=rfl
theorem AR {r:AV}:mc [r]=r:=rfl
theorem AS:mc []=.kP []:=rfl
theorem AT {xs:List AV}:bQ aa xs sh=((aS aa [] xs).1,(bt (aS aa [] xs).2.1 (aS aa [] xs).2.2 sh).1,(bt (aS aa [] xs).2.1 (aS aa [] xs).2.2 sh).2.1,(bt (aS aa [] xs).2.1 (aS aa [] xs).2.2 sh).2.2):=rfl
theorem yr {aC ts:aq}:aS aC ts []=([],aC,ts):=rfl
theorem mW {aC ts:aq} {v:AV} {r:List AV}:aS aC ts (v::r)=((a7 aC ts v).1::(aS (a7 aC ts v).2.1 (a7 aC ts v).2.2 r).1,(aS (a7 aC ts v).2.1 (a7 aC ts v).2.2 r).2):=rfl
theorem yt {aC ts:aq}:bt aC ts []=([],aC,ts):=rfl
theorem mX {aC ts:aq} {r:Sh}:bt aC ts (none::r)=(none::(bt aC ts r).1,(bt aC ts r).2):=rfl
theorem mY {aC ts:aq} {cs:List AV} {r:Sh}:bt aC ts (some cs::r)=(some (aS aC ts cs).1::(bt (aS aC ts cs).2.1 (aS aC ts cs).2.2 r).1,(bt (aS aC ts cs).2.1 (aS aC ts cs).2.2 r).2):=rfl
theorem yu {aC ts:aq}:cd aC ts []=([],aC,ts):=rfl
theorem t9 {aC ts:aq} {t:Nat} {v:AV} {r:List (Nat×AV)}:cd aC ts ((t,v)::r)=((t,(a7 aC ts v).1)::(cd (a7 aC ts v).2.1 (a7 aC ts v).2.2 r).1,(cd (a7 aC ts v).2.1 (a7 aC ts v).2.2 r).2):=rfl
theorem yv {aC ts:aq}:dv aC ts []=([],aC,ts):=rfl
theorem t_ {aC ts:aq} {t:Nat} {v:List AV} {r:List (Nat×List AV)}:dv aC ts ((t,v)::r)=((t,(aS aC ts v).1)::(dv (aS aC ts v).2.1 (aS aC ts v).2.2 r).1,(dv (aS aC ts v).2.1 (aS aC ts v).2.2 r).2):=rfl
theorem yw {aC ts:aq} {l:List PV} {τ:Nat}:a7 aC ts (.own l τ)=if aC[τ]?=some l.length then (.own l ts.length,aC.set τ (l.length+1),ts++[l.length]) else (.pv (.aE l),aC,ts):=rfl
theorem yx {aC ts:aq} {l:List PV}:a7 aC ts (.cI l)=(.own l ts.length,aC,ts++[l.length]):=rfl
theorem rQ {aC ts:aq} {p:PV}:a7 aC ts (.pv p)=(.pv p,aC,ts):=rfl
def ua (aC ts:aq) (p:List AV):Bool→AV×aq×aq
 | true=>(.agg p,aC,ts)
 | false=>(.agg (bH aC ts p).1,(bH aC ts p).2.1,(bH aC ts p).2.2)
theorem yy {aC ts:aq} {p:List AV}:a7 aC ts (.agg p)=ua aC ts p (bj.d5 p):=by
 simp only [a7]
 cases bj.d5 p<;>rfl
theorem rR {aC ts:aq} {p:List AV}:ua aC ts p true=(.agg p,aC,ts):=rfl
theorem pP {aC ts:aq} {p:List AV}:ua aC ts p false=(.agg (bH aC ts p).1,(bH aC ts p).2.1,(bH aC ts p).2.2):=rfl
theorem ub {aC ts:aq}:bH aC ts []=([],aC,ts):=rfl
theorem rS {aC ts:aq} {v:AV} {r:List AV}:bH aC ts (v::r)=((cM aC ts v).1::(bH (cM aC ts v).2.1 (cM aC ts v).2.2 r).1,(bH (cM aC ts v).2.1 (cM aC ts v).2.2 r).2):=rfl
theorem yz {aC ts:aq} {l:List PV} {τ:Nat}:cM aC ts (.own l τ)=if aC[τ]?=some l.length then (.own l ts.length,aC.set τ (l.length+1),ts++[l.length]) else (.pv (.aE l),aC,ts):=rfl
theorem AU {aC ts:aq} {p:PV}:cM aC ts (.pv p)=(.pv p,aC,ts):=rfl
theorem uc {aC ts:aq} {a b c:Nat} {d:Bool}:cM aC ts (.aX a b c d)=(.aX a b c d,aC,ts):=rfl
theorem ud {aC ts:aq} {a b:Nat}:a7 aC ts (.aN a b)=(.aN a b,aC,ts):=rfl
theorem ue {aC ts:aq} {a b:Nat}:a7 aC ts (.aJ a b)=(.aJ a b,aC,ts):=rfl
theorem uf {aC ts:aq} {a b c:Nat} {d:Bool}:a7 aC ts (.aX a b c d)=(.aX a b c d,aC,ts):=rfl
theorem AW {aC ts:aq} {a:Nat} {c:List AV}:a7 aC ts (.fn a c)=(.fn a c,aC,ts):=rfl
theorem ug {s:Nat} {aC ts:aq}:a7 aC ts (.gA s)=((.gA s),aC,ts):=rfl
theorem uh {s:List (PV×PV)} {aC ts:aq}:a7 aC ts (.dT s)=((.dT s),aC,ts):=rfl
theorem CS {env:List (Nat×AV)} {mem:List (Nat×List AV)}:norm ⟨env,mem,sh,aa⟩ =
   { env:=(cd aa [] env).1,
     mem:=(dv (cd aa [] env).2.1 (cd aa [] env).2.2 mem).1,
     sh:=(bt (dv (cd aa [] env).2.1 (cd aa [] env).2.2 mem).2.1 (dv (cd aa [] env).2.1 (cd aa [] env).2.2 mem).2.2 sh).1,
     aa:=(bt (dv (cd aa [] env).2.1 (cd aa [] env).2.2 mem).2.1 (dv (cd aa [] env).2.1 (cd aa [] env).2.2 mem).2.2 sh).2.2 }:=rfl
theorem rT {live:List Nat} {env:List (Nat×AV)} {mem:List (Nat×List AV)}:restrict live ⟨env,mem,sh,aa⟩=⟨aZ live env live,a8 mem live,sh,aa⟩:=rfl
def DT (live:List Nat) (t:Nat) (rest:List (Nat×AV)):Option AV→List (Nat×AV)
 | some v=>if cK live v=true then (t,v)::rest else rest
 | none=>rest
theorem ui {live:List Nat} {t:Nat} {rest:List (Nat×AV)} {v:AV}:DT live t rest (some v)=if cK live v=true then (t,v)::rest else rest:=rfl
theorem lS {live:List Nat} {env:List (Nat×AV)}:aZ live env []=[]:=rfl
theorem kE {live:List Nat} {env:List (Nat×AV)} {t:Nat} {r:List Nat}:aZ live env (t::r)=DT live t (aZ live env r) (look env t):=by
 show (match look env t with | some v=>_ | none=>_)=_
 cases look env t<;>rfl
def AX (t:Nat) (rest:List (Nat×List AV)):Option (List AV)→List (Nat×List AV)
 | some v=>(t,v)::rest
 | none=>rest
theorem uj {t:Nat} {rest:List (Nat×List AV)} {v:List AV}:AX t rest (some v)=(t,v)::rest:=rfl
theorem uk {t:Nat} {rest:List (Nat×List AV)}:AX t rest none=rest:=rfl
theorem lT {mem:List (Nat×List AV)}:a8 mem []=[]:=rfl
theorem kF {mem:List (Nat×List AV)} {t:Nat} {r:List Nat}:a8 mem (t::r)=AX t (a8 mem r) (look mem t):=by
 show (match look mem t with | some v=>_ | none=>_)=_
 cases look mem t<;>rfl
theorem um {live:List Nat} {d o:Nat}:cK live (.aN d o)=live.contains d:=rfl
theorem yA {live:List Nat} {l:List PV} {τ:Nat}:cK live (.own l τ)=true:=rfl
theorem AY {live:List Nat} {p:PV}:cK live (.pv p)=true:=rfl
theorem yB {live:List Nat} {l:List PV}:cK live (.cI l)=true:=rfl
theorem uq:dN []=true:=rfl
theorem rU {v:AV} {r:List AV}:dN (v::r)=(fY v && dN r):=rfl
theorem AZ {p:PV}:fY (.pv p)=true:=rfl
theorem yC {l:List PV}:fY (.cI l)=true:=rfl
theorem ur {live:List Nat} {a b:Nat}:cK live (.aJ a b)=true:=rfl
theorem uu {live:List Nat} {a b c:Nat} {d:Bool}:cK live (.aX a b c d)=true:=rfl
theorem A0 {live:List Nat} {a:Nat} {c:List AV}:cK live (.fn a c)=bj.d5 c:=rfl
theorem uv {s:Nat} {live:List Nat}:cK live (.gA s)=true:=rfl
theorem look_nil {α:Type} {t:Nat}:look ([]:List (Nat×α)) t=none:=rfl
theorem yD {α:Type} {k t:Nat} {v:α} {r:List (Nat×α)}:look ((k,v)::r) t=if k=t then some v else look r t:=rfl
theorem A1 {α:Type} {t:Nat} {v:α}:cC ([]:List (Nat×α)) t v=[(t,v)]:=rfl
theorem yE {α:Type} {k t:Nat} {v u:α} {r:List (Nat×α)}:cC ((k,v)::r) t u=if k=t then (k,u)::r else (k,v)::cC r t u:=rfl
theorem yF {env:List (Nat×AV)} {d:Nat} {v:AV}:dP env (some d) v=cC env d v:=rfl
theorem yG {env:List (Nat×AV)} {v:AV}:dP env none v=env:=rfl
theorem yH {mem:List (Nat×List AV)} {k:Nat} {cs:List AV}:dk mem (some k) (some cs)=cC mem k cs:=rfl
theorem dI {mem:List (Nat×List AV)} {o:Option (List AV)}:dk mem none o=mem:=rfl
theorem uw {mem:List (Nat×List AV)} {k:Nat}:dk mem (some k) none=mem:=rfl
theorem pQ {i:Nat}:bp i []=[]:=rfl
theorem nT {i:Nat} {v:AV} {r:List AV}:bp i (v::r)=(i,v)::bp (i+1) r:=rfl
theorem ux {cs:List AV}:aM (.agg cs)=cs:=rfl
theorem rV {cs:List PV}:aM (.pv (.agg cs))=cs.map .pv:=rfl
theorem rW {b:Bool}:aM (.pv (.bool b))=[.pv (.bool b)]:=rfl
theorem uy {k:IntKind} {n:Int}:aM (.pv (.int k n))=[.pv (.int k n)]:=rfl
theorem uz {s:List UInt8}:aM (.pv (.str s))=[.pv (.str s)]:=rfl
theorem uA {l:List PV}:aM (.pv (.aE l))=[.pv (.aE l)]:=rfl
theorem uB {l:List PV}:aM (.cI l)=[.cI l]:=rfl
theorem uC {l:List PV} {τ:Nat}:aM (.own l τ)=[.own l τ]:=rfl
theorem rX {a b c:Nat} {d:Bool}:aM (.aX a b c d)=[.aX a b c d]:=rfl
theorem uD {cs:List PV}:aL (.agg cs)=cs:=rfl
theorem uE {k:IntKind} {n:Int}:aL (.int k n)=[.int k n]:=rfl
theorem uF {s:List UInt8}:aL (.str s)=[.str s]:=rfl
theorem uG {l:List PV}:aL (.aE l)=[.aE l]:=rfl
theorem uH {b:Bool}:aH (.pv (.bool b))=true:=rfl
theorem yI {k:IntKind} {n:Int}:aH (.pv (.int k n))=true:=rfl
theorem yJ {s:List UInt8}:aH (.pv (.str s))=true:=rfl
theorem yK {l:List PV}:aH (.pv (.aE l))=true:=rfl
theorem yL {l:List PV}:aH (.cI l)=true:=rfl
theorem yM {l:List PV} {τ:Nat}:aH (.own l τ)=true:=rfl
theorem uI {a b c:Nat} {d:Bool}:aH (.aX a b c d)=true:=rfl
theorem A3 {v:AV}:cp v=aH v:=rfl
theorem uJ {a b:Nat}:bm (.aJ a b)=true:=rfl
theorem yN:bm.gC []=true:=rfl
theorem uK {v:AV} {r:List AV}:bm.gC (v::r)=(bm v && bm.gC r):=rfl
theorem yO {l:List PV} {τ:Nat}:bg (.own l τ)=true:=rfl
theorem A4 {p:PV}:bg (.pv p)=true:=rfl
theorem yP {l:List PV}:bg (.cI l)=true:=rfl
theorem uL {a b:Nat}:bg (.aJ a b)=true:=rfl
theorem uM {a b c:Nat} {d:Bool}:bg (.aX a b c d)=true:=rfl
theorem A5 {a:Nat} {c:List AV}:bg (.fn a c)=bm.gC c:=rfl
theorem yQ {c:List AV}:bg (.agg c)=dt c:=rfl
theorem uN:dt []=true:=rfl
theorem rY {v:AV} {r:List AV}:dt (v::r)=(gE v && dt r):=rfl
theorem yR {l:List PV} {τ:Nat}:gE (.own l τ)=true:=rfl
theorem A6 {p:PV}:gE (.pv p)=true:=rfl
theorem yS {l:List PV}:gE (.cI l)=true:=rfl
theorem uO {a b c:Nat} {d:Bool}:gE (.aX a b c d)=true:=rfl
theorem yT:bj.d5 []=true:=rfl
theorem uP {v:AV} {r:List AV}:bj.d5 (v::r)=(bj v && bj.d5 r):=rfl
theorem A7 {p:PV}:bj (.pv p)=true:=rfl
theorem yU {l:List PV}:bj (.cI l)=true:=rfl
theorem yV {l:List PV} {τ:Nat}:bj (.own l τ)=false:=rfl
theorem uQ {a b:Nat}:bj (.aJ a b)=true:=rfl
theorem uR {a b c:Nat} {d:Bool}:bj (.aX a b c d)=true:=rfl
theorem yW {n:Nat} {p:PV}:aw n (.pv p)=true:=rfl
theorem uS {n:Nat} {l:List PV}:aw n (.cI l)=true:=rfl
theorem uT {n:Nat} {l:List PV} {τ:Nat}:aw n (.own l τ)=true:=rfl
theorem rZ {n a b:Nat}:aw n (.aJ a b)=decide (a<n):=rfl
theorem r5 {n a b c:Nat} {d:Bool}:aw n (.aX a b c d)=decide (a<n):=rfl
theorem uU {n:Nat} {c:List AV}:aw n (.agg c)=aw.bG n c:=rfl
theorem r6 {n:Nat}:aw.bG n []=true:=rfl
theorem pR {n:Nat} {v:AV} {r:List AV}:aw.bG n (v::r)=(aw n v && aw.bG n r):=rfl
theorem uV {n τ:Nat} {l:List PV}:cm n (.own l τ)=.own l (τ+n):=rfl
theorem yX {n:Nat} {p:PV}:cm n (.pv p)=.pv p:=rfl
def pS (n:Nat) (p:List AV):Bool→AV
 | true=>.agg p
 | false=>.agg (p.map (eP n))
theorem uW {n:Nat} {p:List AV}:cm n (.agg p)=pS n p (bj.d5 p):=by
 simp only [cm]
 cases bj.d5 p<;>rfl
theorem pT {n:Nat} {p:List AV}:pS n p true=.agg p:=rfl
theorem nU {n:Nat} {p:List AV}:pS n p false=.agg (p.map (eP n)):=rfl
theorem uX {n τ:Nat} {l:List PV}:eP n (.own l τ)=.own l (τ+n):=rfl
theorem yY {n:Nat} {p:PV}:eP n (.pv p)=.pv p:=rfl
theorem r7 {n a b c:Nat} {d:Bool}:eP n (.aX a b c d)=.aX a b c d:=rfl
theorem r8 {n a b:Nat}:cm n (.aJ a b)=.aJ a b:=rfl
theorem r9 {n a b c:Nat} {d:Bool}:cm n (.aX a b c d)=.aX a b c d:=rfl
theorem uY {n:Nat}:fo n []=[]:=rfl
theorem r_ {n:Nat} {r:Sh}:fo n (none::r)=none::fo n r:=rfl
theorem sd {n:Nat} {cs:List AV} {r:Sh}:fo n (some cs::r)=some (cs.map (cm n))::fo n r:=rfl
theorem nV {b:Bool}:a5.zeroCell (.bool b)=.pv (.bool b):=rfl
theorem pU {k:IntKind} {n:Int}:a5.zeroCell (.int k n)=.pv (.int k n):=rfl
theorem pV {s:List UInt8}:a5.zeroCell (.str s)=.pv (.str s):=rfl
theorem pW:a5.zeroCell (.aE [])=.cI []:=rfl
theorem se {l:List PV} {τ:Nat}:bE (.own l τ)=[.own l τ]:=rfl
theorem uZ {p:PV}:bE (.pv p)=aM (.pv p):=rfl
theorem pX {a b c:Nat} {d:Bool}:bE (.aX a b c d)=[.aX a b c d]:=rfl
def wD (cs:List AV):Option (List PV)→List AV
 | some ps=>ps.map .pv
 | none=>cs
theorem sf {cs:List AV}:bE (.agg cs)=wD cs (cU [] cs):=by
 show (match eo [] (.agg cs) with | some p=>aM (.pv p) | none=>aM (.agg cs))=_
 have h:eo [] (.agg cs)=(cU [] cs).map .agg:=rfl
 unfold wD
 rw [h]
 cases cU [] cs<;>rfl
theorem u_ {cs:List AV} {ps:List PV}:wD cs (some ps)=ps.map .pv:=rfl
theorem va {cs:List AV}:wD cs none=cs:=rfl
theorem FM {o:Co}:AK.key (.v o)=none:=rfl
theorem yZ {k o s:Nat} {a:Bool}:AK.key (.bU k o s a)=some k:=rfl
theorem vb {k o s:Nat}:AK.key (.bA k o s)=some k:=rfl
theorem y1 {k:Nat} {z:List PV}:AK.key (.alloc k z)=some k:=rfl
theorem CT {k s:Nat}:AK.key (.box k s)=some k:=rfl
theorem y3 {s:Nat} {a:Bool}:AK.key (.dJ s a)=none:=rfl
theorem vd {s:Nat}:AK.key (.ev s)=none:=rfl
theorem A8 {s:Nat}:AK.key (.kj s)=none:=rfl
theorem ve {s:List PV}:AK.key (.gl s)=none:=rfl
theorem y4 {s b:Nat} {a:Bool} {z:List PV}:AK.key (.hU s b a z)=none:=rfl
theorem sg {s b:Nat} {ag:Bool}:AK.key (.cR s b ag)=none:=rfl
theorem vf {s b:Nat}:AK.key (.append s b)=none:=rfl
theorem y5 {g:Nat}:AK.key (.aR g)=none:=rfl
theorem vg {g:Nat}:AK.key (.ew g)=none:=rfl
theorem y6 {g:Nat} {o:List Nat}:AK.key (.bV g o)=none:=rfl
theorem y7 {sz bytes:Nat}:(AK.clone sz bytes).key=none:=rfl
theorem y8:AK.key .fl=none:=rfl
theorem bind_none {f:Nat→Option (List AV)}:(none:Option Nat).bind f=none:=rfl
theorem bind_some {f:Nat→Option (List AV)} {n:Nat}:(some n).bind f=f n:=rfl
theorem vh {sz off:Nat} {cs:List AV}:br true sz cs off=if off+sz≤cs.length then some (.agg ((cs.drop off).take sz)) else none:=rfl
theorem sj {off:Nat} {cs:List AV}:br false 1 cs off=if off+1≤cs.length then cs[off]? else none:=rfl
theorem sk {sz:Nat} {cs:List PV}:bN true sz cs=if sz≤cs.length then some (.pv (.agg (cs.take sz))) else none:=rfl
theorem pY {c:PV} {cs:List PV}:bN false 1 (c::cs)=some (.pv c):=by simp [bN]
theorem dC {cs vs:List AV} {off:Nat}:aO cs off vs=cs.take off++vs++cs.drop (off+vs.length):=rfl
theorem EK {x:AV}:a5 .mv [x]=some x:=rfl
theorem A9 {c:Bool} {a b:AV}:a5 .pick [.pv (.bool c),a,b]=if c=true then some a else some b:=by cases c<;>rfl
theorem CU {i:Nat} {vs:List AV}:a5 (.ext i) [.kP vs]=vs[i]?:=rfl
theorem vi {off d o:Nat}:a5 (.eI off) [.aN d o]=some (.aN d (o+off)):=rfl
theorem vj {off d o:Nat}:a5 (.eI off) [.aJ d o]=some (.aJ d (o+off)):=rfl
theorem vk {off:Nat} {cs:List PV}:a5 (.eI off) [.ek cs]=some (.ek (cs.drop off)):=rfl
def vl (sz:Nat):Option PV→Option AV
 | some el=>if (aL el).length=sz then some (.ek (aL el)) else none
 | none=>none
theorem sn {sz:Nat} {el:PV}:vl sz (some el)=if (aL el).length=sz then some (.ek (aL el)) else none:=rfl
theorem y9 {sz:Nat} {l:List PV} {k:IntKind} {i:Int}:a5 (.fh sz) [.pv (.aE l),.pv (.int k i)]=if i<0 then none else vl sz l[i.toNat]?:=by
 show (if i<0 then none else _)=_
 split
 · rfl
 · show (match l[i.toNat]? with | some el=>_ | none=>_)=_
   cases l[i.toNat]?<;>rfl
theorem vm {sz:Nat} {l:List PV} {k:IntKind} {i:Int}:a5 (.fh sz) [.cI l,.pv (.int k i)]=if i<0 then none else vl sz l[i.toNat]?:=by
 show (if i<0 then none else _)=_
 split
 · rfl
 · show (match l[i.toNat]? with | some el=>_ | none=>_)=_
   cases l[i.toNat]?<;>rfl
theorem vn {sz b sz' n:Nat} {ag:Bool} {k:IntKind} {i:Int}:a5 (.fh sz) [.aX b sz' n ag,.pv (.int k i)]=if i<0 then none else if sz=sz'∧i.toNat<n then some (.aJ b (i.toNat*sz)) else none:=rfl
def DU:Option UInt8→Option AV
 | some b=>some (.pv (.int .u8 b.toNat))
 | none=>none
theorem vp {b:UInt8}:DU (some b)=some (.pv (.int .u8 b.toNat)):=rfl
theorem y_ {s:List UInt8} {k:IntKind} {i:Int}:a5 .index [.pv (.str s),.pv (.int k i)]=if i<0 then none else DU s[i.toNat]?:=by
 show (if i<0 then none else _)=_
 cases s[i.toNat]?<;>rfl
def FN:Option (List AV)→Option AV
 | some cs=>some (.agg cs)
 | none=>none
theorem za {cs:List AV}:FN (some cs)=some (.agg cs):=rfl
theorem zc {zero:List PV} {places:List (Nat×Nat)}:a5 (.build zero places) vals=FN (hZ (zero.map a5.zeroCell) places vals):=by
 show (hZ _ _ _).map _=_
 cases hZ (zero.map a5.zeroCell) places vals<;>rfl
theorem zd {cs:List AV}:hZ cs [] []=some cs:=rfl
theorem vq {cs:List AV} {off sz:Nat} {ps:List (Nat×Nat)} {v:AV} {vs:List AV}:hZ cs ((off,sz)::ps) (v::vs) =
   if (aM v).length=sz∧off+sz≤cs.length∧(aM v).all aH=true then hZ (aO cs off (aM v)) ps vs else none:=rfl
def FO (sz:Nat):Option (List PV)→Option AV
 | some els=>if els.all (fun e=>(aL e).length == sz) then some (.cI els) else none
 | none=>none
theorem ze {sz:Nat} {els:List PV}:FO sz (some els)=if els.all (fun e=>(aL e).length == sz) then some (.cI els) else none:=rfl
theorem vr {sz:Nat}:a5 (.dM sz) vals=FO sz (bY [] vals):=by
 show (bY [] vals).bind _=_
 cases bY [] vals<;>rfl
theorem zg {sz:Nat} {ag:Bool} {cs:List PV}:a5 (.fX sz ag) [.ek cs]=bN ag sz cs:=rfl
theorem CV {l:List PV}:a5 .len [.pv (.aE l)]=some (.pv (.int .i64 l.length)):=rfl
theorem A_ {l:List PV}:a5 .len [.cI l]=some (.pv (.int .i64 l.length)):=rfl
theorem A' {l:List PV} {τ:Nat}:a5 .len [.own l τ]=some (.pv (.int .i64 l.length)):=rfl
theorem Ba {a b n:Nat} {d:Bool}:a5 .len [.aX a b n d]=some (.pv (.int .i64 n)):=rfl
theorem Bb {s:List UInt8}:a5 .s8 [.pv (.str s)]=some (.pv (.int .i64 s.length)):=rfl
theorem Bc {a b:Nat}:a5 .ki [.aJ a b]=some (.aJ a b):=rfl
theorem EL {k k':IntKind} {x y:Int}:a5 .mn [.pv (.int k x),.pv (.int k' y)]=if k=k' then some (.pv (.int k (if y<x then y else x))) else none:=rfl
theorem EM {k k':IntKind} {x y:Int}:a5 .mx [.pv (.int k x),.pv (.int k' y)]=if k=k' then some (.pv (.int k (if y > x then y else x))) else none:=rfl
theorem Bd {g:Nat}:a5 (.Cp g) vals=some (.fn g vals):=by cases vals<;>rfl
theorem Be {k k':IntKind} {n:Int}:a5 (.conv k) [.pv (.int k' n)]=some (.pv (.int k (k.wrap n))):=rfl
theorem CW {b:Bool}:a5 (.un .not) [.pv (.bool b)]=some (.pv (.bool !b)):=rfl
theorem CX {a b:Bool}:a5 (.beq false) [.pv (.bool a),.pv (.bool b)]=some (.pv (.bool (a == b))):=rfl
theorem CY {a b:Bool}:a5 (.beq true) [.pv (.bool a),.pv (.bool b)]=some (.pv (.bool !(a == b))):=rfl
theorem CZ {k:IntKind} {a b:Int}:a5 (.bin .add) [.pv (.int k a),.pv (.int k b)]=some (.pv (.int k (k.wrap (a+b)))):=by simp [a5,bW]
theorem C0 {k:IntKind} {a b:Int}:a5 (.bin .sub) [.pv (.int k a),.pv (.int k b)]=some (.pv (.int k (k.wrap (a-b)))):=by simp [a5,bW]
theorem C1 {k:IntKind} {a b:Int}:a5 (.bin .rem) [.pv (.int k a),.pv (.int k b)]=if b=0 then none else some (.pv (.int k (a.tmod b))):=by simp [a5,bW]
theorem C2 {k:IntKind} {a b:Int}:a5 (.bin .eql) [.pv (.int k a),.pv (.int k b)]=some (.pv (.bool (a == b))):=by simp [a5,bW]
theorem C3 {k:IntKind} {a b:Int}:a5 (.bin .neq) [.pv (.int k a),.pv (.int k b)]=some (.pv (.bool (a != b))):=by simp [a5,bW]
theorem C4 {k:IntKind} {a b:Int}:a5 (.bin .lss) [.pv (.int k a),.pv (.int k b)]=some (.pv (.bool (decide (a<b)))):=by simp [a5,bW]
theorem C5 {k:IntKind} {a b:Int}:a5 (.bin .leq) [.pv (.int k a),.pv (.int k b)]=some (.pv (.bool (decide (a≤b)))):=by simp [a5,bW]
theorem C6 {k:IntKind} {a b:Int}:a5 (.bin .gtr) [.pv (.int k a),.pv (.int k b)]=some (.pv (.bool (decide (a > b)))):=by simp [a5,bW]
theorem C7 {k:IntKind} {a b:Int}:a5 (.bin .geq) [.pv (.int k a),.pv (.int k b)]=some (.pv (.bool (decide (a≥b)))):=by simp [a5,bW]
theorem C8 {k:IntKind} {a b:Int}:a5 (.bin .and) [.pv (.int k a),.pv (.int k b)]=some (.pv (.int k (k.wrap (BitVec.ofInt k.bits a &&& BitVec.ofInt k.bits b).toNat))):=by simp [a5,bW]
theorem C9 {k k':IntKind} {a b:Int}:a5 (.bin .shr) [.pv (.int k a),.pv (.int k' b)]=if b<0 then none else some (.pv (.int k (a.fdiv (2 ^ (min b.toNat k.bits))))):=by simp [a5,bW]
theorem cT {a b:List UInt8}:a5 (.bin .add) [.pv (.str a),.pv (.str b)]=if a.length+b.length≤9223372036854775807 then some (.pv (.str (a++b))) else none:=rfl
theorem Bf {a b:List UInt8}:a5 (.bin .eql) [.pv (.str a),.pv (.str b)]=some (.pv (.bool (a == b))):=rfl
theorem Bg {a b:List UInt8}:a5 (.bin .neq) [.pv (.str a),.pv (.str b)]=some (.pv (.bool (!(a == b)))):=rfl
theorem Bh {a b:List UInt8}:a5 (.bin .lss) [.pv (.str a),.pv (.str b)]=some (.pv (.bool (bW.d8 a b))):=rfl
theorem Bi {a b:List UInt8}:a5 (.bin .gtr) [.pv (.str a),.pv (.str b)]=some (.pv (.bool (!(bW.d8 a b || a == b)))):=rfl
theorem zh {sz:Nat} {lo hi mx:Bool} {x:AV} {rest:List AV}:a5 (.slice false sz lo hi mx) (x::rest)=dX false sz lo hi mx (x::rest):=rfl
theorem vt {sz:Nat} {lo hi mx:Bool} {x:AV} {rest:List AV}:a5 (.slice true sz lo hi mx) (x::rest)=dX true sz lo hi mx (x::rest):=rfl
def jo (aF ks:Bool) (sh0 sh:Sh) (aa:aq):Option (List AV)→Option (List AV×Sh×aq)
 | some vs=>if (bB aF ks sh vs).all bg=true then
     some ((bQ aa (bB aF ks sh vs) (if (bB aF ks sh vs).all (aw sh0.length)=true then (de aF ks sh vs).take sh0.length else de aF ks sh vs)).1,
       (bQ aa (bB aF ks sh vs) (if (bB aF ks sh vs).all (aw sh0.length)=true then (de aF ks sh vs).take sh0.length else de aF ks sh vs)).2.1,
       (bQ aa (bB aF ks sh vs) (if (bB aF ks sh vs).all (aw sh0.length)=true then (de aF ks sh vs).take sh0.length else de aF ks sh vs)).2.2.2) else none
 | none=>none
theorem sq {aF ks:Bool} {sh0:Sh} {vs:List AV}:jo aF ks sh0 sh aa (some vs)=if (bB aF ks sh vs).all bg=true then
     some ((bQ aa (bB aF ks sh vs) (if (bB aF ks sh vs).all (aw sh0.length)=true then (de aF ks sh vs).take sh0.length else de aF ks sh vs)).1,
       (bQ aa (bB aF ks sh vs) (if (bB aF ks sh vs).all (aw sh0.length)=true then (de aF ks sh vs).take sh0.length else de aF ks sh vs)).2.1,
       (bQ aa (bB aF ks sh vs) (if (bB aF ks sh vs).all (aw sh0.length)=true then (de aF ks sh vs).take sh0.length else de aF ks sh vs)).2.2.2) else none:=rfl
def fin (aF ks:Bool) (rs:List kl) (sh0:Sh):Option (aP×St)→Option (List AV×Sh×aq)
 | some (.ret,st)=>jo aF ks sh0 st.sh st.aa (cN st rs)
 | some (.normal,st)=>jo aF ks sh0 st.sh st.aa (cN st rs)
 | _=>none
theorem C_ {aF ks:Bool} {rs:List kl} {sh0:Sh} {st:St}:fin aF ks rs sh0 (some (.ret,st))=jo aF ks sh0 st.sh st.aa (cN st rs):=rfl
theorem vu {aF ks:Bool} {rs:List kl} {sh0:Sh} {st:St}:fin aF ks rs sh0 (some (.normal,st))=jo aF ks sh0 st.sh st.aa (cN st rs):=rfl
theorem C' {aF ks:Bool} {rs:List kl} {sh0:Sh} {c:Prop} [Decidable c] {x y:Option (aP×St)}:fin aF ks rs sh0 (if c then x else y)=if c then fin aF ks rs sh0 x else fin aF ks rs sh0 y:=by split<;>rfl
theorem oJ {aF:Bool} {af:aB} {sh0:Sh} {r:Option (aP×St)}:finish aF af sh0 r=fin aF af.ks af.results sh0 r:=by
 cases r with
 | none=>rfl
 | some q=>
   obtain ⟨e,st⟩:=q
   cases e with
   | ret=>simp only [finish,fin];cases cN st af.results<;>simp [jo]
   | normal=>simp only [finish,fin];cases cN st af.results<;>simp [jo]
   | exit id=>simp [finish,fin]
theorem vv {st:St}:cN st []=some []:=rfl
theorem sr {st:St} {r:kl} {rs:List kl}:cN st (r::rs)=oI (kR st r) (cN st rs):=by
 simp only [cN]
 cases kR st r<;>cases cN st rs<;>rfl
theorem Da {st:St} {n:Nat}:kR st (.t n)=look st.env n:=rfl
def jX (key sz:Nat) (ag:Bool) (mem:List (Nat×List AV)) (sh:Sh):Option AV→Option AV
 | some (.aN d 0)=>pZ key d sz ag (look mem key)
 | some (.aJ s 0)=>pM ag sz 0 sh[s]?
 | _=>none
where pZ (key d sz:Nat) (ag:Bool):Option (List AV)→Option AV
 | some cs=>if d=key then br ag sz cs 0 else none
 | none=>none
theorem Db {st:St} {key sz:Nat} {ag:Bool}:kR st (.c key sz ag)=jX key sz ag st.mem st.sh (look st.env key):=by
 simp only [kR]
 unfold jX
 split
 · rename_i h;rw [h];rfl
 · rename_i h;rw [h];rfl
 · rename_i h1 h2
   split
   · rename_i d e;exact absurd e (h1 d)
   · rename_i s e;exact absurd e (h2 s)
   · rfl
theorem p6 {key sz d:Nat} {ag:Bool} {mem:List (Nat×List AV)}:jX key sz ag mem sh (some (.aN d 0))=jX.pZ key d sz ag (look mem key):=rfl
theorem p7 {key sz d:Nat} {ag:Bool} {cs:List AV}:jX.pZ key d sz ag (some cs)=if d=key then br ag sz cs 0 else none:=rfl
theorem p8 {vs:List AV} {ks:Bool}:bB false ks sh vs=vs.map (mf sh):=rfl
theorem ss {vs:List AV}:bB true false sh vs=vs.map (qt sh):=rfl
theorem zi {vs:List AV}:bB true true sh vs=vs:=rfl
theorem su {vs:List AV} {ks:Bool}:de false ks sh vs=ck sh vs:=rfl
theorem vw {vs:List AV}:de true false sh vs=ck sh vs:=rfl
theorem Bj {vs:List AV}:de true true sh vs=sh:=rfl
def FP (v:AV):Option PV→AV
 | some p=>.pv p
 | none=>v
theorem zj {v:AV} {p:PV}:FP v (some p)=.pv p:=rfl
theorem Bk {v:AV}:mf sh v=FP v (eo sh v):=rfl
theorem Bl {l:List PV} {τ:Nat}:qt sh (.own l τ)=.own l τ:=rfl
theorem Bm {cs:List AV}:qt sh (.agg cs)=.agg (cs.map (mg sh)):=rfl
theorem Dc {p:PV}:qt sh (.pv p)=.pv p:=rfl
theorem zk {a b:Nat}:qt sh (.aJ a b)=.aJ a b:=rfl
theorem Bn {l:List PV}:mg sh (.cI l)=.cI l:=rfl
theorem Bo {l:List PV} {τ:Nat}:mg sh (.own l τ)=.pv (.aE l):=rfl
theorem zm {b:Bool}:mg sh (.pv (.bool b))=.pv (.bool b):=rfl
theorem Bp {k:IntKind} {n:Int}:mg sh (.pv (.int k n))=.pv (.int k n):=rfl
theorem Bq {s:List UInt8}:mg sh (.pv (.str s))=.pv (.str s):=rfl
theorem Bs {l:List PV}:mg sh (.pv (.aE l))=.pv (.aE l):=rfl
theorem vz {vs:List AV}:ck sh vs=kill sh (vs.flatMap dj):=rfl
theorem Bt:kill sh []=sh:=rfl
theorem zn {b:Nat} {l:List Nat}:kill sh (b::l)=kill (sh.set b none) l:=rfl
theorem zo {a b c:Nat} {d:Bool}:dj (.aX a b c d)=[a]:=rfl
theorem wE {p:PV}:dj (.pv p)=[]:=rfl
theorem Bu {l:List PV} {τ:Nat}:dj (.own l τ)=[]:=rfl
theorem Bv {l:List PV}:dj (.cI l)=[]:=rfl
theorem zp {a b:Nat}:dj (.aJ a b)=[]:=rfl
def oK:AV→List Nat
 | .aX b _ _ _=>[b]
 | _=>[]
theorem Bw {cs:List AV}:dj (.agg cs)=cs.flatMap oK:=by
 show cs.flatMap _=cs.flatMap oK
 congr 1
theorem vA {a b c:Nat} {d:Bool}:oK (.aX a b c d)=[a]:=rfl
theorem Bx {p:PV}:oK (.pv p)=[]:=rfl
theorem zq {l:List PV} {τ:Nat}:oK (.own l τ)=[]:=rfl
theorem zs {l:List PV}:oK (.cI l)=[]:=rfl
theorem vB:dQ []=some []:=rfl
theorem sv {p:PV} {r:List AV}:dQ (.pv p::r)=oI (some p) (dQ r):=by
 simp only [dQ]
 cases dQ r<;>rfl
def iU:Option (List AV×Sh×aq)→Option (List PV)
 | some (rs,_,_)=>dQ rs
 | none=>none
theorem p9 {rs:List AV} {t:aq}:iU (some (rs,sh,t))=dQ rs:=rfl
theorem sw {c:Prop} [Decidable c] {x y:Option (List AV×Sh×aq)}:iU (if c then x else y)=if c then iU x else iU y:=by split<;>rfl
theorem aA {g:Nat} {af:aB} {x:List PV} (hg:AP g=some af) (h1:x.length=af.nparams) (h2:af.nparams≤af.ntmps) (hp:af.km=none:=by rfl) :
   (aD AP).p g x=iU (fin false af.ks af.results [] (cl AP af.body ⟨bp 0 (x.map .pv),[],[],[]⟩)):=by
 rw [DR hg hp h1 (by omega)]
 unfold i6 iU
 rw [oJ]
 cases fin false af.ks af.results [] (cl AP af.body ⟨bp 0 (x.map .pv),[],[],[]⟩)<;>rfl
theorem az {g:Nat} {af:aB} {x:List AV} {ts:aq} (hg:AP g=some af) (h2:x.length≤af.ntmps) :
   (aD AP).i g x sh ts=fin true af.ks af.results sh (cl AP af.body ⟨bp 0 x,[],sh,ts⟩):=by
 rw [DS hg h2,←oJ]
 rfl
end
attribute [simp] xS fC tM xF rz xG rA tG pH xH tH xI pI xJ tI xK xL tJ pK tK Aj CG FJ CH Ao xO xQ rC tL xR Ez eB eL fy iy rD lD rE jW eM iN gg gT xW gh nS xX xY AA yg yh tT rG yi jm tU rH yj AD AE tV tX rK AI ym yn tY AJ tZ rL t4 t5 rM CM CN AL t6 rN yo t7 CO EI CP CQ yp CR t8 rO rP pO AM yq AN AO AR AS AT yr mW yt mX mY yu t9 yv t_ yw yx rQ yy ud ue uf AW CS rT ui lS kE uj uk lT kF um yA AY yB ur uu A0 look_nil yD A1 yE yF yG yH dI uw pQ nT ux rV rW uy uz uA uB uC rX uD uE uF uG uH yI yJ yK yL yM uI A3 uJ yN uK yO A4 yP uL uM A5 yQ yT uP A7 yU yV uQ uR yW uS uT rZ r5 uU r6 pR uV yX uW r8 r9 uY r_ sd nV pU pV pW se uZ pX sf u_ va FM yZ vb y1 CT y3 vd A8 ve y4 vf y5 vg y6 y8 tW AF rJ EG AG yk AH yl b2sO_some bind_none bind_some vh sj sk pY dC EK A9 CU vi vj vk sn y9 vm vn vp y_ za zc zd vq ze vr zg CV A_ A' Ba Bb Bc EL EM Bd Be CW CX CY CZ C0 C1 C2 C3 C4 C5 C6 C7 C8 C9 cT Bf Bg Bh Bi zh vt sq C_ vu C' vv sr Da Db p6 p7 p8 ss zj Bk Bl Bm Dc zk Bn Bo zm Bp Bq Bs vz Bt zn zo wE Bu Bv zp Bw vA Bx zq zs vB sv p9 sw ug uh uv CI je xT xU y7 rR pP ub rS yz AU uc uq rU AZ yC uN rY yR A6 yS uO pT nU uX yY r7 zi su vw Bj xZ tN gV rF Au Av x7 CJ Ay x9 x_ ya yd x8 tP tQ sg ye gU yf tR tS Ey CD CE Eu Ag List.getElem?_cons_zero
theorem aK {n:Int} (h1:-9223372036854775808≤n) (h2:n≤9223372036854775807):IntKind.i64.wrap n=n:=by
 simp [IntKind.wrap,IntKind.bits,IntKind.signed]
 omega
end Go.Ab.Ev
namespace Go.Ab
open Ev
structure Gr (P:Program) (ns:Names) (f sz:Nat) (ag:Bool) where
 fn:Func
 A:gJ
 o0:Array Oper
 o1:Array Oper
 o2:Array Oper
 m0:Oper
 GK:List Oper
 y:Oper
 nt:Oper
 r0:Nat
 r1:Nat
 r2:Nat
 r3:Nat
 b0:Nat
 b1:Nat
 types:Array TypeId
 tb:TypeId
 hf:P.funcs[f]?=some fn
 wF:fn.body=some (.seq (.region r0 o0 false) (.block b0 (.loop (.seq (.seq (.region r1 o1 false) (.cond (.tmp 8) .skip (.exit b0)))
   (.seq (.block b1 (.seq (.region r3 (m0::GK++[y,nt]).toArray false) (.cond (.tmp 18) .ret .skip))) (.region r2 o2 false))))))
 e6:fn.results=#[]
 hN:fn.ntmps=19
 c0:bI (dx P ns A 19 o0) o0.toList=some [⟨some 4,none,[.t 1],.v (.fX 1 false)⟩,⟨some 5,none,[.t 4],.v .len⟩,⟨some 6,none,[.t 5,.c (.pv (.int .i64 1))],.v (.bin .sub)⟩,⟨some 3,none,[.t 6],.v .mv⟩]
 c1:bI (dx P ns A 19 o1) o1.toList=some [⟨some 7,none,[.t 3],.v .mv⟩,⟨some 8,none,[.t 7,.c (.pv (.int .i64 0))],.v (.bin .geq)⟩]
 c2:bI (dx P ns A 19 o2) o2.toList=some [⟨some 9,none,[.t 3],.v .mv⟩,⟨some 10,none,[.t 9,.c (.pv (.int .i64 1))],.v (.bin .sub)⟩,⟨some 3,none,[.t 10],.v .mv⟩]
 h0:m0.op=.move (.tmp 0)∧m0.dst=some 11∧m0.guard=none
 c3:bI (dx P ns A 19 (m0::GK++[y,nt]).toArray) GK=some [⟨some 12,none,[.t 3],.v .mv⟩,⟨some 13,none,[.t 1],.v (.fX 1 false)⟩,⟨some 14,none,[.t 3],.v .mv⟩,⟨some 15,none,[.t 13,.t 14],.v (.fh sz)⟩,⟨some 16,none,[.t 15],.v (.fX sz ag)⟩]
 hy:y.op=.call { callee:=.value (.tmp 11),args:=#[.tmp 12,.tmp 16],argTypes:=types }∧y.dst=some 17∧y.guard=none
 hn:nt.op=.unOp .not tb (.tmp 17)∧nt.dst=some 18∧nt.guard=none
section
variable {P:Program} {ns:Names}
theorem jq {n0:Nat} {ro:Option Nat} {n:Nat} (hB:eT P ns) {orc:dr} (horc:fE P ns orc) {A:gJ} {N:Nat} {ops:Array Oper} {Q:Exit→Act→World→Prop} {rest:List Oper}:∀{l:List Oper} {as:List cB} {st st':St} {G:Gh} {a:Act} {w:World},
   bI (dx P ns A N ops) l=some as→eG (num ns) n0 N G st a w→aY orc as st=some st' →
   (∀G' a' w',eG (num ns) n0 N G' st' a' w'→bf G w G' w'→a'.defers=a.defers→(∀t,(∀ao∈as,ao.dst≠some t)→a'.tmps[t]?=a.tmps[t]?)→wpListIn (nP ro) n P ops Q rest a' w')→wpListIn (nP ro) n P ops Q (l++rest) a w
 | [],as,st,st',G,a,w,hc,hs,hev,hq=>by
   simp [bI] at hc;subst hc
   simp [aY] at hev;subst hev
   exact hq G a w hs (bf.refl G w) rfl (fun _ _=>rfl)
 | o::l,as,st,st',G,a,w,hc,hs,hev,hq=>by
   simp only [bI] at hc
   split at hc
   · rename_i ao aos h1 h2
     simp at hc;subst hc
     simp only [aY] at hev
     split at hev
     · simp at hev
     · rename_i st1 hst1
       rw [List.cons_append]
       unfold wpListIn
       have hd:ao.dst=o.dst:=by obtain ⟨_,_,_,h,_⟩:=hG h1;exact h
       have hput:∀(a:Act) (v:Value) t,ao.dst≠some t→(a.put o.dst v).tmps[t]?=a.tmps[t]?:=by
         intro a v t ht
         rw [hd] at ht
         cases ho:o.dst with
         | none=>rfl
         | some d=>
           rw [ho] at ht
           simp only [Act.put]
           rw [Array.getElem?_setIfInBounds_ne]
           intro e;exact ht (by rw [e])
       exact pG hB horc h1 hs hst1 (fun G' v w' hs' he=>jq hB horc h2 hs' hev (fun G'' a'' w'' hs'' he' hdf hk=>hq G'' a'' w'' hs'' (he.trans he') (hdf.trans (put_defers _ _ _)) (fun t ht=>by
         rw [hk t (fun ao' h=>ht ao' (by simp [h]))]
         exact hput a v t (ht ao (by simp)))))
   · simp at hc
theorem oL {F:Fence} {n:Nat} {ops:Array Oper} {Q:Exit→Act→World→Prop} {rest:List Oper} {o:Oper} {x:Operand} {a:Act} {w:World} (hF:∀f,F.fn f) (ho:o.op=.move x) (hg:o.guard=none)
   (h:wpListIn F n P ops Q rest (a.put o.dst (a.eval x)) w):wpListIn F n P ops Q (o::rest) a w:=by
 unfold wpListIn
 have hw:Region.wanted o (yielded ops a.tmps)=true:=by simp [Region.wanted,hg]
 rw [if_pos hw]
 refine ⟨fun _ _=>hF _,?_⟩
 rw [Oper.semAt_eq _ _ _ (by intro c e;rw [ho] at e;cases e)]
 have hr:(execOp a.eval o).run P w=.ok (.value (a.eval x)) w:=by
   obtain ⟨dst,op,type,pos,after,guard⟩:=o
   simp only at ho;subst ho
   simp [execOp]
 rw [hr]
 exact h
def kG:aP→Exit
 | .normal=>.normal
 | .ret=>.ret
 | .exit id=>.exit id
end
end Go.Ab
namespace Go.Ab
open Ev
structure mZ (P:Program) (ns:Names) (f sz bytes:Nat) where
 fn:Func
 A:gJ
 t:TypeId
 el:TypeId
 ty:TypeId
 o0:Oper
 m:Oper
 e:Oper
 o2:Oper
 b:Oper
 m3:Oper
 ap:Oper
 A2:gJ
 ag:Bool
 fi:Oper
 r0:Nat
 r1:Nat
 r2:Nat
 r3:Nat
 hf:P.funcs[f]?=some fn
 wF:fn.body=some (.seq (.region r0 #[o0] false) (.seq (.seq (.region r1 #[m,e] false) (.cond (.tmp 4) (.seq (.region r2 #[o2] false) .ret) .skip)) (.seq (.region r3 #[b,m3,ap,fi] false) .ret))):=by kernel_rfl
 e6:fn.results=#[.tmp 2]:=by kernel_rfl
 hN:fn.ntmps=8:=by kernel_rfl
 h0:o0.op=.assign (.const (.slice none 0 0))∧o0.dst=some 2∧o0.guard=none:=by refine ⟨?_,?_,?_⟩<;>kernel_rfl
 h1:m.op=.move (.tmp 0)∧m.dst=some 3∧m.guard=none:=by refine ⟨?_,?_,?_⟩<;>kernel_rfl
 h2:e.op=.binOp .eql t (.tmp 3) (.const (.slice none 0 0)) ty∧e.dst=some 4∧e.guard=none:=by refine ⟨?_,?_,?_⟩<;>kernel_rfl
 hu:P.underlying t=some (.slice el):=by kernel_rfl
 h3:o2.op=.assign (.const (.slice none 0 0))∧o2.dst=some 2∧o2.guard=none:=by refine ⟨?_,?_,?_⟩<;>kernel_rfl
 h4:a9 P ns A b.dst b.op=some (.v (.dM sz),[])∧b.dst=some 5∧b.guard=none:=by refine ⟨?_,?_,?_⟩<;>kernel_rfl
 h5:m3.op=.move (.tmp 0)∧m3.dst=some 6∧m3.guard=none:=by refine ⟨?_,?_,?_⟩<;>kernel_rfl
 h6:a9 P ns A ap.dst ap.op=some (.append sz bytes,[.tmp 5,.tmp 6])∧ap.dst=some 7∧ap.guard=none:=by refine ⟨?_,?_,?_⟩<;>kernel_rfl
 h8:a9 P ns A2 ap.dst ap.op=some (.cR sz bytes ag,[.tmp 5,.tmp 6]):=by kernel_rfl
 h7:fi.op=.assign (.tmp 7)∧fi.dst=some 2∧fi.guard=none:=by refine ⟨?_,?_,?_⟩<;>kernel_rfl
section
variable {P:Program} {ns:Names}
theorem gj {F:Fence} {n:Nat} {ops:Array Oper} {Q:Exit→Act→World→Prop} {rest:List Oper} {o:Oper} {x:Operand} {a:Act} {w:World} (hF:∀f,F.fn f) (ho:o.op=.assign x) (hg:o.guard=none)
   (h:wpListIn F n P ops Q rest (a.put o.dst (a.eval x)) w):wpListIn F n P ops Q (o::rest) a w:=by
 unfold wpListIn
 have hw:Region.wanted o (yielded ops a.tmps)=true:=by simp [Region.wanted,hg]
 rw [if_pos hw]
 refine ⟨fun _ _=>hF _,?_⟩
 rw [Oper.semAt_eq _ _ _ (by intro c e;rw [ho] at e;cases e)]
 have hr:(execOp a.eval o).run P w=.ok (.value (a.eval x)) w:=by
   obtain ⟨dst,op,type,pos,after,guard⟩:=o
   simp only at ho;subst ho
   simp [execOp]
 rw [hr]
 exact h
theorem jr {G:Gh} {A:gJ} {n:Nat} {ops:Array Oper} {Q:Exit→Act→World→Prop} {rest:List Oper} {o:Oper} {k:AK} {args:List Operand} {a:Act} {w:World} (hg:o.guard=none) {orc:dr} (hc:a9 P ns A o.dst o.op=some (k,args)) (hk:k.calls=false)
   {vals:List AV} {out:Out} {mem:List (Nat×List AV)} {sh:Sh} {aa:aq} (hkey:k.key=none) (hr:ae (num ns) G vals (args.map a.eval)) (hi:Inv (num ns) G w mem sh aa) (h:exec orc k vals none sh aa=some out)
   (hn:∀v w' G',ah (num ns) G' out.val v→Inv (num ns) G' w' mem out.sh out.aa→G.le G'→bf G w G' w'→wpListIn Fence.wide n P ops Q rest (a.put o.dst v) w'):wpListIn Fence.wide n P ops Q (o::rest) a w:=by
 unfold wpListIn
 have hw:Region.wanted o (yielded ops a.tmps)=true:=by simp [Region.wanted,hg]
 rw [if_pos hw]
 have hdef:∀c,o.op≠.defer c:=by intro c e;rw [e] at hc;simp [a9] at hc
 refine wt (ro:=none) hdef ?_
 obtain ⟨nx,v,w',G',g1,g2,g3,g4,g5,g6⟩:=ll (orc:=orc) (mem:=mem) hc hk hr hi (by rw [hkey];exact h)
 have g4':Inv (num ns) G' w' mem out.sh out.aa:=by rw [hkey] at g4;exact g4
 unfold Oper.wp
 rw [g1]
 rcases g2 with rfl | ⟨rfl,rfl⟩
 · exact hn v w' G' g3 g4' g5 g6
 · exact hn undef w' G' g3 g4' g5 g6
theorem vD {F:Fence} {n:Nat} {ops:Array Oper} {Q:Exit→Act→World→Prop} {rest:List Oper} {o:Oper} {t el ty:TypeId} {a:Act} {w:World} {base:Option Addr} {len cap:Nat} (hF:∀f,F.fn f)
   (ho:o.op=.binOp .eql t (.tmp 3) (.const (.slice none 0 0)) ty) (hg:o.guard=none) (hu:P.underlying t=some (.slice el)) (h3:a.tmps[3]?=some (.slice base len cap))
   (h:wpListIn F n P ops Q rest (a.put o.dst (.bool base.isNone)) w):wpListIn F n P ops Q (o::rest) a w:=by
 unfold wpListIn
 have hw:Region.wanted o (yielded ops a.tmps)=true:=by simp [Region.wanted,hg]
 rw [if_pos hw]
 refine ⟨fun _ _=>hF _,?_⟩
 rw [Oper.semAt_eq _ _ _ (by intro c e;rw [ho] at e;cases e)]
 have e3:a.eval (.tmp 3)=.slice base len cap:=by simp [Act.eval,h3]
 have ec:a.eval (.const (.slice none 0 0))=.slice none 0 0:=rfl
 have he:(Op.equal t (.slice base len cap) (.slice none 0 0)).run P w=.ok base.isNone w:=by
   have h:∀d:Nat,(Op.equalIn (d+1) t (.slice base len cap) (.slice none 0 0)).run P w=.ok base.isNone w:=fun d=>by
     cases base<;>simp [Op.equalIn,run_underlying hu]
   exact h 9999
 have hr:(execOp a.eval o).run P w=.ok (.value (.bool base.isNone)) w:=by
   obtain ⟨dst,op,type,pos,after,guard⟩:=o
   simp only at ho;subst ho
   simp only [execOp,e3,ec]
   simp [eqGuard,binOp,he]
 rw [hr]
 exact h
theorem sA {f sz bytes:Nat} (D:mZ P ns f sz bytes):z8 P ns f sz bytes:=by
 intro oc G w mem sh sh' aa toks' x y v hi hx hap
 refine callsIn_wide (n:=0).1 ?_
 refine callsIn_of_wp D.hf D.wF trivial ?_ rfl
 rw [D.hN]
 have hF:∀f,Fence.wide.fn f:=fun _=>trivial
 let orc:dr:={ p:=fun _ _=>none,i:=fun _ _ _ _=>none }
 have fin:∀(a:Act) (w':World) (u:Value) (G':Gh),a.defers=[]→a.tmps[2]?=some u→ah (num ns) G' y u→Inv (num ns) G' w' mem sh' toks'→G.le G'→bf G w G' w' →
     a.defers=[]∧∃v,(results D.fn a.tmps).run P w'=.ok v w'∧∃u G',Ending.returned v=.returned u∧ah (num ns) G' y u∧Inv (num ns) G' w' mem sh' toks'∧G.le G'∧bf G w G' w':=by
   intro a w' u G' hd h2 r1 r2 r3 r4
   refine ⟨hd,u,?_,u,G',rfl,r1,r2,r3,r4⟩
   simp [results,D.e6,h2]
 obtain ⟨els,hels⟩:∃els,cy x=some els:=by
   cases hq:cy x with
   | none=>cases oc<;>simp [gn,bn,hq] at hap
   | some els=>exact ⟨els,rfl⟩
 obtain ⟨base,cap,rfl⟩:=ga hels hx
 refine wpIn_seq (wpIn_region_list ?_)
 refine gj hF D.h0.1 D.h0.2.2 ?_
 rw [D.h0.2.1]
 simp only [wpListIn]
 refine wpIn_seq (wpIn_seq (wpIn_region_list ?_))
 refine oL hF D.h1.1 D.h1.2.2 ?_
 rw [D.h1.2.1]
 refine vD (base:=base) (len:=els.length) (cap:=cap) hF D.h2.1 D.h2.2.2 D.hu (by simp [Act.put,Act.eval]) ?_
 rw [D.h2.2.1]
 simp only [wpListIn]
 cases base with
 | none=>
   refine wpIn_cond_true (by simp [Act.put,Act.eval]) ?_
   refine wpIn_seq (wpIn_region_list ?_)
   refine gj hF D.h3.1 D.h3.2.2 ?_
   rw [D.h3.2.1]
   simp only [wpListIn]
   refine wpIn_ret ?_
   have hn:els=[]:=by
     have:=cP hels hx
     obtain ⟨b,l,c,e,_,e2⟩:=bu.1 this
     cases e
     rcases e2.2 with h | ⟨_,_,_,h,_⟩
     · exact h
     · cases h
   subst hn
   obtain ⟨rfl,rfl,rfl⟩:AV.cI []=y∧sh=sh'∧aa=toks':=by
     cases oc with
     | none=>simpa [gn,bn,hels,a6] using hap
     | some ag=>simpa [gn,me,hels,a6] using hap
   exact fin _ _ (.slice none 0 0) G (by simp [Act.put]) (by simp [Act.put,Act.eval]) (by simp only [ah];exact ⟨none,0,rfl,rfl,.inl rfl⟩) hi G.le_refl (bf.refl G w)
 | some ad=>
   refine wpIn_cond_false (by simp [Act.put,Act.eval]) (wpIn_skip ?_)
   refine wpIn_seq (wpIn_region_list ?_)
   refine jr (orc:=orc) (out:=⟨.cI [],none,sh,aa⟩) D.h4.2.2 D.h4.1 rfl rfl (vals:=[]) (by simp [ae]) hi (by rfl) fun v1 w1 G1 q1 q2 q3 q4=>?_
   rw [D.h4.2.1]
   refine oL hF D.h5.1 D.h5.2.2 ?_
   rw [D.h5.2.1]
   cases oc with
   | none=>
     simp only [gn,Option.map_eq_some_iff,Prod.mk.injEq] at hap
     obtain ⟨⟨y',ts'⟩,hap,rfl,rfl,rfl⟩:=hap
     refine jr (orc:=orc) (out:=⟨y',none,sh,ts'⟩) D.h6.2.2 D.h6.1 rfl rfl (vals:=[.cI [],x]) (mem:=mem) (sh:=sh) (aa:=aa) ?_ q2 (by simp only [exec,hap,Option.map_some]) fun v2 w2 G2 p1 p2 p3 p4=>?_
     · simp only [List.map_cons,List.map_nil,ae]
       refine ⟨_,_,rfl,?_,_,_,rfl,?_,rfl⟩
       · simpa [Act.put,Act.eval] using q1
       · simpa [Act.put,Act.eval] using hx.mono q3
     rw [D.h6.2.1]
     refine gj hF D.h7.1 D.h7.2.2 ?_
     rw [D.h7.2.1]
     simp only [wpListIn]
     refine wpIn_ret ?_
     exact fin _ _ v2 G2 (by simp [Act.put]) (by simp [Act.put,Act.eval]) p1 p2 (Gh.le_trans q3 p3) (q4.trans p4)
   | some ag=>
     simp only [gn,hels] at hap
     rw [Option.ite_none_right_eq_some] at hap
     obtain ⟨hhd,hap⟩:=hap
     simp only [Option.map_eq_some_iff,Prod.mk.injEq] at hap
     obtain ⟨⟨y',sh1⟩,hap,rfl,rfl,rfl⟩:=hap
     obtain ⟨y2,hap2,hsame⟩:∃y2,me sz bytes D.ag (.cI []) els sh=some (y2,sh1)∧∀G' u,ah (num ns) G' y2 u→ah (num ns) G' y' u:=by
       unfold me at hap ⊢
       split at hap
       · rename_i h0
         rw [if_pos h0]
         cases hap
         exact ⟨_,rfl,fun _ _ h=>h⟩
       · rename_i h0
         rw [if_neg h0]
         simp only [Option.ite_none_right_eq_some,Option.some.injEq,Prod.mk.injEq] at hap
         obtain ⟨h1,rfl,rfl⟩:=hap
         rw [if_pos h1]
         exact ⟨_,rfl,fun _ _ h=>by simpa only [ah] using h⟩
     refine jr (orc:=orc) (out:=⟨y2,none,sh1,aa⟩) D.h6.2.2 D.h8 rfl rfl (vals:=[.cI [],x]) (mem:=mem) (sh:=sh) (aa:=aa) ?_ q2 (by simp only [exec,hels,hhd,if_true,lO,hap2,Option.map_some]) fun v2 w2 G2 p1 p2 p3 p4=>?_
     · simp only [List.map_cons,List.map_nil,ae]
       refine ⟨_,_,rfl,?_,_,_,rfl,?_,rfl⟩
       · simpa [Act.put,Act.eval] using q1
       · simpa [Act.put,Act.eval] using hx.mono q3
     rw [D.h6.2.1]
     refine gj hF D.h7.1 D.h7.2.2 ?_
     rw [D.h7.2.1]
     simp only [wpListIn]
     refine wpIn_ret ?_
     exact fin _ _ v2 G2 (by simp [Act.put]) (by simp [Act.put,Act.eval]) (hsame _ _ p1) p2 (Gh.le_trans q3 p3) (q4.trans p4)
end
end Go.Ab
namespace Go.Ab
section
variable {n0:Nat} {P:Program} {ns:Names} {ro:Option Nat}
theorem lF {c:Code} {Q:Exit→Act→World→Prop} {f:St→Option (aP×St)} {pre:St→St} {N:Nat}
   (hpre:∀{st:St} {G:Gh} {a:Act} {w:World},eG (num ns) n0 N G st a w→∃G',eG (num ns) n0 N G' (pre st) a w∧bf G w G' w)
   (hf:∀{st st':St} {e:aP} {G:Gh} {a:Act} {w:World} {Q:Exit→Act→World→Prop},f st=some (e,st')→eG (num ns) n0 N G st a w →
     (∀G' a' w',eG (num ns) n0 N G' st' a' w'→bf G w G' w'→Q (kG e) a' w')→c.wpIn (nP ro) 0 P Q a w) :
   ∀(n:Nat) {st st':St} {e:aP} {G:Gh} {a:Act} {w:World},dw f pre n st=some (e,st')→eG (num ns) n0 N G st a w →
     (∀G' a' w',eG (num ns) n0 N G' st' a' w'→bf G w G' w'→Q (kG e) a' w')→Code.roundsIn (nP ro) 0 P c Q n a w
 | 0,st,st',e,G,a,w,h,_,_=>by simp [dw] at h
 | n+1,st,st',e,G,a,w,h,hs,hq=>by
   rw [roundsIn_succ]
   obtain ⟨G0,hs0,he0⟩:=hpre hs
   simp only [dw] at h
   split at h
   · rename_i st1 h1
     refine hf h1 hs0 fun G' a' w' hs' he'=>?_
     exact lF hpre hf n h hs' fun G'' a'' w'' hs'' he''=>hq G'' a'' w'' hs'' ((he0.trans he').trans he'')
   · rename_i r hr
     have hne:e≠.normal:=by
       rintro rfl
       exact hr st' h
     refine hf h hs0 fun G' a' w' hs' he'=>?_
     have:=hq G' a' w' hs' (he0.trans he')
     cases e with
     | normal=>exact absurd rfl hne
     | ret=>exact this
     | exit id=>exact this
theorem vE {N:Nat} {v:AV} {st:St} {G:Gh} {a:Act} {w:World} (h:eG (num ns) n0 N G st a w):∃G',eG (num ns) n0 N G' (s_ v st) a w∧bf G w G' w:=by
 unfold s_
 split
 · rename_i st' d
   split
   · rename_i cs hcs
     split
     · rename_i ps hps
       obtain ⟨G1,k1,k2,k3,k4,k5⟩:=Inv.kill ([.agg cs].flatMap dj) h.inv
       obtain ⟨b,e1,⟨e2,c,t,e3,e4⟩,e5⟩:=h.inv.bT d cs hcs
       obtain ⟨b',f1,⟨f2,c',t',f3,f4⟩,f5⟩:=k1.bT d cs hcs
       have hb:b=b':=by have:=k2.pm d b e1;rw [f1] at this;simpa using this.symm
       subst hb
       have hcc:c=c':=by rw [e3] at f3;cases f3;rfl
       subst hcc
       have hrl:cx G1.K ps c.toList:=gW k2 k4 h.inv.mB (fun s hs=>by simpa using hs) hps e4
       have hlf:(ps.map AV.pv).all aH=true:=by
         rw [List.all_eq_true]
         intro x hx
         rw [List.mem_map] at hx
         obtain ⟨p,hp,rfl⟩:=hx
         have:=gG hrl p hp
         cases p<;>first | rfl | simp [er] at this
       refine ⟨G1,⟨⟨h.env.size,fun t' x hx=>?_⟩,?_,h.marks.tg k3 rfl⟩,k3⟩
       · obtain ⟨u',g1,g2⟩:=h.env.env t' x hx
         exact ⟨u',g1,g2.mono k2⟩
       · refine ⟨k1.known,k1.aI,k1.fresh,?_,?_,k1.cr,k1.cV,k1.cq,k1.dy,k1.i3⟩
         · intro d' cs' hd'
           by_cases hdd:d=d'
           · subst hdd
             rw [bo] at hd'
             cases hd'
             exact ⟨b,f1,⟨f2,c,t',f3,eJ hrl⟩,hlf⟩
           · rw [a_ _ _ _ _ hdd] at hd'
             exact k1.bT d' cs' hd'
         · intro d' b' hd'
           by_cases hdd:d=d'
           · subst hdd;rw [bo];rfl
           · rw [a_ _ _ _ _ hdd];exact k1.ep d' b' hd'
     · exact ⟨G,h,bf.refl G w⟩
   · exact ⟨G,h,bf.refl G w⟩
 · exact ⟨G,h,bf.refl G w⟩
theorem fK {N:Nat}:∀{ts:List Nat} {st:St} {G:Gh} {a:Act} {w:World},eG (num ns) n0 N G st a w→∃G',eG (num ns) n0 N G' (jb ts st) a w∧bf G w G' w
 | [],st,G,a,w,h=>⟨G,h,bf.refl G w⟩
 | t::r,st,G,a,w,h=>by
   simp only [jb]
   split
   · rename_i v hv
     split
     · rename_i p hp
       obtain ⟨G1,k1,k2,k3,k4,k5⟩:=Inv.kill ([v].flatMap dj) h.inv
       obtain ⟨u,hu,hr⟩:=h.env.env t v hv
       have hrel:Rel G1.K p u:=mA k2 k4 h.inv.mB (fun s hs=>by simpa using hs) hp hr
       have h1:eG (num ns) n0 N G1 { st with env:=cC st.env t (.pv p),sh:=ck st.sh [v] } a w:=by
         refine ⟨⟨h.env.size,fun t' x hx=>?_⟩,k1,h.marks.tg k3 rfl⟩
         by_cases ht:t'=t
         · subst ht
           rw [Ev.iT,if_pos rfl] at hx
           cases hx
           exact ⟨u,hu,by simpa only [ah] using hrel⟩
         · rw [Ev.iT,if_neg ht] at hx
           obtain ⟨u',f1,f2⟩:=h.env.env t' x hx
           exact ⟨u',f1,f2.mono k2⟩
       obtain ⟨G2,h2,he⟩:=fK (ts:=r) h1
       exact ⟨G2,h2,k3.trans he⟩
     · obtain ⟨G1,h1,e1⟩:=vE (v:=v) h
       obtain ⟨G2,h2,e2⟩:=fK (ts:=r) h1
       exact ⟨G2,h2,e1.trans e2⟩
   · exact fK h
theorem iV {α:Type} {d:Nat}:∀{l:List (Nat×α)} {t:Nat},look (w9 d l) t=if t=d then none else look l t
 | [],t=>by simp [w9,look]
 | (k,v)::r,t=>by
   simp only [w9]
   by_cases hk:k=d
   · rw [if_pos hk,iV]
     by_cases ht:t=d
     · rw [if_pos ht,if_pos ht]
     · rw [if_neg ht,if_neg ht]
       simp only [look]
       rw [if_neg (by rintro rfl;exact ht hk)]
   · rw [if_neg hk]
     simp only [look]
     by_cases hkt:k=t
     · subst hkt;rw [if_pos rfl,if_neg hk,if_pos rfl]
     · rw [if_neg hkt,if_neg hkt,iV]
theorem kH {d s sz n:Nat} {ag:Bool} {env:List (Nat×AV)}:∀{l:List Nat} {t:Nat} {x:AV},look (w8 d s sz n ag env l) t=some x →
   ∃y,look env t=some y∧Ed d s sz n ag y=some x
 | [],t,x,h=>by simp [w8,look] at h
 | k::r,t,x,h=>by
   simp only [w8] at h
   split at h
   · rename_i v hv
     simp only [look] at h
     split at h
     · rename_i e;subst e;cases h
       rw [Option.bind_eq_some_iff] at hv
       exact hv
     · exact kH h
   · exact kH h
def Gh.ie (G:Gh) (d b s n:Nat):Gh:=
 { G with role:=fun x=>if x=b then .shr s else G.role x,pm:=fun x=>if x=d then none else G.pm x,sm:=fun x=>if x=s then some (b,n) else G.sm x }
theorem sB {ρ:bh} {G:Gh} {d b s n:Nat} (hs:G.sm s=none) {x:AV} {v:Value} (hf:fY x=true) (h:ah ρ G x v):ah ρ (G.ie d b s n) x v:=by
 refine oq (G':=G.ie d b s n) (aU.le_refl G.K) (fun s' b' e=>?_) (fun _ _ e=>e) hf h
 simp only [Gh.ie]
 rw [if_neg (by rintro rfl;rw [hs] at e;cases e)]
 exact e
theorem sC {x:AV} (h:aH x=true):fY x=true:=by
 rcases jg h with hf | ⟨l,τ,rfl⟩
 · cases x with
   | own l τ=>rfl
   | _=>simpa [fY] using hf
 · rfl
theorem jY:∀{xs:List AV},xs.all aH=true→dN xs=true
 | [],_=>rfl
 | x::xs,h=>by
   simp only [List.all_cons,Bool.and_eq_true] at h
   simp only [dN,Bool.and_eq_true]
   exact ⟨sC h.1,jY h.2⟩
theorem kI {ρ:bh} {G:Gh} {d b s n:Nat} (hs:G.sm s=none) {xs:List AV} {vs:List Value} (hf:xs.all aH=true) (h:ae ρ G xs vs):ae ρ (G.ie d b s n) xs vs:=by
 refine fF (G':=G.ie d b s n) (aU.le_refl G.K) (fun s' b' e=>?_) (fun _ _ e=>e) (jY hf) h
 simp only [Gh.ie]
 rw [if_neg (by rintro rfl;rw [hs] at e;cases e)]
 exact e
theorem vF {N d sz:Nat} {ag:Bool} {st:St} {G:Gh} {a:Act} {w:World} (h:eG (num ns) n0 N G st a w):∃G',eG (num ns) n0 N G' (Ee d sz ag st) a w∧bf G w G' w:=by
 unfold Ee
 split
 · rename_i cells hcs
   split
   · rename_i hok
     obtain ⟨hlf,hrf⟩:=hok
     obtain ⟨b,e1,⟨e2,c,t,e3,e4⟩,e5⟩:=h.inv.bT d cells hcs
     have hsm:G.sm st.sh.length=none:=by
       cases hx:G.sm st.sh.length with
       | none=>rfl
       | some b'=>have:=h.inv.cV _ _ hx;omega
     have hcl:c.size=cells.length:=by have:=e4.length;simpa using this
     have hbs:b<w.heap.size:=(Array.getElem?_eq_some_iff.1 e3).1
     have hevo:bf G w (G.ie d b st.sh.length cells.length) w:=
       { size:=Nat.le_refl _,os:=rfl,tape:=rfl,output:=rfl,K:=aU.le_refl G.K
         sm:=fun s' b' e=>by
           simp only [Gh.ie]
           rw [if_neg (by rintro rfl;rw [hsm] at e;cases e)]
           exact e
         cS:=fun b' _ hr=>⟨by
           simp only [Gh.ie]
           rw [if_neg (by rintro rfl;rw [e2] at hr;cases hr)]
           exact hr,rfl⟩
         eS:=fun b' τ _ hr=>.inr ⟨τ,by
           simp only [Gh.ie]
           rw [if_neg (by rintro rfl;rw [e2] at hr;cases hr)]
           exact hr⟩
         d_:=fun _ _ _ _ _ hk=>hk }
     have hrole:∀b' r,G.role b'=r→r≠.ic d→(G.ie d b st.sh.length cells.length).role b'=r:=by
       intro b' r hr hn
       simp only [Gh.ie]
       rw [if_neg (by rintro rfl;rw [e2] at hr;exact hn hr.symm)]
       exact hr
     refine ⟨G.ie d b st.sh.length cells.length,⟨⟨h.env.size,fun t' x hx=>?_⟩,?_,h.marks.tg hevo rfl⟩,hevo⟩
     · obtain ⟨y,hy,hv⟩:=kH hx
       obtain ⟨u,g1,g2⟩:=h.env.env t' y hy
       refine ⟨u,g1,?_⟩
       have aF:cK [] y=true→x=y→ah (num ns) (G.ie d b st.sh.length cells.length) x u:=by
         rintro hk rfl
         cases x with
         | own l τ=>exact sB hsm rfl g2
         | agg cs=>
           simp only [ah] at g2 ⊢
           obtain ⟨vs,q1,q2⟩:=g2
           refine ⟨vs,q1,fF (G':=G.ie d b st.sh.length cells.length) (aU.le_refl G.K) (fun s' b' e=>hevo.sm s' b' e) (fun _ _ e=>e) (by simpa [cK] using hk) q2⟩
         | aN _ _=>simp [cK] at hk
         | gB _ _=>simp [cK] at hk
         | _=>exact sB hsm (by simpa [fY,cK] using hk) g2
       unfold Ed at hv
       split at hv
       · rename_i d' o
         simp only [ah] at g2
         obtain ⟨b',q1,q2⟩:=g2
         simp only [Option.some.injEq] at hv
         split at hv
         · rename_i hd
           subst hd hv
           rw [e1] at q1;cases q1
           simp only [ah]
           exact ⟨(b,cells.length),by simp [Gh.ie],q2⟩
         · rename_i hd
           subst hv
           simp only [ah]
           exact ⟨b',by simp only [Gh.ie];rw [if_neg hd];exact q1,q2⟩
       · rename_i d' m
         simp only [ah] at g2
         obtain ⟨b',q1,q2⟩:=g2
         split at hv
         · rename_i hd
           subst hd
           simp only [Option.ite_none_right_eq_some,Option.some.injEq] at hv
           obtain ⟨hm,rfl⟩:=hv
           rw [e1] at q1;cases q1
           simp only [ah]
           exact ⟨(b,cells.length),0,by simp [Gh.ie],q2,hm⟩
         · rename_i hd
           simp only [Option.some.injEq] at hv
           subst hv
           simp only [ah]
           exact ⟨b',by simp only [Gh.ie];rw [if_neg hd];exact q1,q2⟩
       · simp only [Option.ite_none_right_eq_some,Option.some.injEq] at hv
         exact aF hv.1 hv.2.symm
     · have hi:=h.inv
       refine ⟨hi.known,?_,?_,?_,?_,?_,?_,?_,?_,hi.eA hevo⟩
       · intro b' o v hk
         rcases hi.aI b' o v hk with hr | ⟨τ,hr⟩
         · exact .inl (hrole _ _ hr (by simp))
         · exact .inr ⟨τ,hrole _ _ hr (by simp)⟩
       · intro b' hb'
         exact hrole _ _ (hi.fresh b' hb') (by simp)
       · intro d' cs' hd'
         rw [iV] at hd'
         split at hd'
         · cases hd'
         · rename_i hdd
           obtain ⟨b',f1,⟨f2,c',t',f3,f4⟩,f5⟩:=hi.bT d' cs' hd'
           exact ⟨b',by simp only [Gh.ie];rw [if_neg hdd];exact f1,⟨hrole _ _ f2 (by simpa using hdd),c',t',f3,kI hsm f5 f4⟩,f5⟩
       · intro d' b' hd'
         simp only [Gh.ie] at hd'
         split at hd'
         · cases hd'
         · rename_i hdd
           rw [iV,if_neg hdd]
           exact hi.ep d' b' hd'
       · intro s' cs' hs'
         rw [List.getElem?_append] at hs'
         split at hs'
         · rename_i hlt
           obtain ⟨b',f1,⟨f2,o,f3,f4⟩,f5,f6⟩:=hi.cr s' cs' hs'
           refine ⟨b',hevo.sm _ _ f1,⟨hrole _ _ f2 (by simp),o,f3,f4.to (aU.le_refl G.K) (fun _ e=>e) (fun vs r=>kI hsm (e7 f5) r)⟩,f5,f6⟩
         · rename_i hlt
           have hs0:s'=st.sh.length:=by
             have:=(List.getElem?_eq_some_iff.1 hs').1
             simp at this
             omega
           subst hs0
           simp at hs'
           subst hs'
           refine ⟨(b,cells.length),by simp [Gh.ie],⟨by simp [Gh.ie],_,e3,?_⟩,hlf,hrf⟩
           have:=Holds.full (t:=t) (kI (d:=d) (b:=b) (n:=cells.length) hsm (e7 hlf) e4)
           rwa [hcl] at this
       · intro s' b' hs'
         simp only [Gh.ie] at hs'
         simp only [List.length_append,List.length_cons,List.length_nil]
         split at hs'
         · omega
         · have:=hi.cV s' b' hs';omega
       · intro τ n hn
         obtain ⟨t',f1,f2,f3⟩:=hi.cq τ n hn
         refine ⟨t',f1,f2,f3.cap,f3.zero,fun hsp=>?_⟩
         obtain ⟨b',o,c',ty,q1,q2,q3⟩:=f3.spare hsp
         exact ⟨b',o,c',ty,q1,hrole _ _ q2 (by simp),q3⟩
       · exact hi.dy
   · exact ⟨G,h,bf.refl G w⟩
 · exact ⟨G,h,bf.refl G w⟩
theorem js {N:Nat}:∀{ps:List (Nat×Nat×Bool)} {st:St} {G:Gh} {a:Act} {w:World},eG (num ns) n0 N G st a w→∃G',eG (num ns) n0 N G' (zW ps st) a w∧bf G w G' w
 | [],st,G,a,w,h=>⟨G,h,bf.refl G w⟩
 | (d,sz,ag)::r,st,G,a,w,h=>by
   obtain ⟨G1,h1,e1⟩:=vF (d:=d) (sz:=sz) (ag:=ag) h
   obtain ⟨G2,h2,e2⟩:=js (ps:=r) h1
   exact ⟨G2,h2,e1.trans e2⟩
theorem iW {b b':Nat}:∀{ts:List Nat} {env:List (Nat×AV)} {t:Nat} {x:AV},look (ta b b' ts env) t=some x→look env t=some x∨∃z n ag,look env t=some (.aX b z n ag)∧x=.aX b' z n ag
 | [],env,t,x,h=>.inl h
 | u::r,env,t,x,h=>by
   simp only [ta] at h
   split at h
   · rename_i s z n ag hu
     split at h
     · rename_i hs
       subst hs
       rcases iW h with h1 | ⟨z',n',ag',h1,h2⟩
       · by_cases hut:u=t
         · subst hut
           rw [bo] at h1
           cases h1
           exact .inr ⟨z,n,ag,hu,rfl⟩
         · rw [a_ _ _ _ _ hut] at h1
           exact .inl h1
       · by_cases hut:u=t
         · subst hut
           rw [bo] at h1
           cases h1
           exact .inr ⟨z,n,ag,hu,h2⟩
         · rw [a_ _ _ _ _ hut] at h1
           exact .inr ⟨z',n',ag',h1,h2⟩
     · exact iW h
   · exact iW h
theorem vG {N:Nat} {ts:List Nat} {st:St} {G:Gh} {a:Act} {w:World} (h:eG (num ns) n0 N G st a w):∃G',eG (num ns) n0 N G' (zX ts st) a w∧bf G w G' w:=by
 unfold zX
 split
 · exact ⟨G,h,bf.refl G w⟩
 · rename_i t r
   split
   · rename_i b z n ag hb
     split
     · rename_i cells hcs
       split
       · obtain ⟨blk,e1,_⟩:=h.inv.cr b cells hcs
         obtain ⟨g1,g2,g3⟩:=h.inv.eK hcs e1
         refine ⟨_,⟨⟨h.env.size,fun t' x hx=>?_⟩,g1,h.marks.tg g3 rfl⟩,g3⟩
         rcases iW hx with h1 | ⟨z',n',ag',h1,rfl⟩
         · obtain ⟨v,q1,q2⟩:=h.env.env t' x h1
           exact ⟨v,q1,q2.mono g2⟩
         · obtain ⟨v,q1,q2⟩:=h.env.env t' _ h1
           refine ⟨v,q1,?_⟩
           simp only [ah] at q2 ⊢
           obtain ⟨b',cap,f1,f2,f3⟩:=q2
           rw [e1] at f1;cases f1
           exact ⟨blk,cap,by simp [Gh.eK],f2,f3⟩
       · exact ⟨G,h,bf.refl G w⟩
     · exact ⟨G,h,bf.refl G w⟩
   · exact ⟨G,h,bf.refl G w⟩
theorem sD:∀{ks:List Nat} {sh:Sh} {b:Nat},b∉ks→(kill sh ks)[b]?=sh[b]?
 | [],_,_,_=>rfl
 | k::ks,sh,b,h=>by
   simp only [List.mem_cons,not_or] at h
   have hk:kill sh (k::ks)=kill (sh.set k none) ks:=rfl
   rw [hk,sD h.2,List.getElem?_set,if_neg (fun e=>h.1 e.symm)]
theorem eC {N:Nat}:∀{ts:List Nat} {st:St} {G:Gh} {a:Act} {w:World},eG (num ns) n0 N G st a w→∃G',eG (num ns) n0 N G' (jD ts st) a w∧bf G w G' w
 | [],st,G,a,w,h=>⟨G,h,bf.refl G w⟩
 | t::r,st,G,a,w,h=>by
   simp only [jD]
   split
   · rename_i b z n ag hb
     split
     · rename_i cells hcs
       split
       · rename_i hok
         obtain ⟨hmb,hself⟩:=hok
         split
         · rename_i ps hps
           obtain ⟨G1,k1,k2,k3,k4,k5⟩:=Inv.kill ([.agg cells].flatMap dj) h.inv
           obtain ⟨blk,e1,e2,e3,e4⟩:=h.inv.cr b cells hcs
           obtain ⟨hr,c,ty,vs,suf,hh,hcz,hsp,hrel⟩:=e2.cells hmb
           have hnb:b∉[AV.agg cells].flatMap dj:=by
             have:¬(dj (.agg cells)).contains b=true:=by rw [hself];simp
             simpa using this
           have hb1:(ck st.sh [.agg cells])[b]?=some (some cells):=by
             show (kill st.sh ([AV.agg cells].flatMap dj))[b]?=_
             rw [sD hnb];exact hcs
           obtain ⟨blk',f1,f2,f3,f4⟩:=k1.cr b cells hb1
           have hblk:blk'=blk:=by
             have:=k2.sm _ _ e1
             rw [f1] at this;simpa using this
           subst hblk
           have hrl:cx G1.K ps vs:=gW k2 k4 h.inv.mB (fun s hs=>by simpa using hs) hps hrel
           have hlf:(ps.map AV.pv).all cp=true:=by
             rw [List.all_eq_true]
             intro x hx
             rw [List.mem_map] at hx
             obtain ⟨p,hp,rfl⟩:=hx
             have:=gG hrl p hp
             cases p<;>first | rfl | simp [er] at this
           have h1:eG (num ns) n0 N G1 { st with sh:=(ck st.sh [.agg cells]).set b (some (ps.map .pv)) } a w:=by
             refine ⟨⟨h.env.size,fun t' x hx=>?_⟩,?_,h.marks.tg k3 rfl⟩
             · obtain ⟨u',g1,g2⟩:=h.env.env t' x hx
               exact ⟨u',g1,g2.mono k2⟩
             · exact { k1 with
                 cr:=fun s' cs' hs'=>by
                   rw [List.getElem?_set] at hs'
                   split at hs'
                   · rename_i he
                     subst he
                     split at hs'
                     · cases hs'
                       exact ⟨blk',f1,⟨f2.role,_,hh,.inl ⟨c,ty,vs,suf,rfl,hcz,hsp,eJ hrl⟩⟩,hlf,pj _ _⟩
                     · cases hs'
                   · exact k1.cr s' cs' hs'
                 cV:=fun s' b' hs'=>by
                   have:=k1.cV s' b' hs'
                   simpa using this }
           obtain ⟨G2,h2,he⟩:=eC (ts:=r) h1
           exact ⟨G2,h2,k3.trans he⟩
         · exact eC h
       · exact eC h
     · exact eC h
   · exact eC h
theorem oM {α β:Type} {f:α→Option β}:∀{l:List α} {r:List β} (k:Nat),bI f l=some r→bI f (l.take k)=some (r.take k)∧bI f (l.drop k)=some (r.drop k)
 | l,r,0,h=>by simp [bI,h]
 | [],r,k+1,h=>by simp [bI] at h;subst h;simp [bI]
 | x::l,r,k+1,h=>by
   simp only [bI] at h
   split at h
   · rename_i y ys h1 h2
     cases h
     obtain ⟨g1,g2⟩:=oM k h2
     simp only [List.take_succ_cons,List.drop_succ_cons,bI,h1,g1]
     exact ⟨trivial,g2⟩
   · cases h
theorem p_ (hB:eT P ns) {orc:dr} (horc:fE P ns orc) {A:gJ} {N id k:Nat} {q:Nat×List Nat×List Nat} {ops:Array Oper} {as:List cB} (hc:bI (dx P ns A N ops) ops.toList=some as) {live:List Nat} {st st':St} {e:aP} {G:Gh} {a:Act} {w:World}
   (hs:eG (num ns) n0 N G st a w) (hev:bM orc k (tf (some q) as live) st=some (e,st')) {Q:Exit→Act→World→Prop}
   (hq:∀G' a' w',eG (num ns) n0 N G' st' a' w'→bf G w G' w'→Q (kG e) a' w'):(Code.region id ops false).wpIn (nP ro) 0 P Q a w:=by
 obtain ⟨j,l,ts⟩:=q
 simp only [tf,bM] at hev
 obtain ⟨g1,g2⟩:=oM j hc
 cases h1:aY orc (as.take j) st with
 | none=>rw [h1] at hev;simp at hev
 | some st1=>
   rw [h1] at hev
   simp only at hev
   cases h2:aY orc (as.drop j) (zX ts (Go.Ab.restrict l st1)) with
   | none=>rw [h2] at hev;simp at hev
   | some st2=>
     rw [h2] at hev
     simp only [Option.some.injEq,Prod.mk.injEq] at hev
     obtain ⟨rfl,rfl⟩:=hev
     refine wpIn_region_list ?_
     rw [←List.take_append_drop j ops.toList]
     refine jq hB horc g1 hs h1 fun G1 a1 w1 hs1 he1 _ _=>?_
     obtain ⟨G2,hs2,he2⟩:=vG (ts:=ts) (hs1.restrict l)
     have:=jq (ro:=ro) (n:=0) (rest:=[]) (Q:=Q) hB horc g2 hs2 h2 (fun G3 a3 w3 hs3 he3 _ _=>by
       unfold wpListIn
       exact hq (G3.aF live) a3 w3 (hs3.restrict live) (he1.trans ((bf.aF l).trans (he2.trans (he3.trans (bf.aF live))))))
     rwa [List.append_nil] at this
theorem ib {live:List Nat} {env:List (Nat×AV)}:∀{ds:List (Nat×Nat)},eQ (aZ live env live) ds=true→eQ env ds=true
 | [],_=>rfl
 | (a,b)::r,h=>by
   simp only [eQ,Bool.and_eq_true] at h ⊢
   refine ⟨?_,ib h.2⟩
   obtain ⟨b1,o1,b2,o2,h1,h2,hne⟩:=oA h.1
   rw [(cv h1).1,(cv h2).1]
   simpa [apart] using hne
theorem m5 {orc:dr} {k:Nat} {as:List cB} {live:List Nat} {ds:Option (List (Nat×Nat))} {ps:Option (List (Nat×Nat×Bool))} {st st':St} {e:aP}
   (h:bM orc k (behind ds ps (.oe as live)) st=some (e,st')) :
   ∃st1,aY orc as st=some st1∧e=.normal∧eQ st1.env (ds.getD [])=true∧st'=zW (ps.getD []) (restrict live st1):=by
 have h1:∀e2 st2,bM orc k (match ds with | some ds=>au.seq (.oe as live) (.DN ds) | none=>.oe as live) st=some (e2,st2) →
     ∃st1,aY orc as st=some st1∧e2=.normal∧eQ st1.env (ds.getD [])=true∧st2=restrict live st1:=by
   intro e2 st2 h
   cases ds with
   | none=>
     simp only [bM] at h
     split at h
     · rename_i st1 h1
       simp at h;obtain ⟨rfl,rfl⟩:=h
       exact ⟨st1,h1,rfl,rfl,rfl⟩
     · simp at h
   | some ds=>
     simp only [bM] at h
     cases h1:aY orc as st with
     | none=>rw [h1] at h;simp at h
     | some st1=>
       rw [h1] at h
       simp only [Option.ite_none_right_eq_some,Option.some.injEq,Prod.mk.injEq] at h
       obtain ⟨h2,rfl,rfl⟩:=h
       exact ⟨st1,rfl,rfl,ib h2,rfl⟩
 unfold behind at h
 cases ps with
 | none=>
   obtain ⟨st1,g1,g2,g3,g4⟩:=h1 e st' h
   exact ⟨st1,g1,g2,g3,g4⟩
 | some ps=>
   simp only [bM] at h
   split at h
   · rename_i st2 h2
     simp at h
     obtain ⟨st1,g1,g2,g3,rfl⟩:=h1 _ _ h2
     exact ⟨st1,g1,h.1.symm,g3,h.2.symm⟩
   · rename_i r hr
     obtain ⟨st1,g1,rfl,g3,g4⟩:=h1 e st' h
     exact absurd h (hr st')
def l4 (_:Program) (_:Names):Prop:=True
theorem fc (hm:P.follows .mixedOrders=true) (hB:eT P ns) {orc:dr} (horc:fE P ns orc) (hBk:l4 P ns) {A:gJ} {N k:Nat}:∀{c:Code} {ac:au},dU P ns A N c=some ac →
   ∀{n0:Nat} {ro:Option Nat},(ro=none∨ac.dR=true)→∀{st st':St} {e:aP} {G:Gh} {a:Act} {w:World} {Q:Exit→Act→World→Prop},bM orc k ac st=some (e,st')→eG (num ns) n0 N G st a w →
     (∀G' a' w',eG (num ns) n0 N G' st' a' w'→bf G w G' w'→Q (kG e) a' w')→c.wpIn (nP ro) 0 P Q a w
 | .skip,ac,hc,n0,ro,hro,st,st',e,G,a,w,Q,hev,hs,hq=>by
   simp [dU] at hc;subst hc
   simp [bM] at hev;obtain ⟨rfl,rfl⟩:=hev
   exact wpIn_skip (hq G a w hs (bf.refl G w))
 | .region id ops draw,ac,hc,n0,ro,hro,st,st',e,G,a,w,Q,hev,hs,hq=>by
   simp only [dU] at hc
   split at hc
   · rename_i as has
     have key:∀o ds ps live,ac=fZ o (behind ds ps (.oe as live))→(draw=true→o8 (ds.getD []) ops.toList as=true)→(Code.region id ops draw).wpIn (nP ro) 0 P Q a w:=by
       rintro o ds ps live rfl hd
       have main:∀{st:St} {G1:Gh},bM orc k (behind ds ps (.oe as live)) st=some (e,st')→eG (num ns) n0 N G1 st a w→bf G w G1 w→(Code.region id ops draw).wpIn (nP ro) 0 P Q a w:=by
         intro st G1 hev hs he1
         obtain ⟨st1,h1,rfl,h3,rfl⟩:=m5 hev
         refine oC hm hB horc has hd hs h1 h3 fun G' a' w' hs' he'=>?_
         obtain ⟨G2,h4,h5⟩:=js (ps:=ps.getD []) (hs'.restrict live)
         exact hq G2 a' w' h4 (he1.trans (he'.trans ((bf.aF live).trans h5)))
       cases o with
       | none=>exact main hev hs (bf.refl G w)
       | some ts=>
         simp only [fZ,bM] at hev
         obtain ⟨G2,h2,he2⟩:=fK (ts:=ts) hs
         exact main hev h2 he2
     have ahead:∀o1 o2 c,ac=lW o1 (fZ o2 c)→(∀{st:St} {G1:Gh},bM orc k c st=some (e,st')→eG (num ns) n0 N G1 st a w→bf G w G1 w→(Code.region id ops draw).wpIn (nP ro) 0 P Q a w)→(Code.region id ops draw).wpIn (nP ro) 0 P Q a w:=by
       rintro o1 o2 c rfl hm
       have h2:∀{st:St} {G1:Gh},bM orc k (fZ o2 c) st=some (e,st')→eG (num ns) n0 N G1 st a w→bf G w G1 w→(Code.region id ops draw).wpIn (nP ro) 0 P Q a w:=by
         intro st G1 hev hs he1
         cases o2 with
         | none=>exact hm hev hs he1
         | some ts=>
           simp only [fZ,bM] at hev
           obtain ⟨G2,h2,he2⟩:=fK (ts:=ts) hs
           exact hm hev h2 (he1.trans he2)
       cases o1 with
       | none=>exact h2 hev hs (bf.refl G w)
       | some ts=>
         simp only [lW,bM] at hev
         obtain ⟨G2,h3,he2⟩:=eC (ts:=ts) hs
         exact h2 hev h3 he2
     split at hc
     · rename_i hdr
       split at hc
       · rename_i hok
         simp at hc
         exact key _ _ _ _ hc.symm (fun _=>hok)
       · simp at hc
     · rename_i hdr
       have hdr':draw=false:=by simpa using hdr
       subst hdr'
       split at hc
       · rename_i q hq'
         simp only [Option.some.injEq] at hc
         exact ahead _ _ _ hc.symm fun hev hs he1=>p_ hB horc has hs hev fun G' a' w' h1 h2=>hq G' a' w' h1 (he1.trans h2)
       · simp only [Option.some.injEq] at hc
         refine ahead _ _ _ hc.symm fun hev hs he1=>?_
         obtain ⟨st1,h1,rfl,h3,rfl⟩:=m5 hev
         refine oC hm hB horc has (fun h=>absurd h hdr) hs h1 h3 fun G' a' w' hs' he'=>?_
         obtain ⟨G2,h4,h5⟩:=js (ps:=(look A.ie id).getD []) (hs'.restrict ((look A.live id).getD []))
         exact hq G2 a' w' h4 (he1.trans (he'.trans ((bf.aF _).trans h5)))
   · simp at hc
 | .seq x y,ac,hc,n0,ro,hro,st,st',e,G,a,w,Q,hev,hs,hq=>by
   simp only [dU] at hc
   split at hc
   · rename_i ax ay hx hy
     simp at hc;subst hc
     have hrx:ro=none∨ax.dR=true:=hro.imp_right fun h=>by simp only [au.dR,Bool.and_eq_true] at h;exact h.1
     have hry:ro=none∨ay.dR=true:=hro.imp_right fun h=>by simp only [au.dR,Bool.and_eq_true] at h;exact h.2
     simp only [bM] at hev
     refine wpIn_seq ?_
     split at hev
     · rename_i st1 h1
       refine fc hm hB horc hBk hx hrx h1 hs fun G' a' w' hs' he'=>?_
       exact fc hm hB horc hBk hy hry hev hs' fun G'' a'' w'' hs'' he''=>hq G'' a'' w'' hs'' (he'.trans he'')
     · rename_i r hr
       refine fc hm hB horc hBk hx hrx hev hs fun G' a' w' hs' he'=>?_
       have:=hq G' a' w' hs' he'
       cases e with
       | normal=>exact absurd hev (hr st')
       | ret=>exact this
       | exit id=>exact this
   · simp at hc
 | .cond c x y,ac,hc,n0,ro,hro,st,st',e,G,a,w,Q,hev,hs,hq=>by
   simp only [dU] at hc
   split at hc
   · rename_i acnd ax ay hcn hx hy
     simp at hc;subst hc
     have hrx:ro=none∨ax.dR=true:=hro.imp_right fun h=>by simp only [au.dR,Bool.and_eq_true] at h;exact h.1
     have hry:ro=none∨ay.dR=true:=hro.imp_right fun h=>by simp only [au.dR,Bool.and_eq_true] at h;exact h.2
     simp only [bM] at hev
     split at hev
     · rename_i t ht
       have hrel:=wj hs.env hcn ht
       simp only [ah,fq] at hrel
       refine wpIn_cond hrel ?_
       cases t with
       | true=>exact fc hm hB horc hBk hx hrx (by simpa using hev) hs hq
       | false=>exact fc hm hB horc hBk hy hry (by simpa using hev) hs hq
     · simp at hev
   · simp at hc
 | .block id b,ac,hc,n0,ro,hro,st,st',e,G,a,w,Q,hev,hs,hq=>by
   simp only [dU,Option.map_eq_some_iff] at hc
   obtain ⟨ab,hb,rfl⟩:=hc
   have hrb:ro=none∨ab.dR=true:=hro.imp_right fun h=>by simpa only [au.dR] using h
   refine wpIn_block ?_
   simp only [bM] at hev
   split at hev
   · rename_i id' st1 h1
     refine fc hm hB horc hBk hb hrb h1 hs fun G' a' w' hs' he'=>?_
     split at hev
     · rename_i xx
       simp at hev;obtain ⟨rfl,rfl⟩:=hev
       simp only [kG,Exit.inBlock,xx,if_true]
       exact hq G' a' w' hs' he'
     · rename_i xx
       simp at hev;obtain ⟨rfl,rfl⟩:=hev
       simp only [kG,Exit.inBlock,xx,if_false]
       exact hq G' a' w' hs' he'
   · rename_i r hr
     refine fc hm hB horc hBk hb hrb hev hs fun G' a' w' hs' he'=>?_
     have:=hq G' a' w' hs' he'
     cases e with
     | normal=>exact this
     | ret=>exact this
     | exit id'=>exact absurd hev (hr id' st')
 | .loop b,ac,hc,n0,ro,hro,st,st',e,G,a,w,Q,hev,hs,hq=>by
   simp only [dU,Option.map_eq_some_iff] at hc
   obtain ⟨ab,hb,rfl⟩:=hc
   have hrb:ro=none∨ab.dR=true:=hro.imp_right fun h=>by simpa only [au.dR] using h
   simp only [bM] at hev
   refine wpIn_loop_rounds k ?_
   exact lF (fun h=>h.head _) (fun h1 h2 h3=>fc hm hB horc hBk hb hrb h1 h2 h3) k hev hs hq
 | .exit id,ac,hc,n0,ro,hro,st,st',e,G,a,w,Q,hev,hs,hq=>by
   simp [dU] at hc;subst hc
   simp [bM] at hev;obtain ⟨rfl,rfl⟩:=hev
   exact wpIn_exit (hq G a w hs (bf.refl G w))
 | .ret,ac,hc,n0,ro,hro,st,st',e,G,a,w,Q,hev,hs,hq=>by
   simp [dU] at hc;subst hc
   simp [bM] at hev;obtain ⟨rfl,rfl⟩:=hev
   exact wpIn_ret (hq G a w hs (bf.refl G w))
 | .rangeFunc f ps x y,ac,hc,n0,ro,hro,st,st',e,G,a,w,Q,hev,hs,hq=>by simp [dU] at hc
 | .scope _,ac,hc,n0,ro,hro,st,st',e,G,a,w,Q,hev,hs,hq=>by simp [dU] at hc
 | .label _,ac,hc,n0,ro,hro,st,st',e,G,a,w,Q,hev,hs,hq=>by simp [dU] at hc
 | .goto _,ac,hc,n0,ro,hro,st,st',e,G,a,w,Q,hev,hs,hq=>by simp [dU] at hc
 | .refuse _,ac,hc,n0,ro,hro,st,st',e,G,a,w,Q,hev,hs,hq=>by simp [dU] at hc
end
end Go.Ab
