import Derived.Test.YtcjggpmnbcfedaaDoorAbOps12
/-
  Calls: the contracts of the callees, and what they w7 the caller.
-/
set_option linter.unusedVariables false
set_option linter.unusedSimpArgs false
set_option linter.unnecessarySimpa false
set_option maxRecDepth 100000
set_option maxHeartbeats 8000000
namespace Go.Ab
section
variable {P:Program} {ns:Names} {G:Gh} {w:World}
def AG (K:aF) (w:World):Prop:=∀b o v,K b o=some v→w.cell? ⟨b,o,none⟩=some v
def zg (p:Nat→Option (Array Value)) (w:World):Prop:=∀b c,p b=some c→∃t z,w.heap[b]?=some (.cells c t z)
def e_ (K:aF) (rs:List PV) (v:Value):Prop:=
 match rs with
 | [r]=>Rel K r v
 | rs=>∃vs:List Value,v=.tuple vs.toArray∧fl K rs vs
def bI (ρ:aX) (G:Gh) (rs:List AV) (v:Value):Prop:=
 match rs with
 | [r]=>ah ρ G r v
 | rs=>∃vs:List Value,v=.tuple vs.toArray∧ae ρ G rs vs
def pw (P:Program) (ns:Names) (f:FuncId) (cv rs:List PV):Prop:=
 ∀(K:aF) (w:World) (vs:List Value),zg ns.hP w→AG K w→fl K cv vs →
   Calls P f vs.toArray w fun e w'=>∃v K',e=.returned v∧e_ K' rs v∧K.le K'∧(∀b o u,b<w.heap.size→K' b o=some u→K b o=some u)∧AG K' w'∧RowKit.Below w.heap.size w w'
def Cb (P:Program) (ns:Names) (f:FuncId) (args:List AV) (ts:al) (rs:List AV) (sh sh':Sh) (ts':al):Prop:=
 ∀(G:Gh) (w:World) (vs:List Value),Inv (num ns) G w [] sh ts→ae (num ns) G args vs →
   Calls P f vs.toArray w fun e w'=>∃v G',e=.returned v∧bI (num ns) G' rs v∧Inv (num ns) G' w' [] sh' ts'∧aN G w G' w'
def w8 (P:Program) (ns:Names) (f sz bytes:Nat):Prop:=
 ∀(o:Option Bool) (G:Gh) (w:World) (mem:List (Nat×List AV)) (sh sh':Sh) (aa toks':al) (x y:AV) (v:Value),Inv (num ns) G w mem sh aa→ah (num ns) G x v→fW o sz bytes x sh aa=some (y,sh',toks') →
   Calls P f #[v] w fun e w'=>∃u G',e=.returned u∧ah (num ns) G' y u∧Inv (num ns) G' w' mem sh' toks'∧G.le G'∧aN G w G' w'
structure ej (P:Program) (ns:Names) (orc:cZ):Prop where
 p:∀g f cv rs,ns.of f=some g→orc.p g cv=some rs→pw P ns f cv rs
 i:∀g f args ts rs sh sh' ts',ns.of f=some g→args.all aY=true→orc.i g args sh ts=some (rs,sh',ts')→Cb P ns f args ts rs sh sh' ts'∧rs.all aY=true
 c:∀g sz bytes f,look ns.cl g=some (sz,bytes)→ns.of f=some g→w8 P ns f sz bytes
def dS (P:Program) (ns:Names):Prop:=∀f g,ns.of f=some g→∃fn b,P.funcs[f]?=some fn∧fn.body=some b∧fn.name ≠ "runtime.NumGoroutine"
theorem gD {f:FuncId} {g:Nat} (hB:dS P ns) (hf:ns.of f=some g) (args:Array Value):(callFunc f args).run P w=.ok (.enter f args) w:=by
 obtain ⟨fn,b,h1,h2,h3⟩:=hB f g hf
 simp [callFunc,h1,h2,h3]
mutual
theorem iE {ρ:aX} {G':Gh} (hK:G.K.le G'.K) (hs:∀s b,G.sm s=some b→G'.sm s=some b):∀{x:AV} {v:Value},a6 x=true→ah ρ G x v→ah ρ G' x v
 | .pv p,_,_,h=>by simp only [ah] at h ⊢;exact h.mono hK
 | .a0 s o,_,_,h=>by simp only [ah] at h ⊢;obtain ⟨b,e,r⟩:=h;exact ⟨b,hs _ _ e,r⟩
 | .aU s _ n _,_,_,h=>by simp only [ah] at h ⊢;obtain ⟨b,c,e,r⟩:=h;exact ⟨b,c,hs _ _ e,r⟩
 | .gm,_,_,h=>by simpa only [ah] using h
 | .dK s,_,_,h=>by simp only [ah] at h ⊢;obtain ⟨b,e,r⟩:=h;exact ⟨b,hs _ _ e,r⟩
 | .kB ..,_,hp,_=>by simp [a6] at hp
 | .cz _,_,_,h=>by simp only [ah] at h
 | .fn g cap,_,hp,h=>by
   simp only [a6] at hp
   simp only [ah] at h ⊢
   obtain ⟨f,vs,e1,e2,r⟩:=h
   exact ⟨f,vs,e1,e2,jO hK hs hp r⟩
 | .un,_,hp,_=>by simp [a6] at hp
 | .cw _,_,_,h=>by simp only [ah] at h ⊢;obtain ⟨b,l,e,r⟩:=h;exact ⟨b,l,e,r.mono hK⟩
 | .own _ _,_,hp,_=>by simp [a6] at hp
 | .agg _,_,hp,h=>by
   simp only [a6] at hp
   simp only [ah] at h ⊢
   obtain ⟨vs,e,r⟩:=h
   exact ⟨vs,e,jO hK hs hp r⟩
 | .j1 _,_,hp,_=>by simp [a6] at hp
 | .bJ _ _,_,hp,_=>by simp [a6] at hp
 | .cj _,_,hp,_=>by simp [a6] at hp
theorem jO {ρ:aX} {G':Gh} (hK:G.K.le G'.K) (hs:∀s b,G.sm s=some b→G'.sm s=some b):∀{xs:List AV} {vs:List Value},a6.gg xs=true→ae ρ G xs vs→ae ρ G' xs vs
 | [],_,_,h=>by simpa only [ae] using h
 | x::xs,_,hp,h=>by
   simp only [a6.gg,Bool.and_eq_true] at hp
   simp only [ae] at h ⊢
   obtain ⟨v,r,e,e1,e2⟩:=h
   exact ⟨v,r,e,iE hK hs hp.1 e1,jO hK hs hp.2 e2⟩
end
theorem Inv.pure {K':aF} {w1:World} {mem:List (Nat×List AV)} {sh:Sh} {aa:al} (hi:Inv (num ns) G w mem sh aa) (hK:G.K.le K') (hold:∀b o u,b<w.heap.size→K' b o=some u→G.K b o=some u)
   (hk:AG K' w1) (hb:RowKit.Below w.heap.size w w1):Inv (num ns) { G with K:=K' } w1 mem sh aa∧G.le { G with K:=K' }∧aN G w { G with K:=K' } w1:=by
 have hle:G.le { G with K:=K' }:=⟨hK,fun _ _ h=>h,fun _ _ h=>h,fun _ t h=>⟨t,h,⟨Nat.le_refl _,t.dO⟩,fun _=>rfl⟩⟩
 have hevo:aN G w { G with K:=K' } w1:={
           size:=hb.size,os:=hb.os,tape:=hb.tape,output:=hb.output,K:=hK,sm:=fun _ _ h=>h,
           b_:=fun b h hr=>⟨hr,hb.block b h⟩,ew:=fun b τ _ hr=>.inr ⟨τ,hr⟩,dP:=fun b o v h _ hkk=>hold b o v h hkk }
 refine ⟨⟨hk,?_,?_,?_,hi.dX,?_,hi.cN,?_,hi.cY,hi.d7 hevo⟩,hle,hevo⟩
 · intro b o v hkk
   by_cases h:b<w.heap.size
   · exact hi.aC b o v (hold b o v h hkk)
   · exact .inl (hi.fresh b (by omega))
 · intro b h;have:=hb.size;exact hi.fresh b (by omega)
 · intro d cs hd
   obtain ⟨b,e1,e2,e3⟩:=hi.bp d cs hd
   have hlt:b<w.heap.size:=by obtain ⟨_,_,_,hh,_⟩:=e2;exact bg hh
   exact ⟨b,e1,e2.mono hle rfl (hb.block b hlt),e3⟩
 · intro s cs hs
   obtain ⟨b,e1,e2,e3⟩:=hi.bD s cs hs
   have hlt:b.1<w.heap.size:=e2.lt
   exact ⟨b,e1,e2.mono hle rfl (hb.block b.1 hlt),e3⟩
 · intro τ n hn
   obtain ⟨t,e1,e2,e3⟩:=hi.bE τ n hn
   refine ⟨t,e1,e2,e3.cap,e3.zero,fun hlt=>?_⟩
   obtain ⟨b,o,c,ty,f1,f2,f3,f4,f5⟩:=e3.spare hlt
   have hlt':=bg f3
   exact ⟨b,o,c,ty,f1,f2,(hb.block b hlt').trans f3,f4,fun j v hkk=>f5 j v (hold b j v hlt' hkk)⟩
end
end Go.Ab
