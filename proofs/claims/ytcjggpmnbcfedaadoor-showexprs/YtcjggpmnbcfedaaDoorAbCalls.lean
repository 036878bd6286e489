import Derived.Test.YtcjggpmnbcfedaaDoorAbOps12
/-
  Calls: the contracts of the callees, and what they zX the caller.
-/
set_option linter.unusedVariables false
set_option linter.unusedSimpArgs false
set_option maxRecDepth 100000
set_option maxHeartbeats 8000000
namespace Go.Ab
section
variable {P:Program} {ns:Names} {G:Gh} {w:World}
def DX (K:aU) (w:World):Prop:=∀b o v,K b o=some v→w.cell? ⟨b,o,none⟩=some v
def fR (K:aU) (rs:List PV) (v:Value):Prop:=
 match rs with
 | [r]=>Rel K r v
 | rs=>∃vs:List Value,v=.tuple vs.toArray∧ga K rs vs
def cr (ρ:bw) (G:Gh) (rs:List AV) (v:Value):Prop:=
 match rs with
 | [r]=>al ρ G r v
 | rs=>∃vs:List Value,v=.tuple vs.toArray∧ae ρ G rs vs
def qm (P:Program) (f:FuncId) (cd rs:List PV):Prop:=
 ∀(K:aU) (w:World) (vs:List Value),DX K w→ga K cd vs →
   Calls P f vs.toArray w fun e w'=>∃v K',e=.returned v∧fR K' rs v∧K.le K'∧(∀b o u,b<w.heap.size→K' b o=some u→K b o=some u)∧DX K' w'∧RowKit.Below w.heap.size w w'
def F1 (P:Program) (ns:Names) (f:FuncId) (args:List AV) (ts:au) (rs:List AV) (sh sh':Sh) (ts':au):Prop:=
 ∀(G:Gh) (w:World) (vs:List Value),Inv (num ns) G w [] sh ts→ae (num ns) G args vs →
   Calls P f vs.toArray w fun e w'=>∃v G',e=.returned v∧cr (num ns) G' rs v∧Inv (num ns) G' w' [] sh' ts'∧bz G w G' w'
def zY (P:Program) (ns:Names) (f sz bytes:Nat):Prop:=
 ∀(G:Gh) (w:World) (mem:List (Nat×List AV)) (sh:Sh) (aa toks':au) (x y:AV) (v:Value),Inv (num ns) G w mem sh aa→al (num ns) G x v→bB sz bytes (.cg []) x aa=some (y,toks') →
   Calls P f #[v] w fun e w'=>∃u G',e=.returned u∧al (num ns) G' y u∧Inv (num ns) G' w' mem sh toks'∧G.le G'∧bz G w G' w'
structure gu (P:Program) (ns:Names) (orc:dC):Prop where
 p:∀g f cd rs,ns.of f=some g→orc.p g cd=some rs→qm P f cd rs
 i:∀g f args ts rs sh sh' ts',ns.of f=some g→args.all bp=true→orc.i g args sh ts=some (rs,sh',ts')→F1 P ns f args ts rs sh sh' ts'∧rs.all bp=true
 c:∀g sz bytes f,look ns.cl g=some (sz,bytes)→ns.of f=some g→zY P ns f sz bytes
def eQ (P:Program) (ns:Names):Prop:=∀f g,ns.of f=some g→∃fn b,P.funcs[f]?=some fn∧fn.body=some b∧fn.name ≠ "runtime.NumGoroutine"
theorem g_ {f:FuncId} {g:Nat} (hB:eQ P ns) (hf:ns.of f=some g) (args:Array Value):(callFunc f args).run P w=.ok (.enter f args) w:=by
 obtain ⟨fn,b,h1,h2,h3⟩:=hB f g hf
 simp [callFunc,h1,h2,h3]
mutual
theorem iZ {ρ:bw} {G':Gh} (hK:G.K.le G'.K) (hs:∀s b,G.sm s=some b→G'.sm s=some b):∀{x:AV} {v:Value},ba x=true→al ρ G x v→al ρ G' x v
 | .pv p,_,_,h=>by simp only [al] at h ⊢;exact h.mono hK
 | .aT s o,_,_,h=>by simp only [al] at h ⊢;obtain ⟨b,e,r⟩:=h;exact ⟨b,hs _ _ e,r⟩
 | .bh s _ n _,_,_,h=>by simp only [al] at h ⊢;obtain ⟨b,c,e,r⟩:=h;exact ⟨b,c,hs _ _ e,r⟩
 | .cz,_,_,h=>by simpa only [al] using h
 | .bY s,_,_,h=>by simp only [al] at h ⊢;obtain ⟨b,e,r⟩:=h;exact ⟨b,hs _ _ e,r⟩
 | .jn ..,_,hp,_=>by simp [ba] at hp
 | .cN _,_,_,h=>by simp only [al] at h
 | .fn g cap,_,hp,h=>by
   simp only [ba] at hp
   simp only [al] at h ⊢
   obtain ⟨f,vs,e1,e2,r⟩:=h
   exact ⟨f,vs,e1,e2,kB hK hs hp r⟩
 | .un,_,hp,_=>by simp [ba] at hp
 | .cg _,_,_,h=>by simp only [al] at h ⊢;obtain ⟨b,l,e,r⟩:=h;exact ⟨b,l,e,r.mono hK⟩
 | .own _ _,_,hp,_=>by simp [ba] at hp
 | .agg _,_,hp,h=>by
   simp only [ba] at hp
   simp only [al] at h ⊢
   obtain ⟨vs,e,r⟩:=h
   exact ⟨vs,e,kB hK hs hp r⟩
 | .jg _,_,hp,_=>by simp [ba] at hp
 | .bt _ _,_,hp,_=>by simp [ba] at hp
 | .cC _,_,hp,_=>by simp [ba] at hp
theorem kB {ρ:bw} {G':Gh} (hK:G.K.le G'.K) (hs:∀s b,G.sm s=some b→G'.sm s=some b):∀{xs:List AV} {vs:List Value},ba.eG xs=true→ae ρ G xs vs→ae ρ G' xs vs
 | [],_,_,h=>by simpa only [ae] using h
 | x::xs,_,hp,h=>by
   simp only [ba.eG,Bool.and_eq_true] at hp
   simp only [ae] at h ⊢
   obtain ⟨v,r,e,e1,e2⟩:=h
   exact ⟨v,r,e,iZ hK hs hp.1 e1,kB hK hs hp.2 e2⟩
end
theorem Inv.pure {K':aU} {w1:World} {mem:List (Nat×List AV)} {sh:Sh} {aa:au} (hi:Inv (num ns) G w mem sh aa) (hK:G.K.le K') (hold:∀b o u,b<w.heap.size→K' b o=some u→G.K b o=some u)
   (hk:DX K' w1) (hb:RowKit.Below w.heap.size w w1):Inv (num ns) { G with K:=K' } w1 mem sh aa∧G.le { G with K:=K' }∧bz G w { G with K:=K' } w1:=by
 have hle:G.le { G with K:=K' }:=⟨hK,fun _ _ h=>h,fun _ _ h=>h,fun _ t h=>⟨t,h,⟨Nat.le_refl _,t.ew⟩,fun _=>rfl⟩⟩
 refine ⟨⟨hk,?_,?_,?_,hi.eN,?_,hi.dT,?_,hi.dL⟩,hle,?_⟩
 · intro b o v hkk
   by_cases h:b<w.heap.size
   · exact hi.aM b o v (hold b o v h hkk)
   · exact .inl (hi.fresh b (by omega))
 · intro b h;have:=hb.size;exact hi.fresh b (by omega)
 · intro d cs hd
   obtain ⟨b,e1,e2,e3⟩:=hi.bZ d cs hd
   have hlt:b<w.heap.size:=by obtain ⟨_,_,_,hh,_⟩:=e2;exact bO hh
   exact ⟨b,e1,e2.mono hle rfl (hb.block b hlt),e3⟩
 · intro s cs hs
   obtain ⟨b,e1,e2,e3⟩:=hi.cL s cs hs
   have hlt:b.1<w.heap.size:=e2.lt
   exact ⟨b,e1,e2.mono hle rfl (hb.block b.1 hlt),e3⟩
 · intro τ n hn
   obtain ⟨t,e1,e2,e3⟩:=hi.cn τ n hn
   refine ⟨t,e1,e2,e3.cap,e3.zero,fun hlt=>?_⟩
   obtain ⟨b,o,c,ty,f1,f2,f3,f4,f5⟩:=e3.spare hlt
   have hlt':=bO f3
   exact ⟨b,o,c,ty,f1,f2,(hb.block b hlt').trans f3,f4,fun j v hkk=>f5 j v (hold b j v hlt' hkk)⟩
 · exact { size:=hb.size,os:=hb.os,tape:=hb.tape,output:=hb.output,K:=hK,sm:=fun _ _ h=>h,
           cX:=fun b h hr=>⟨hr,hb.block b h⟩,fe:=fun b τ _ hr=>.inr ⟨τ,hr⟩,eE:=fun b o v h _ hkk=>hold b o v h hkk }
end
end Go.Ab
