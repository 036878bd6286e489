import Derived.Test.YtcjggpmnbcfedaaGreatDoorAbOps12
/-
  Calls: the contracts of the callees, and what they Ji the caller.
-/
set_option linter.unusedVariables false
set_option linter.unusedSimpArgs false
set_option linter.unnecessarySimpa false
set_option maxRecDepth 100000
set_option maxHeartbeats 8000000
namespace Go.Ab
section
variable {P:Program} {ns:Names} {G:Gh} {w:World}
def AZ (K:bB) (w:World):Prop:=∀b o v,K b o=some v→w.cell? ⟨b,o,none⟩=some v
def iC (K:bB) (rs:List PV) (v:Value):Prop:=
 match rs with
 | [r]=>Rel K r v
 | rs=>∃vs:List Value,v=.tuple vs.toArray∧jl K rs vs
def dJ (ρ:cr) (G:Gh) (rs:List AV) (v:Value):Prop:=
 match rs with
 | [r]=>au ρ G r v
 | rs=>∃vs:List Value,v=.tuple vs.toArray∧aw ρ G rs vs
def uO (P:Program) (f:FuncId) (dO rs:List PV):Prop:=
 ∀(K:bB) (w:World) (vs:List Value),AZ K w→jl K dO vs →
   Calls P f vs.toArray w fun e w'=>∃v K',e=.returned v∧iC K' rs v∧K.le K'∧(∀b o u,b<w.heap.size→K' b o=some u→K b o=some u)∧AZ K' w'∧RowKit.Below w.heap.size w w'
def Tv (P:Program) (ns:Names) (f:FuncId) (args:List AV) (ts:aH) (rs:List AV) (sh sh':Sh) (ts':aH):Prop:=
 ∀(G:Gh) (w:World) (vs:List Value),Inv (num ns) G w [] sh ts→aw (num ns) G args vs →
   Calls P f vs.toArray w fun e w'=>∃v G',e=.returned v∧dJ (num ns) G' rs v∧Inv (num ns) G' w' [] sh' ts'∧bZ G w G' w'
def Jj (P:Program) (ns:Names) (f sz bytes:Nat):Prop:=
 ∀(o:Option Bool) (G:Gh) (w:World) (mem:List (Nat×List AV)) (sh sh':Sh) (ae toks':aH) (x y:AV) (v:Value),Inv (num ns) G w mem sh ae→au (num ns) G x v→j8 o sz bytes x sh ae=some (y,sh',toks') →
   Calls P f #[v] w fun e w'=>∃u G',e=.returned u∧au (num ns) G' y u∧Inv (num ns) G' w' mem sh' toks'∧G.le G'∧bZ G w G' w'
structure gk (P:Program) (ns:Names) (orc:eu):Prop where
 p:∀g f dO rs,ns.of f=some g→orc.p g dO=some rs→uO P f dO rs
 i:∀g f args ts rs sh sh' ts',ns.of f=some g→args.all cp=true→orc.i g args sh ts=some (rs,sh',ts')→Tv P ns f args ts rs sh sh' ts'∧rs.all cp=true
 c:∀g sz bytes f,look ns.cl g=some (sz,bytes)→ns.of f=some g→Jj P ns f sz bytes
def eI (P:Program) (ns:Names):Prop:=∀f g,ns.of f=some g→∃fn b,P.funcs[f]?=some fn∧fn.body=some b∧fn.name ≠ "runtime.NumGoroutine"
theorem kQ {f:FuncId} {g:Nat} (hB:eI P ns) (hf:ns.of f=some g) (args:Array Value):(callFunc f args).run P w=.ok (.enter f args) w:=by
 obtain ⟨fn,b,h1,h2,h3⟩:=hB f g hf
 simp [callFunc,h1,h2,h3]
mutual
theorem mM {ρ:cr} {G':Gh} (hK:G.K.le G'.K) (hs:∀s b,G.sm s=some b→G'.sm s=some b):∀{x:AV} {v:Value},bV x=true→au ρ G x v→au ρ G' x v
 | .pv p,_,_,h=>by simp only [au] at h ⊢;exact h.mono hK
 | .aZ s o,_,_,h=>by simp only [au] at h ⊢;obtain ⟨b,e,r⟩:=h;exact ⟨b,hs _ _ e,r⟩
 | .bz s _ n _,_,_,h=>by simp only [au] at h ⊢;obtain ⟨b,c,e,r⟩:=h;exact ⟨b,c,hs _ _ e,r⟩
 | .dS,_,_,h=>by simpa only [au] using h
 | .dj s,_,_,h=>by simp only [au] at h ⊢;obtain ⟨b,e,r⟩:=h;exact ⟨b,hs _ _ e,r⟩
 | .nv ..,_,hp,_=>by simp [bV] at hp
 | .dQ _,_,_,h=>by simp only [au] at h
 | .fn g cap,_,hp,h=>by
   simp only [bV] at hp
   simp only [au] at h ⊢
   obtain ⟨f,vs,e1,e2,r⟩:=h
   exact ⟨f,vs,e1,e2,pL hK hs hp r⟩
 | .un,_,hp,_=>by simp [bV] at hp
 | .bJ _,_,_,h=>by simp only [au] at h ⊢;obtain ⟨b,l,e,r⟩:=h;exact ⟨b,l,e,r.mono hK⟩
 | .own _ _,_,hp,_=>by simp [bV] at hp
 | .agg _,_,hp,h=>by
   simp only [bV] at hp
   simp only [au] at h ⊢
   obtain ⟨vs,e,r⟩:=h
   exact ⟨vs,e,pL hK hs hp r⟩
 | .nf _,_,hp,_=>by simp [bV] at hp
 | .aB _ _,_,hp,_=>by simp [bV] at hp
 | .dG _,_,hp,_=>by simp [bV] at hp
theorem pL {ρ:cr} {G':Gh} (hK:G.K.le G'.K) (hs:∀s b,G.sm s=some b→G'.sm s=some b):∀{xs:List AV} {vs:List Value},bV.im xs=true→aw ρ G xs vs→aw ρ G' xs vs
 | [],_,_,h=>by simpa only [aw] using h
 | x::xs,_,hp,h=>by
   simp only [bV.im,Bool.and_eq_true] at hp
   simp only [aw] at h ⊢
   obtain ⟨v,r,e,e1,e2⟩:=h
   exact ⟨v,r,e,mM hK hs hp.1 e1,pL hK hs hp.2 e2⟩
end
theorem Inv.pure {K':bB} {w1:World} {mem:List (Nat×List AV)} {sh:Sh} {ae:aH} (hi:Inv (num ns) G w mem sh ae) (hK:G.K.le K') (hold:∀b o u,b<w.heap.size→K' b o=some u→G.K b o=some u)
   (hk:AZ K' w1) (hb:RowKit.Below w.heap.size w w1):Inv (num ns) { G with K:=K' } w1 mem sh ae∧G.le { G with K:=K' }∧bZ G w { G with K:=K' } w1:=by
 have hle:G.le { G with K:=K' }:=⟨hK,fun _ _ h=>h,fun _ _ h=>h,fun _ t h=>⟨t,h,⟨Nat.le_refl _,t.gZ⟩,fun _=>rfl⟩⟩
 refine ⟨⟨hk,?_,?_,?_,hi.g_,?_,hi.eR,?_,hi.fo⟩,hle,?_⟩
 · intro b o v hkk
   by_cases h:b<w.heap.size
   · exact hi.bt b o v (hold b o v h hkk)
   · exact .inl (hi.fresh b (by omega))
 · intro b h;have:=hb.size;exact hi.fresh b (by omega)
 · intro d cs hd
   obtain ⟨b,e1,e2,e3⟩:=hi.cW d cs hd
   have hlt:b<w.heap.size:=by obtain ⟨_,_,_,hh,_⟩:=e2;exact cT hh
   exact ⟨b,e1,e2.mono hle rfl (hb.block b hlt),e3⟩
 · intro s cs hs
   obtain ⟨b,e1,e2,e3⟩:=hi.dp s cs hs
   have hlt:b.1<w.heap.size:=e2.lt
   exact ⟨b,e1,e2.mono hle rfl (hb.block b.1 hlt),e3⟩
 · intro τ n hn
   obtain ⟨t,e1,e2,e3⟩:=hi.di τ n hn
   refine ⟨t,e1,e2,e3.cap,e3.zero,fun hlt=>?_⟩
   obtain ⟨b,o,c,ty,f1,f2,f3,f4,f5⟩:=e3.spare hlt
   have hlt':=cT f3
   exact ⟨b,o,c,ty,f1,f2,(hb.block b hlt').trans f3,f4,fun j v hkk=>f5 j v (hold b j v hlt' hkk)⟩
 · exact { size:=hb.size,os:=hb.os,tape:=hb.tape,output:=hb.output,K:=hK,sm:=fun _ _ h=>h,
           d_:=fun b h hr=>⟨hr,hb.block b h⟩,iT:=fun b τ _ hr=>.inr ⟨τ,hr⟩,hH:=fun b o v h _ hkk=>hold b o v h hkk }
end
end Go.Ab
