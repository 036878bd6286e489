import Derived.Test.YtfhhognolpjikaaGreatAbOps12
/-
  Calls: the contracts of the callees, and what they Gb the caller.
-/
set_option linter.unusedVariables false
set_option linter.unusedSimpArgs false
set_option maxRecDepth 100000
set_option maxHeartbeats 8000000
namespace Go.Ab
section
variable {P:Program} {ns:Names} {G:Gh} {w:World}
def Qd (K:bM) (w:World):Prop:=∀b o v,K b o=some v→w.cell? ⟨b,o,none⟩=some v
def kC (K:bM) (rs:List PV) (v:Value):Prop:=
 match rs with
 | [r]=>Rel K r v
 | rs=>∃vs:List Value,v=.tuple vs.toArray∧jo K rs vs
def dk (ρ:cg) (G:Gh) (rs:List AV) (v:Value):Prop:=
 match rs with
 | [r]=>aE ρ G r v
 | rs=>∃vs:List Value,v=.tuple vs.toArray∧aB ρ G rs vs
def LI (P:Program) (f:FuncId) (dE rs:List PV):Prop:=
 ∀(K:bM) (w:World) (vs:List Value),Qd K w→jo K dE vs →
   Calls P f vs.toArray w fun e w'=>∃v K',e=.returned v∧kC K' rs v∧K.le K'∧(∀b o u,b<w.heap.size→K' b o=some u→K b o=some u)∧Qd K' w'∧RowKit.Below w.heap.size w w'
def Qr (P:Program) (ns:Names) (f:FuncId) (args:List AV) (ts:aM) (rs:List AV) (sh sh':Sh) (ts':aM):Prop:=
 ∀(G:Gh) (w:World) (vs:List Value),Inv (num ns) G w [] sh ts→aB (num ns) G args vs →
   Calls P f vs.toArray w fun e w'=>∃v G',e=.returned v∧dk (num ns) G' rs v∧Inv (num ns) G' w' [] sh' ts'∧cu G w G' w'
def Gc (P:Program) (ns:Names) (f sz bytes:Nat):Prop:=
 ∀(G:Gh) (w:World) (mem:List (Nat×List AV)) (sh:Sh) (ah toks':aM) (x y:AV) (v:Value),Inv (num ns) G w mem sh ah→aE (num ns) G x v→cq sz bytes (.bD []) x ah=some (y,toks') →
   Calls P f #[v] w fun e w'=>∃u G',e=.returned u∧aE (num ns) G' y u∧Inv (num ns) G' w' mem sh toks'∧G.le G'∧cu G w G' w'
structure jc (P:Program) (ns:Names) (orc:eM):Prop where
 p:∀g f dE rs,ns.of f=some g→orc.p g dE=some rs→LI P f dE rs
 i:∀g f args ts rs sh sh' ts',ns.of f=some g→args.all ca=true→orc.i g args sh ts=some (rs,sh',ts')→Qr P ns f args ts rs sh sh' ts'∧rs.all ca=true
 c:∀g sz bytes f,look ns.cl g=some (sz,bytes)→ns.of f=some g→Gc P ns f sz bytes
def gQ (P:Program) (ns:Names):Prop:=∀f g,ns.of f=some g→∃fn b,P.funcs[f]?=some fn∧fn.body=some b∧fn.name ≠ "runtime.NumGoroutine"
theorem jN {f:FuncId} {g:Nat} (hB:gQ P ns) (hf:ns.of f=some g) (args:Array Value):(callFunc f args).run P w=.ok (.enter f args) w:=by
 obtain ⟨fn,b,h1,h2,h3⟩:=hB f g hf
 simp [callFunc,h1,h2,h3]
mutual
theorem lp {ρ:cg} {G':Gh} (hK:G.K.le G'.K) (hs:∀s b,G.sm s=some b→G'.sm s=some b):∀{x:AV} {v:Value},bQ x=true→aE ρ G x v→aE ρ G' x v
 | .pv p,_,_,h=>by simp only [aE] at h ⊢;exact h.mono hK
 | .a_ s o,_,_,h=>by simp only [aE] at h ⊢;obtain ⟨b,e,r⟩:=h;exact ⟨b,hs _ _ e,r⟩
 | .bu s _ n _,_,_,h=>by simp only [aE] at h ⊢;obtain ⟨b,c,e,r⟩:=h;exact ⟨b,c,hs _ _ e,r⟩
 | .dw,_,_,h=>by simpa only [aE] using h
 | .cv s,_,_,h=>by simp only [aE] at h ⊢;obtain ⟨b,e,r⟩:=h;exact ⟨b,hs _ _ e,r⟩
 | .lZ ..,_,hp,_=>by simp [bQ] at hp
 | .du _,_,_,h=>by simp only [aE] at h
 | .fn g cap,_,hp,h=>by
   simp only [bQ] at hp
   simp only [aE] at h ⊢
   obtain ⟨f,vs,e1,e2,r⟩:=h
   exact ⟨f,vs,e1,e2,nY hK hs hp r⟩
 | .un,_,hp,_=>by simp [bQ] at hp
 | .bD _,_,_,h=>by simp only [aE] at h ⊢;obtain ⟨b,l,e,r⟩:=h;exact ⟨b,l,e,r.mono hK⟩
 | .own _ _,_,hp,_=>by simp [bQ] at hp
 | .agg _,_,hp,h=>by
   simp only [bQ] at hp
   simp only [aE] at h ⊢
   obtain ⟨vs,e,r⟩:=h
   exact ⟨vs,e,nY hK hs hp r⟩
 | .lL _,_,hp,_=>by simp [bQ] at hp
 | .az _ _,_,hp,_=>by simp [bQ] at hp
 | .dz _,_,hp,_=>by simp [bQ] at hp
theorem nY {ρ:cg} {G':Gh} (hK:G.K.le G'.K) (hs:∀s b,G.sm s=some b→G'.sm s=some b):∀{xs:List AV} {vs:List Value},bQ.gG xs=true→aB ρ G xs vs→aB ρ G' xs vs
 | [],_,_,h=>by simpa only [aB] using h
 | x::xs,_,hp,h=>by
   simp only [bQ.gG,Bool.and_eq_true] at hp
   simp only [aB] at h ⊢
   obtain ⟨v,r,e,e1,e2⟩:=h
   exact ⟨v,r,e,lp hK hs hp.1 e1,nY hK hs hp.2 e2⟩
end
theorem Inv.pure {K':bM} {w1:World} {mem:List (Nat×List AV)} {sh:Sh} {ah:aM} (hi:Inv (num ns) G w mem sh ah) (hK:G.K.le K') (hold:∀b o u,b<w.heap.size→K' b o=some u→G.K b o=some u)
   (hk:Qd K' w1) (hb:RowKit.Below w.heap.size w w1):Inv (num ns) { G with K:=K' } w1 mem sh ah∧G.le { G with K:=K' }∧cu G w { G with K:=K' } w1:=by
 have hle:G.le { G with K:=K' }:=⟨hK,fun _ _ h=>h,fun _ _ h=>h,fun _ t h=>⟨t,h,Nat.le_refl _,fun _=>rfl⟩⟩
 refine ⟨⟨hk,?_,?_,?_,hi.gN,?_,hi.eZ,?_,hi.e8⟩,hle,?_⟩
 · intro b o v hkk
   by_cases h:b<w.heap.size
   · exact hi.bt b o v (hold b o v h hkk)
   · exact .inl (hi.fresh b (by omega))
 · intro b h;have:=hb.size;exact hi.fresh b (by omega)
 · intro d cs hd
   obtain ⟨b,e1,e2,e3⟩:=hi.da d cs hd
   have hlt:b<w.heap.size:=by obtain ⟨_,_,_,hh,_⟩:=e2;exact cM hh
   exact ⟨b,e1,e2.mono hle rfl (hb.block b hlt),e3⟩
 · intro s cs hs
   obtain ⟨b,e1,e2,e3⟩:=hi.dN s cs hs
   have hlt:b.1<w.heap.size:=e2.lt
   exact ⟨b,e1,e2.mono hle rfl (hb.block b.1 hlt),e3⟩
 · intro τ n hn
   obtain ⟨t,e1,e2,e3⟩:=hi.dp τ n hn
   refine ⟨t,e1,e2,e3.cap,e3.zero,fun hlt=>?_⟩
   obtain ⟨b,o,c,ty,f1,f2,f3,f4,f5⟩:=e3.spare hlt
   have hlt':=cM f3
   exact ⟨b,o,c,ty,f1,f2,(hb.block b hlt').trans f3,f4,fun j v hkk=>f5 j v (hold b j v hlt' hkk)⟩
 · exact { size:=hb.size,os:=hb.os,tape:=hb.tape,output:=hb.output,K:=hK,sm:=fun _ _ h=>h,
           dV:=fun b h hr=>⟨hr,hb.block b h⟩,ir:=fun b τ _ hr=>.inr ⟨τ,hr⟩,gB:=fun b o v h _ hkk=>hold b o v h hkk }
end
end Go.Ab
