import Derived.Test.YtfhhognolpjikaaGreatAbOps12
/-
  Calls: the contracts of the callees, and what they Gq the caller.
-/
set_option linter.unusedVariables false
set_option linter.unusedSimpArgs false
set_option maxRecDepth 100000
set_option maxHeartbeats 8000000
namespace Go.Ab
section
variable {P:Program} {ns:Names} {G:Gh} {w:World}
def Ql (K:bF) (w:World):Prop:=∀b o v,K b o=some v→w.cell? ⟨b,o,none⟩=some v
def ky (K:bF) (rs:List PV) (v:Value):Prop:=
 match rs with
 | [r]=>Rel K r v
 | rs=>∃vs:List Value,v=.tuple vs.toArray∧jk K rs vs
def dc (ρ:ca) (G:Gh) (rs:List AV) (v:Value):Prop:=
 match rs with
 | [r]=>aC ρ G r v
 | rs=>∃vs:List Value,v=.tuple vs.toArray∧aA ρ G rs vs
def L0 (P:Program) (f:FuncId) (dt rs:List PV):Prop:=
 ∀(K:bF) (w:World) (vs:List Value),Ql K w→jk K dt vs →
   Calls P f vs.toArray w fun e w'=>∃v K',e=.returned v∧ky K' rs v∧K.le K'∧(∀b o u,b<w.heap.size→K' b o=some u→K b o=some u)∧Ql K' w'∧RowKit.Below w.heap.size w w'
def QA (P:Program) (ns:Names) (f:FuncId) (args:List AV) (ts:aL) (rs:List AV) (sh sh':Sh) (ts':aL):Prop:=
 ∀(G:Gh) (w:World) (vs:List Value),Inv (num ns) G w [] sh ts→aA (num ns) G args vs →
   Calls P f vs.toArray w fun e w'=>∃v G',e=.returned v∧dc (num ns) G' rs v∧Inv (num ns) G' w' [] sh' ts'∧cm G w G' w'
def Gr (P:Program) (ns:Names) (f sz bytes:Nat):Prop:=
 ∀(G:Gh) (w:World) (mem:List (Nat×List AV)) (sh:Sh) (ah toks':aL) (x y:AV) (v:Value),Inv (num ns) G w mem sh ah→aC (num ns) G x v→cg sz bytes (.bB []) x ah=some (y,toks') →
   Calls P f #[v] w fun e w'=>∃u G',e=.returned u∧aC (num ns) G' y u∧Inv (num ns) G' w' mem sh toks'∧G.le G'∧cm G w G' w'
structure i6 (P:Program) (ns:Names) (orc:eI):Prop where
 p:∀g f dt rs,ns.of f=some g→orc.p g dt=some rs→L0 P f dt rs
 i:∀g f args ts rs sh sh' ts',ns.of f=some g→args.all bX=true→orc.i g args sh ts=some (rs,sh',ts')→QA P ns f args ts rs sh sh' ts'∧rs.all bX=true
 c:∀g sz bytes f,look ns.cl g=some (sz,bytes)→ns.of f=some g→Gr P ns f sz bytes
def gO (P:Program) (ns:Names):Prop:=∀f g,ns.of f=some g→∃fn b,P.funcs[f]?=some fn∧fn.body=some b∧fn.name ≠ "runtime.NumGoroutine"
theorem jI {f:FuncId} {g:Nat} (hB:gO P ns) (hf:ns.of f=some g) (args:Array Value):(callFunc f args).run P w=.ok (.enter f args) w:=by
 obtain ⟨fn,b,h1,h2,h3⟩:=hB f g hf
 simp [callFunc,h1,h2,h3]
mutual
theorem lb {ρ:ca} {G':Gh} (hK:G.K.le G'.K) (hs:∀s b,G.sm s=some b→G'.sm s=some b):∀{x:AV} {v:Value},bO x=true→aC ρ G x v→aC ρ G' x v
 | .pv p,_,_,h=>by simp only [aC] at h ⊢;exact h.mono hK
 | .aX s o,_,_,h=>by simp only [aC] at h ⊢;obtain ⟨b,e,r⟩:=h;exact ⟨b,hs _ _ e,r⟩
 | .bq s _ n _,_,_,h=>by simp only [aC] at h ⊢;obtain ⟨b,c,e,r⟩:=h;exact ⟨b,c,hs _ _ e,r⟩
 | .dk,_,_,h=>by simpa only [aC] using h
 | .cp s,_,_,h=>by simp only [aC] at h ⊢;obtain ⟨b,e,r⟩:=h;exact ⟨b,hs _ _ e,r⟩
 | .lH ..,_,hp,_=>by simp [bO] at hp
 | .dj _,_,_,h=>by simp only [aC] at h
 | .fn g cap,_,hp,h=>by
   simp only [bO] at hp
   simp only [aC] at h ⊢
   obtain ⟨f,vs,e1,e2,r⟩:=h
   exact ⟨f,vs,e1,e2,nK hK hs hp r⟩
 | .un,_,hp,_=>by simp [bO] at hp
 | .bB _,_,_,h=>by simp only [aC] at h ⊢;obtain ⟨b,l,e,r⟩:=h;exact ⟨b,l,e,r.mono hK⟩
 | .own _ _,_,hp,_=>by simp [bO] at hp
 | .agg _,_,hp,h=>by
   simp only [bO] at hp
   simp only [aC] at h ⊢
   obtain ⟨vs,e,r⟩:=h
   exact ⟨vs,e,nK hK hs hp r⟩
 | .lI _,_,hp,_=>by simp [bO] at hp
 | .az _ _,_,hp,_=>by simp [bO] at hp
 | .dm _,_,hp,_=>by simp [bO] at hp
theorem nK {ρ:ca} {G':Gh} (hK:G.K.le G'.K) (hs:∀s b,G.sm s=some b→G'.sm s=some b):∀{xs:List AV} {vs:List Value},bO.gD xs=true→aA ρ G xs vs→aA ρ G' xs vs
 | [],_,_,h=>by simpa only [aA] using h
 | x::xs,_,hp,h=>by
   simp only [bO.gD,Bool.and_eq_true] at hp
   simp only [aA] at h ⊢
   obtain ⟨v,r,e,e1,e2⟩:=h
   exact ⟨v,r,e,lb hK hs hp.1 e1,nK hK hs hp.2 e2⟩
end
theorem Inv.pure {K':bF} {w1:World} {mem:List (Nat×List AV)} {sh:Sh} {ah:aL} (hi:Inv (num ns) G w mem sh ah) (hK:G.K.le K') (hold:∀b o u,b<w.heap.size→K' b o=some u→G.K b o=some u)
   (hk:Ql K' w1) (hb:RowKit.Below w.heap.size w w1):Inv (num ns) { G with K:=K' } w1 mem sh ah∧G.le { G with K:=K' }∧cm G w { G with K:=K' } w1:=by
 have hle:G.le { G with K:=K' }:=⟨hK,fun _ _ h=>h,fun _ _ h=>h,fun _ t h=>⟨t,h,Nat.le_refl _,fun _=>rfl⟩⟩
 refine ⟨⟨hk,?_,?_,?_,hi.gL,?_,hi.eY,?_,hi.eZ⟩,hle,?_⟩
 · intro b o v hkk
   by_cases h:b<w.heap.size
   · exact hi.bo b o v (hold b o v h hkk)
   · exact .inl (hi.fresh b (by omega))
 · intro b h;have:=hb.size;exact hi.fresh b (by omega)
 · intro d cs hd
   obtain ⟨b,e1,e2,e3⟩:=hi.cS d cs hd
   have hlt:b<w.heap.size:=by obtain ⟨_,_,_,hh,_⟩:=e2;exact cE hh
   exact ⟨b,e1,e2.mono hle rfl (hb.block b hlt),e3⟩
 · intro s cs hs
   obtain ⟨b,e1,e2,e3⟩:=hi.dE s cs hs
   have hlt:b.1<w.heap.size:=e2.lt
   exact ⟨b,e1,e2.mono hle rfl (hb.block b.1 hlt),e3⟩
 · intro τ n hn
   obtain ⟨t,e1,e2,e3⟩:=hi.dg τ n hn
   refine ⟨t,e1,e2,e3.cap,e3.zero,fun hlt=>?_⟩
   obtain ⟨b,o,c,ty,f1,f2,f3,f4,f5⟩:=e3.spare hlt
   have hlt':=cE f3
   exact ⟨b,o,c,ty,f1,f2,(hb.block b hlt').trans f3,f4,fun j v hkk=>f5 j v (hold b j v hlt' hkk)⟩
 · exact { size:=hb.size,os:=hb.os,tape:=hb.tape,output:=hb.output,K:=hK,sm:=fun _ _ h=>h,
           dO:=fun b h hr=>⟨hr,hb.block b h⟩,ik:=fun b τ _ hr=>.inr ⟨τ,hr⟩,gr:=fun b o v h _ hkk=>hold b o v h hkk }
end
end Go.Ab
