import Derived.Test.YtfhhognolpjikaaAbOps12
/-
  Calls: the contracts of the callees, and what they AX the caller.
-/
set_option linter.unusedVariables false
set_option linter.unusedSimpArgs false
set_option maxRecDepth 100000
set_option maxHeartbeats 8000000
namespace Go.Ab
section
variable {P:Program} {ns:Names} {G:Gh} {w:World}
def HM (K:bf) (w:World):Prop:=∀b o v,K b o=some v→w.cell? ⟨b,o,none⟩=some v
def i7 (K:bf) (rs:List PV) (v:Value):Prop:=
 match rs with
 | [r]=>Rel K r v
 | rs=>∃vs:List Value,v=.tuple vs.toArray∧hZ K rs vs
def cv (ρ:bI) (G:Gh) (rs:List AV) (v:Value):Prop:=
 match rs with
 | [r]=>aq ρ G r v
 | rs=>∃vs:List Value,v=.tuple vs.toArray∧al ρ G rs vs
def EV (P:Program) (f:FuncId) (cU rs:List PV):Prop:=
 ∀(K:bf) (w:World) (vs:List Value),HM K w→hZ K cU vs →
   Calls P f vs.toArray w fun e w'=>∃v K',e=.returned v∧i7 K' rs v∧K.le K'∧(∀b o u,b<w.heap.size→K' b o=some u→K b o=some u)∧HM K' w'∧RowKit.Below w.heap.size w w'
def HW (P:Program) (ns:Names) (f:FuncId) (args:List AV) (ts:au) (rs:List AV) (sh sh':Sh) (ts':au):Prop:=
 ∀(G:Gh) (w:World) (vs:List Value),Inv (num ns) G w [] sh ts→al (num ns) G args vs →
   Calls P f vs.toArray w fun e w'=>∃v G',e=.returned v∧cv (num ns) G' rs v∧Inv (num ns) G' w' [] sh' ts'∧bJ G w G' w'
def AY (P:Program) (ns:Names) (f sz bytes:Nat):Prop:=
 ∀(G:Gh) (w:World) (mem:List (Nat×List AV)) (sh:Sh) (aa toks':au) (x y:AV) (v:Value),Inv (num ns) G w mem sh aa→aq (num ns) G x v→bL sz bytes (.bR []) x aa=some (y,toks') →
   Calls P f #[v] w fun e w'=>∃u G',e=.returned u∧aq (num ns) G' y u∧Inv (num ns) G' w' mem sh toks'∧G.le G'∧bJ G w G' w'
structure gV (P:Program) (ns:Names) (orc:d0):Prop where
 p:∀g f cU rs,ns.of f=some g→orc.p g cU=some rs→EV P f cU rs
 i:∀g f args ts rs sh sh' ts',ns.of f=some g→args.all bD=true→orc.i g args sh ts=some (rs,sh',ts')→HW P ns f args ts rs sh sh' ts'∧rs.all bD=true
 c:∀g sz bytes f,look ns.cl g=some (sz,bytes)→ns.of f=some g→AY P ns f sz bytes
def fu (P:Program) (ns:Names):Prop:=∀f g,ns.of f=some g→∃fn b,P.funcs[f]?=some fn∧fn.body=some b∧fn.name ≠ "runtime.NumGoroutine"
theorem iB {f:FuncId} {g:Nat} (hB:fu P ns) (hf:ns.of f=some g) (args:Array Value):(callFunc f args).run P w=.ok (.enter f args) w:=by
 obtain ⟨fn,b,h1,h2,h3⟩:=hB f g hf
 simp [callFunc,h1,h2,h3]
mutual
theorem jt {ρ:bI} {G':Gh} (hK:G.K.le G'.K) (hs:∀s b,G.sm s=some b→G'.sm s=some b):∀{x:AV} {v:Value},br x=true→aq ρ G x v→aq ρ G' x v
 | .pv p,_,_,h=>by simp only [aq] at h ⊢;exact h.mono hK
 | .ba s o,_,_,h=>by simp only [aq] at h ⊢;obtain ⟨b,e,r⟩:=h;exact ⟨b,hs _ _ e,r⟩
 | .bd s _ n _,_,_,h=>by simp only [aq] at h ⊢;obtain ⟨b,c,e,r⟩:=h;exact ⟨b,c,hs _ _ e,r⟩
 | .cM,_,_,h=>by simpa only [aq] using h
 | .ck s,_,_,h=>by simp only [aq] at h ⊢;obtain ⟨b,e,r⟩:=h;exact ⟨b,hs _ _ e,r⟩
 | .jS ..,_,hp,_=>by simp [br] at hp
 | .da _,_,_,h=>by simp only [aq] at h
 | .fn g cap,_,hp,h=>by
   simp only [br] at hp
   simp only [aq] at h ⊢
   obtain ⟨f,vs,e1,e2,r⟩:=h
   exact ⟨f,vs,e1,e2,lb hK hs hp r⟩
 | .un,_,hp,_=>by simp [br] at hp
 | .bR _,_,_,h=>by simp only [aq] at h ⊢;obtain ⟨b,l,e,r⟩:=h;exact ⟨b,l,e,r.mono hK⟩
 | .own _ _,_,hp,_=>by simp [br] at hp
 | .agg _,_,hp,h=>by
   simp only [br] at hp
   simp only [aq] at h ⊢
   obtain ⟨vs,e,r⟩:=h
   exact ⟨vs,e,lb hK hs hp r⟩
 | .jH _,_,hp,_=>by simp [br] at hp
 | .aT _ _,_,hp,_=>by simp [br] at hp
 | .cQ _,_,hp,_=>by simp [br] at hp
theorem lb {ρ:bI} {G':Gh} (hK:G.K.le G'.K) (hs:∀s b,G.sm s=some b→G'.sm s=some b):∀{xs:List AV} {vs:List Value},br.fb xs=true→al ρ G xs vs→al ρ G' xs vs
 | [],_,_,h=>by simpa only [al] using h
 | x::xs,_,hp,h=>by
   simp only [br.fb,Bool.and_eq_true] at hp
   simp only [al] at h ⊢
   obtain ⟨v,r,e,e1,e2⟩:=h
   exact ⟨v,r,e,jt hK hs hp.1 e1,lb hK hs hp.2 e2⟩
end
theorem Inv.pure {K':bf} {w1:World} {mem:List (Nat×List AV)} {sh:Sh} {aa:au} (hi:Inv (num ns) G w mem sh aa) (hK:G.K.le K') (hold:∀b o u,b<w.heap.size→K' b o=some u→G.K b o=some u)
   (hk:HM K' w1) (hb:RowKit.Below w.heap.size w w1):Inv (num ns) { G with K:=K' } w1 mem sh aa∧G.le { G with K:=K' }∧bJ G w { G with K:=K' } w1:=by
 have hle:G.le { G with K:=K' }:=⟨hK,fun _ _ h=>h,fun _ _ h=>h,fun _ t h=>⟨t,h,⟨Nat.le_refl _,t.eX⟩,fun _=>rfl⟩⟩
 refine ⟨⟨hk,?_,?_,?_,hi.fp,?_,hi.ek,?_,hi.d_⟩,hle,?_⟩
 · intro b o v hkk
   by_cases h:b<w.heap.size
   · exact hi.aY b o v (hold b o v h hkk)
   · exact .inl (hi.fresh b (by omega))
 · intro b h;have:=hb.size;exact hi.fresh b (by omega)
 · intro d cs hd
   obtain ⟨b,e1,e2,e3⟩:=hi.cm d cs hd
   have hlt:b<w.heap.size:=by obtain ⟨_,_,_,hh,_⟩:=e2;exact bV hh
   exact ⟨b,e1,e2.mono hle rfl (hb.block b hlt),e3⟩
 · intro s cs hs
   obtain ⟨b,e1,e2,e3⟩:=hi.cY s cs hs
   have hlt:b.1<w.heap.size:=e2.lt
   exact ⟨b,e1,e2.mono hle rfl (hb.block b.1 hlt),e3⟩
 · intro τ n hn
   obtain ⟨t,e1,e2,e3⟩:=hi.ct τ n hn
   refine ⟨t,e1,e2,e3.cap,e3.zero,fun hlt=>?_⟩
   obtain ⟨b,o,c,ty,f1,f2,f3,f4,f5⟩:=e3.spare hlt
   have hlt':=bV f3
   exact ⟨b,o,c,ty,f1,f2,(hb.block b hlt').trans f3,f4,fun j v hkk=>f5 j v (hold b j v hlt' hkk)⟩
 · exact { size:=hb.size,os:=hb.os,tape:=hb.tape,output:=hb.output,K:=hK,sm:=fun _ _ h=>h,
           dp:=fun b h hr=>⟨hr,hb.block b h⟩,ga:=fun b τ _ hr=>.inr ⟨τ,hr⟩,e_:=fun b o v h _ hkk=>hold b o v h hkk }
end
end Go.Ab
