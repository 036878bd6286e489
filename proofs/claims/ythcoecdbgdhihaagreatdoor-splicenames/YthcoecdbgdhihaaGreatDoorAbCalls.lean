import Derived.Test.YthcoecdbgdhihaaGreatDoorAbOps12
/-
  Calls: the contracts of the callees, and what they GF the caller.
-/
set_option linter.unusedVariables false
set_option linter.unusedSimpArgs false
set_option linter.unnecessarySimpa false
set_option maxRecDepth 100000
set_option maxHeartbeats 8000000
namespace Go.Ab
section
variable {P:Program} {ns:Names} {G:Gh} {w:World}
def zE (K:bJ) (w:World):Prop:=∀b o v,K b o=some v→w.cell? ⟨b,o,none⟩=some v
def mS (p:Nat→Option (Array Value)) (w:World):Prop:=∀b c,p b=some c→∃t z,w.heap[b]?=some (.cells c t z)
theorem mS.below {p:Nat→Option (Array Value)} {w w':World} (h:mS p w) (hb:RowKit.Below w.heap.size w w'):mS p w':=fun b c e=>by
 obtain ⟨t,z,h1⟩:=h b c e;exact ⟨t,z,(hb.block b (Array.getElem?_eq_some_iff.1 h1).1).trans h1⟩
def ic (K:bJ) (rs:List PV) (v:Value):Prop:=
 match rs with
 | [r]=>Rel K r v
 | rs=>∃vs:List Value,v=.tuple vs.toArray∧iZ K rs vs
def dt (ρ:cy) (G:Gh) (rs:List AV) (v:Value):Prop:=
 match rs with
 | [r]=>aC ρ G r v
 | rs=>∃vs:List Value,v=.tuple vs.toArray∧aB ρ G rs vs
def tX (P:Program) (ns:Names) (f:FuncId) (dC rs:List PV):Prop:=
 ∀(K:bJ) (w:World) (vs:List Value),mS ns.jS w→zE K w→iZ K dC vs →
   Calls P f vs.toArray w fun e w'=>∃v K',e=.returned v∧ic K' rs v∧K.le K'∧(∀b o u,b<w.heap.size→K' b o=some u→K b o=some u)∧zE K' w'∧RowKit.Below w.heap.size w w'
def QG (P:Program) (ns:Names) (f:FuncId) (args:List AV) (ts:aN) (rs:List AV) (sh sh':Sh) (ts':aN):Prop:=
 ∀(G:Gh) (w:World) (vs:List Value),Inv (num ns) G w [] sh ts→aB (num ns) G args vs →
   Calls P f vs.toArray w fun e w'=>∃v G',e=.returned v∧dt (num ns) G' rs v∧Inv (num ns) G' w' [] sh' ts'∧cq G w G' w'
def GG (P:Program) (ns:Names) (f sz bytes:Nat):Prop:=
 ∀(o:Option Bool) (G:Gh) (w:World) (mem:List (Nat×List AV)) (sh sh':Sh) (ah toks':aN) (x y:AV) (v:Value),Inv (num ns) G w mem sh ah→aC (num ns) G x v→fW o sz bytes x sh ah=some (y,sh',toks') →
   Calls P f #[v] w fun e w'=>∃u G',e=.returned u∧aC (num ns) G' y u∧Inv (num ns) G' w' mem sh' toks'∧G.le G'∧cq G w G' w'
structure gF (P:Program) (ns:Names) (orc:ep):Prop where
 p:∀g f dC rs,ns.of f=some g→orc.p g dC=some rs→tX P ns f dC rs
 i:∀g f args ts rs sh sh' ts',ns.of f=some g→args.all ct=true→orc.i g args sh ts=some (rs,sh',ts')→QG P ns f args ts rs sh sh' ts'∧rs.all ct=true
 c:∀g sz bytes f,look ns.cl g=some (sz,bytes)→ns.of f=some g→GG P ns f sz bytes
def eT (P:Program) (ns:Names):Prop:=∀f g,ns.of f=some g→∃fn b,P.funcs[f]?=some fn∧fn.body=some b∧fn.name ≠ "runtime.NumGoroutine"
theorem nC {f:FuncId} {g:Nat} (hB:eT P ns) (hf:ns.of f=some g) (args:Array Value):(callFunc f args).run P w=.ok (.enter f args) w:=by
 obtain ⟨fn,b,h1,h2,h3⟩:=hB f g hf;simp [callFunc,h1,h2,h3]
mutual
theorem l3 {ρ:cy} {G':Gh} (hK:G.K.le G'.K) (hs:∀s b,G.sm s=some b→G'.sm s=some b):∀{x:AV} {v:Value},cC x=true→aC ρ G x v→aC ρ G' x v
 | .pv p,_,_,h=>by simp only [aC] at h ⊢;exact h.mono hK
 | .br s o,_,_,h=>by simp only [aC] at h ⊢;obtain ⟨b,e,r⟩:=h;exact ⟨b,hs _ _ e,r⟩
 | .bE s _ n _,_,_,h=>by simp only [aC] at h ⊢;obtain ⟨b,c,e,r⟩:=h;exact ⟨b,c,hs _ _ e,r⟩
 | .jN,_,_,h=>by simpa only [aC] using h
 | .jO s,_,_,h=>by simp only [aC] at h ⊢;obtain ⟨b,e,r⟩:=h;exact ⟨b,hs _ _ e,r⟩
 | .oA ..,_,hp,_=>by simp [cC] at hp
 | .fF _,_,_,h=>by simp only [aC] at h
 | .fn g cap,_,hp,h=>by
   simp only [cC] at hp;simp only [aC] at h ⊢;obtain ⟨f,vs,e1,e2,r⟩:=h;exact ⟨f,vs,e1,e2,oI hK hs hp r⟩
 | .un,_,hp,_=>by simp [cC] at hp
 | .bM _,_,_,h=>by simp only [aC] at h ⊢;obtain ⟨b,l,e,r⟩:=h;exact ⟨b,l,e,r.mono hK⟩
 | .own _ _,_,hp,_=>by simp [cC] at hp
 | .agg _,_,hp,h=>by
   simp only [cC] at hp;simp only [aC] at h ⊢;obtain ⟨vs,e,r⟩:=h;exact ⟨vs,e,oI hK hs hp r⟩
 | .pg _,_,hp,_=>by simp [cC] at hp
 | .aG _ _,_,hp,_=>by simp [cC] at hp
 | .gf _,_,hp,_=>by simp [cC] at hp
theorem oI {ρ:cy} {G':Gh} (hK:G.K.le G'.K) (hs:∀s b,G.sm s=some b→G'.sm s=some b):∀{xs:List AV} {vs:List Value},cC.jQ xs=true→aB ρ G xs vs→aB ρ G' xs vs
 | [],_,_,h=>by simpa only [aB] using h
 | x::xs,_,hp,h=>by
   simp only [cC.jQ,Bool.and_eq_true] at hp;simp only [aB] at h ⊢;obtain ⟨v,r,e,e1,e2⟩:=h;exact ⟨v,r,e,l3 hK hs hp.1 e1,oI hK hs hp.2 e2⟩
end
theorem Inv.pure {K':bJ} {w1:World} {mem:List (Nat×List AV)} {sh:Sh} {ah:aN} (hi:Inv (num ns) G w mem sh ah) (hK:G.K.le K') (hold:∀b o u,b<w.heap.size→K' b o=some u→G.K b o=some u)
   (hk:zE K' w1) (hb:RowKit.Below w.heap.size w w1):Inv (num ns) { G with K:=K' } w1 mem sh ah∧G.le { G with K:=K' }∧cq G w { G with K:=K' } w1:=by
 have hle:G.le { G with K:=K' }:=⟨hK,fun _ _ h=>h,fun _ _ h=>h,fun _ t h=>⟨t,h,⟨Nat.le_refl _,t.gM⟩,fun _=>rfl⟩⟩;have hevo:cq G w { G with K:=K' } w1:={
           size:=hb.size,os:=hb.os,tape:=hb.tape,output:=hb.output,K:=hK,sm:=fun _ _ h=>h,
           eE:=fun b h hr=>⟨hr,hb.block b h⟩,iG:=fun b τ _ hr=>.inr ⟨τ,hr⟩,gO:=fun b o v h _ hkk=>hold b o v h hkk }
 refine ⟨⟨hk,?_,?_,?_,hi.gN,?_,hi.eJ,?_,hi.fc,hi.h_ hevo⟩,hle,hevo⟩
 · intro b o v hkk;by_cases h:b<w.heap.size
   · exact hi.bz b o v (hold b o v h hkk)
   · exact .inl (hi.fresh b (by omega))
 · intro b h;have:=hb.size;exact hi.fresh b (by omega)
 · intro d cs hd;obtain ⟨b,e1,e2,e3⟩:=hi.dq d cs hd;have hlt:b<w.heap.size:=by obtain ⟨_,_,_,hh,_⟩:=e2;exact cQ hh
   exact ⟨b,e1,e2.mono hle rfl (hb.block b hlt),e3⟩
 · intro s cs hs;obtain ⟨b,e1,e2,e3⟩:=hi.dP s cs hs;have hlt:b.1<w.heap.size:=e2.lt;exact ⟨b,e1,e2.mono hle rfl (hb.block b.1 hlt),e3⟩
 · intro τ n hn;obtain ⟨t,e1,e2,e3⟩:=hi.dI τ n hn;refine ⟨t,e1,e2,e3.cap,e3.zero,fun hlt=>?_⟩;obtain ⟨b,o,c,ty,f1,f2,f3,f4,f5⟩:=e3.spare hlt;have hlt':=cQ f3;exact ⟨b,o,c,ty,f1,f2,(hb.block b hlt').trans f3,f4,fun j v hkk=>f5 j v (hold b j v hlt' hkk)⟩
end
end Go.Ab
