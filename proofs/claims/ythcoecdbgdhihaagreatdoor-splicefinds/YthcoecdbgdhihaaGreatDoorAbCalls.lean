import Derived.Test.YthcoecdbgdhihaaGreatDoorAbOps12
/-
  Calls: the contracts of the callees, and what they FY the caller.
-/
set_option linter.unusedVariables false
set_option linter.unusedSimpArgs false
set_option linter.unnecessarySimpa false
set_option maxRecDepth 100000
set_option maxHeartbeats 8000000
namespace Go.Ab
section
variable {P:Program} {ns:Names} {G:Gh} {w:World}
def y6 (K:bE) (w:World):Prop:=∀b o v,K b o=some v→w.cell? ⟨b,o,none⟩=some v
def mD (p:Nat→Option (Array Value)) (w:World):Prop:=∀b c,p b=some c→∃t z,w.heap[b]?=some (.cells c t z)
theorem mD.below {p:Nat→Option (Array Value)} {w w':World} (h:mD p w) (hb:RowKit.Below w.heap.size w w'):mD p w':=fun b c e=>by
 obtain ⟨t,z,h1⟩:=h b c e
 exact ⟨t,z,(hb.block b (Array.getElem?_eq_some_iff.1 h1).1).trans h1⟩
def hZ (K:bE) (rs:List PV) (v:Value):Prop:=
 match rs with
 | [r]=>Rel K r v
 | rs=>∃vs:List Value,v=.tuple vs.toArray∧iV K rs vs
def dm (ρ:cx) (G:Gh) (rs:List AV) (v:Value):Prop:=
 match rs with
 | [r]=>aC ρ G r v
 | rs=>∃vs:List Value,v=.tuple vs.toArray∧az ρ G rs vs
def tz (P:Program) (ns:Names) (f:FuncId) (dt rs:List PV):Prop:=
 ∀(K:bE) (w:World) (vs:List Value),mD ns.jM w→y6 K w→iV K dt vs →
   Calls P f vs.toArray w fun e w'=>∃v K',e=.returned v∧hZ K' rs v∧K.le K'∧(∀b o u,b<w.heap.size→K' b o=some u→K b o=some u)∧y6 K' w'∧RowKit.Below w.heap.size w w'
def Py (P:Program) (ns:Names) (f:FuncId) (args:List AV) (ts:aN) (rs:List AV) (sh sh':Sh) (ts':aN):Prop:=
 ∀(G:Gh) (w:World) (vs:List Value),Inv (num ns) G w [] sh ts→az (num ns) G args vs →
   Calls P f vs.toArray w fun e w'=>∃v G',e=.returned v∧dm (num ns) G' rs v∧Inv (num ns) G' w' [] sh' ts'∧cp G w G' w'
def FZ (P:Program) (ns:Names) (f sz bytes:Nat):Prop:=
 ∀(o:Option Bool) (G:Gh) (w:World) (mem:List (Nat×List AV)) (sh sh':Sh) (ah toks':aN) (x y:AV) (v:Value),Inv (num ns) G w mem sh ah→aC (num ns) G x v→fH o sz bytes x sh ah=some (y,sh',toks') →
   Calls P f #[v] w fun e w'=>∃u G',e=.returned u∧aC (num ns) G' y u∧Inv (num ns) G' w' mem sh' toks'∧G.le G'∧cp G w G' w'
structure gB (P:Program) (ns:Names) (orc:ek):Prop where
 p:∀g f dt rs,ns.of f=some g→orc.p g dt=some rs→tz P ns f dt rs
 i:∀g f args ts rs sh sh' ts',ns.of f=some g→args.all cr=true→orc.i g args sh ts=some (rs,sh',ts')→Py P ns f args ts rs sh sh' ts'∧rs.all cr=true
 c:∀g sz bytes f,look ns.cl g=some (sz,bytes)→ns.of f=some g→FZ P ns f sz bytes
def eO (P:Program) (ns:Names):Prop:=∀f g,ns.of f=some g→∃fn b,P.funcs[f]?=some fn∧fn.body=some b∧fn.name ≠ "runtime.NumGoroutine"
theorem nf {f:FuncId} {g:Nat} (hB:eO P ns) (hf:ns.of f=some g) (args:Array Value):(callFunc f args).run P w=.ok (.enter f args) w:=by
 obtain ⟨fn,b,h1,h2,h3⟩:=hB f g hf
 simp [callFunc,h1,h2,h3]
mutual
theorem lP {ρ:cx} {G':Gh} (hK:G.K.le G'.K) (hs:∀s b,G.sm s=some b→G'.sm s=some b):∀{x:AV} {v:Value},cB x=true→aC ρ G x v→aC ρ G' x v
 | .pv p,_,_,h=>by simp only [aC] at h ⊢;exact h.mono hK
 | .bu s o,_,_,h=>by simp only [aC] at h ⊢;obtain ⟨b,e,r⟩:=h;exact ⟨b,hs _ _ e,r⟩
 | .bI s _ n _,_,_,h=>by simp only [aC] at h ⊢;obtain ⟨b,c,e,r⟩:=h;exact ⟨b,c,hs _ _ e,r⟩
 | .jI,_,_,h=>by simpa only [aC] using h
 | .jJ s,_,_,h=>by simp only [aC] at h ⊢;obtain ⟨b,e,r⟩:=h;exact ⟨b,hs _ _ e,r⟩
 | .pN ..,_,hp,_=>by simp [cB] at hp
 | .fo _,_,_,h=>by simp only [aC] at h
 | .fn g cap,_,hp,h=>by
   simp only [cB] at hp
   simp only [aC] at h ⊢
   obtain ⟨f,vs,e1,e2,r⟩:=h
   exact ⟨f,vs,e1,e2,oh hK hs hp r⟩
 | .un,_,hp,_=>by simp [cB] at hp
 | .bN _,_,_,h=>by simp only [aC] at h ⊢;obtain ⟨b,l,e,r⟩:=h;exact ⟨b,l,e,r.mono hK⟩
 | .own _ _,_,hp,_=>by simp [cB] at hp
 | .agg _,_,hp,h=>by
   simp only [cB] at hp
   simp only [aC] at h ⊢
   obtain ⟨vs,e,r⟩:=h
   exact ⟨vs,e,oh hK hs hp r⟩
 | .oP _,_,hp,_=>by simp [cB] at hp
 | .aG _ _,_,hp,_=>by simp [cB] at hp
 | .fR _,_,hp,_=>by simp [cB] at hp
theorem oh {ρ:cx} {G':Gh} (hK:G.K.le G'.K) (hs:∀s b,G.sm s=some b→G'.sm s=some b):∀{xs:List AV} {vs:List Value},cB.jL xs=true→az ρ G xs vs→az ρ G' xs vs
 | [],_,_,h=>by simpa only [az] using h
 | x::xs,_,hp,h=>by
   simp only [cB.jL,Bool.and_eq_true] at hp
   simp only [az] at h ⊢
   obtain ⟨v,r,e,e1,e2⟩:=h
   exact ⟨v,r,e,lP hK hs hp.1 e1,oh hK hs hp.2 e2⟩
end
theorem Inv.pure {K':bE} {w1:World} {mem:List (Nat×List AV)} {sh:Sh} {ah:aN} (hi:Inv (num ns) G w mem sh ah) (hK:G.K.le K') (hold:∀b o u,b<w.heap.size→K' b o=some u→G.K b o=some u)
   (hk:y6 K' w1) (hb:RowKit.Below w.heap.size w w1):Inv (num ns) { G with K:=K' } w1 mem sh ah∧G.le { G with K:=K' }∧cp G w { G with K:=K' } w1:=by
 have hle:G.le { G with K:=K' }:=⟨hK,fun _ _ h=>h,fun _ _ h=>h,fun _ t h=>⟨t,h,⟨Nat.le_refl _,t.gH⟩,fun _=>rfl⟩⟩
 have hevo:cp G w { G with K:=K' } w1:={
           size:=hb.size,os:=hb.os,tape:=hb.tape,output:=hb.output,K:=hK,sm:=fun _ _ h=>h,
           eA:=fun b h hr=>⟨hr,hb.block b h⟩,iD:=fun b τ _ hr=>.inr ⟨τ,hr⟩,gJ:=fun b o v h _ hkk=>hold b o v h hkk }
 refine ⟨⟨hk,?_,?_,?_,hi.gI,?_,hi.eE,?_,hi.eW,hi.gZ hevo⟩,hle,hevo⟩
 · intro b o v hkk
   by_cases h:b<w.heap.size
   · exact hi.bt b o v (hold b o v h hkk)
   · exact .inl (hi.fresh b (by omega))
 · intro b h;have:=hb.size;exact hi.fresh b (by omega)
 · intro d cs hd
   obtain ⟨b,e1,e2,e3⟩:=hi.dk d cs hd
   have hlt:b<w.heap.size:=by obtain ⟨_,_,_,hh,_⟩:=e2;exact cO hh
   exact ⟨b,e1,e2.mono hle rfl (hb.block b hlt),e3⟩
 · intro s cs hs
   obtain ⟨b,e1,e2,e3⟩:=hi.dM s cs hs
   have hlt:b.1<w.heap.size:=e2.lt
   exact ⟨b,e1,e2.mono hle rfl (hb.block b.1 hlt),e3⟩
 · intro τ n hn
   obtain ⟨t,e1,e2,e3⟩:=hi.dE τ n hn
   refine ⟨t,e1,e2,e3.cap,e3.zero,fun hlt=>?_⟩
   obtain ⟨b,o,c,ty,f1,f2,f3,f4,f5⟩:=e3.spare hlt
   have hlt':=cO f3
   exact ⟨b,o,c,ty,f1,f2,(hb.block b hlt').trans f3,f4,fun j v hkk=>f5 j v (hold b j v hlt' hkk)⟩
end
end Go.Ab
