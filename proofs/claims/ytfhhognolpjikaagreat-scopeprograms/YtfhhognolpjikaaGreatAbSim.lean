import Derived.Test.YtfhhognolpjikaaGreatAbRel
import Derived.Below
/-
  The relation between an abstract state and a state of the model.
-/
set_option linter.unusedVariables false
set_option linter.unusedSimpArgs false
set_option maxRecDepth 100000
set_option maxHeartbeats 8000000
namespace Go.Ab
inductive ku where
 | dV | mP (d:Nat) | shr (b:Nat) | tok (τ:Nat)
 deriving DecidableEq
structure Tk where
 base:Option Addr
 len:Nat
 cap:Nat
 sz:Nat
def Tk.val (t:Tk):Value:=.slice t.base t.len t.cap
structure Gh where
 K:bM
 role:Nat→ku
 pm:Nat→Option Nat
 sm:Nat→Option (Nat×Nat)
 tk:Nat→Option Tk
abbrev cg:=Nat→Nat→Prop
mutual
def aE (ρ:cg) (G:Gh):AV→Value→Prop
 | .un,v=>v=undef
 | .pv p,v=>Rel G.K p v
 | .bD els,v=>∃base len,v=.slice base len len∧LG G.K els base len
 | .own els τ,v=>∃t,G.tk τ=some t∧els.length≤t.len∧Rel G.K (.aD els) v ∧
     (els.length=t.len→v=t.val∧(els=[]∨∃b o,t.base=some ⟨b,o,none⟩∧Row G.K b o t.sz els))
 | .agg cs,v=>∃vs:List Value,v=.agg vs.toArray∧aB ρ G cs vs
 | .lL cs,v=>∃vs:List Value,v=.tuple vs.toArray∧aB ρ G cs vs
 | .az d off,v=>∃b,G.pm d=some b∧v=.pointer (some ⟨b,off,none⟩)
 | .a_ s off,v=>∃b,G.sm s=some b∧v=.pointer (some ⟨b.1,off,none⟩)
 | .dz cs,v=>∃b o vs,v=.pointer (some ⟨b,o,none⟩)∧At G.K b o vs∧dK G.K cs vs
 | .bu s z n _,v=>∃b cap,G.sm s=some b∧v=.slice (some ⟨b.1,0,none⟩) n (n+cap)∧(n+cap)*z≤b.2
 | .fn g cap,v=>∃f vs,ρ g f∧v=.func (.func f) #[] (List.toArray vs)∧aB ρ G cap vs
 | .dw,v=>v=.pointer none∨v=.nilFunc
 | .cv s,v=>∃b,G.sm s=some b∧v=.map (some b.1)
 | .du _,_=>False
 | .lZ s off n,v=>∃b base cap,G.sm s=some b∧v=.slice base n cap∧(n=0∨base=some ⟨b.1,off,none⟩)
def aB (ρ:cg) (G:Gh):List AV→List Value→Prop
 | [],vs=>vs=[]
 | c::cs,vs=>∃v r,vs=v::r∧aE ρ G c v∧aB ρ G cs r
end
structure Gh.le (G G':Gh):Prop where
 K:G.K.le G'.K
 pm:∀d b,G.pm d=some b→G'.pm d=some b
 sm:∀d b,G.sm d=some b→G'.sm d=some b
 tk:∀τ t,G.tk τ=some t→∃t',G'.tk τ=some t'∧t.len≤t'.len∧(t.len=t'.len→t'=t)
theorem Gh.le_refl (G:Gh):G.le G:=⟨G.K.le_refl,fun _ _ h=>h,fun _ _ h=>h,fun _ t h=>⟨t,h,Nat.le_refl _,fun _=>rfl⟩⟩
theorem Gh.le_trans {a b c:Gh} (h:a.le b) (k:b.le c):a.le c:=
 ⟨bM.le_trans h.K k.K,fun x y e=>k.pm _ _ (h.pm x y e),fun x y e=>k.sm _ _ (h.sm x y e),fun τ t e=>by
   obtain ⟨t',e1,e2,e3⟩:=h.tk τ t e
   obtain ⟨t'',f1,f2,f3⟩:=k.tk τ t' e1
   exact ⟨t'',f1,Nat.le_trans e2 f2,fun hl=>by
     have h1:t.len=t'.len:=Nat.le_antisymm e2 (hl ▸ f2)
     have h2:t'.len=t''.len:=h1 ▸ hl
     rw [f3 h2,e3 h1]⟩⟩
section
variable {ρ:cg} {G G':Gh}
mutual
theorem aE.mono (h:G.le G'):∀{x:AV} {v:Value},aE ρ G x v→aE ρ G' x v
 | .un,_,hr=>by simpa only [aE] using hr
 | .pv p,_,hr=>by simp only [aE] at hr ⊢;exact hr.mono h.K
 | .bD els,_,hr=>by
   simp only [aE] at hr ⊢
   obtain ⟨b,l,e,r⟩:=hr
   exact ⟨b,l,e,r.mono h.K⟩
 | .own els τ,v,hr=>by
   simp only [aE] at hr ⊢
   obtain ⟨t,e1,e2,e3,e4⟩:=hr
   obtain ⟨t',f1,f2,f3⟩:=h.tk τ t e1
   refine ⟨t',f1,Nat.le_trans e2 f2,e3.mono h.K,fun hl=>?_⟩
   have h1:els.length=t.len:=Nat.le_antisymm e2 (hl ▸ f2)
   have h2:=f3 (h1 ▸ hl)
   subst h2
   obtain ⟨g1,g2⟩:=e4 h1
   exact ⟨g1,JI g2 fun ⟨b,o,e,r⟩=>⟨b,o,e,Row.mono h.K _ _ _ _ r⟩⟩
 | .agg cs,_,hr=>by
   simp only [aE] at hr ⊢
   obtain ⟨vs,e,r⟩:=hr
   exact ⟨vs,e,aB.mono h r⟩
 | .lL cs,_,hr=>by
   simp only [aE] at hr ⊢
   obtain ⟨vs,e,r⟩:=hr
   exact ⟨vs,e,aB.mono h r⟩
 | .az d off,_,hr=>by
   simp only [aE] at hr ⊢
   obtain ⟨b,e,r⟩:=hr
   exact ⟨b,h.pm _ _ e,r⟩
 | .a_ d off,_,hr=>by
   simp only [aE] at hr ⊢
   obtain ⟨b,e,r⟩:=hr
   exact ⟨b,h.sm _ _ e,r⟩
 | .dz cs,_,hr=>by
   simp only [aE] at hr ⊢
   obtain ⟨b,o,vs,e,f,r⟩:=hr
   exact ⟨b,o,vs,e,f.mono h.K,dK.mono h.K _ _ r⟩
 | .bu s _ n _,_,hr=>by
   simp only [aE] at hr ⊢
   obtain ⟨b,c,e,r⟩:=hr
   exact ⟨b,c,h.sm _ _ e,r⟩
 | .fn g cap,_,hr=>by
   simp only [aE] at hr ⊢
   obtain ⟨f,vs,e1,e2,r⟩:=hr
   exact ⟨f,vs,e1,e2,aB.mono h r⟩
 | .dw,_,hr=>by simpa only [aE] using hr
 | .cv s,_,hr=>by
   simp only [aE] at hr ⊢
   obtain ⟨b,e,r⟩:=hr
   exact ⟨b,h.sm _ _ e,r⟩
 | .du _,_,hr=>by simp only [aE] at hr
 | .lZ s _ _,_,hr=>by
   simp only [aE] at hr ⊢
   obtain ⟨b,x,c,e,r⟩:=hr
   exact ⟨b,x,c,h.sm _ _ e,r⟩
theorem aB.mono (h:G.le G'):∀{xs:List AV} {vs:List Value},aB ρ G xs vs→aB ρ G' xs vs
 | [],_,hr=>by simpa only [aB] using hr
 | _::_,_,hr=>by
   simp only [aB] at hr ⊢
   obtain ⟨v,r,e,e1,e2⟩:=hr
   exact ⟨v,r,e,aE.mono h e1,aB.mono h e2⟩
end
theorem aB.length:∀{xs:List AV} {vs:List Value},aB ρ G xs vs→vs.length=xs.length
 | [],_,hr=>by simp only [aB] at hr;simp [hr]
 | _::_,_,hr=>by
   simp only [aB] at hr
   obtain ⟨v,r,rfl,_,e2⟩:=hr
   simp [aB.length e2]
theorem aB.get:∀{xs:List AV} {vs:List Value},aB ρ G xs vs→∀{j:Nat} {x:AV},xs[j]?=some x→∃v,vs[j]?=some v∧aE ρ G x v
 | [],_,_,j,x,hc=>by simp at hc
 | x0::xs,_,hr,j,x,hc=>by
   simp only [aB] at hr
   obtain ⟨v,r,rfl,e1,e2⟩:=hr
   cases j with
   | zero=>simp at hc;subst hc;exact ⟨v,by simp,e1⟩
   | succ j=>simpa using aB.get e2 (by simpa using hc)
theorem aB.drop:∀(n:Nat) {xs:List AV} {vs:List Value},aB ρ G xs vs→aB ρ G (xs.drop n) (vs.drop n)
 | 0,_,_,h=>by simpa using h
 | n+1,[],_,h=>by simp only [aB] at h;subst h;simp [aB]
 | n+1,_::cs,_,h=>by
   simp only [aB] at h
   obtain ⟨v,r,rfl,_,e3⟩:=h
   simpa using aB.drop n e3
theorem aB.take:∀(n:Nat) {xs:List AV} {vs:List Value},aB ρ G xs vs→aB ρ G (xs.take n) (vs.take n)
 | 0,_,_,_=>by simp [aB]
 | n+1,[],_,h=>by simp only [aB] at h;subst h;simp [aB]
 | n+1,_::cs,_,h=>by
   simp only [aB] at h
   obtain ⟨v,r,rfl,e2,e3⟩:=h
   simp only [List.take_succ_cons,aB]
   exact ⟨v,_,rfl,e2,aB.take n e3⟩
theorem aB.append:∀{xs:List AV} {vs:List Value} {ys:List AV} {us:List Value},aB ρ G xs vs→aB ρ G ys us→aB ρ G (xs++ys) (vs++us)
 | [],_,_,_,h,k=>by simp only [aB] at h;subst h;simpa using k
 | _::cs,_,_,_,h,k=>by
   simp only [aB] at h
   obtain ⟨v,r,rfl,e2,e3⟩:=h
   simp only [List.cons_append,aB]
   exact ⟨v,_,rfl,e2,aB.append e3 k⟩
theorem jq:∀{cs:List PV} {vs:List Value},dK G.K cs vs→aB ρ G (cs.map .pv) vs
 | [],_,h=>by simp only [dK] at h;subst h;simp [aB]
 | _::cs,_,h=>by
   simp only [dK] at h
   obtain ⟨v,r,rfl,e2,e3⟩:=h
   simp only [List.map_cons,aB]
   exact ⟨v,r,rfl,by simp only [aE];exact Rel.F5 e2,jq e3⟩
theorem fC:∀{cs:List PV} {vs:List Value},jo G.K cs vs→aB ρ G (cs.map .pv) vs
 | [],_,h=>by cases h;simp [aB]
 | _::cs,_,⟨v,r,e1,e2,e3⟩=>by
   subst e1
   simp only [List.map_cons,aB]
   exact ⟨v,r,rfl,by simp only [aE];exact e2,fC e3⟩
theorem aE.cells {x:AV} {v:Value} (h:aE ρ G x v) (hx:(br x).all bm=true):aB ρ G (br x) v.cells.toList:=by
 cases x with
 | agg cs=>simp only [aE] at h;obtain ⟨vs,rfl,r⟩:=h;simpa [br,Value.cells] using r
 | pv p=>
   cases p with
   | agg cs=>
     simp only [aE,Rel] at h
     obtain ⟨vs,rfl,r⟩:=h
     simpa [br,Value.cells] using jq r
   | bool b=>have h':=h;simp only [aE,Rel,R] at h;simp at h;subst h;simp only [br,Value.cells,aB];exact ⟨_,[],rfl,h',rfl⟩
   | int k n=>have h':=h;simp only [aE,Rel,R] at h;simp at h;subst h;simp only [br,Value.cells,aB];exact ⟨_,[],rfl,h',rfl⟩
   | str s=>have h':=h;simp only [aE,Rel,R] at h;simp at h;subst h;simp only [br,Value.cells,aB];exact ⟨_,[],rfl,h',rfl⟩
   | aD els=>
     have h':=h
     simp only [aE] at h
     obtain ⟨b,l,c,rfl,_⟩:=cU.1 h
     simp only [br,Value.cells,aB];exact ⟨_,[],rfl,h',rfl⟩
 | bD els=>
   have h':=h
   simp only [aE] at h;obtain ⟨b,l,rfl,_⟩:=h
   simp only [br,Value.cells,aB];exact ⟨_,[],rfl,h',rfl⟩
 | own els τ=>
   have h':=h
   simp only [aE] at h;obtain ⟨t,_,_,h3,_⟩:=h
   obtain ⟨b,l,c,rfl,_⟩:=cU.1 h3
   simp only [br,Value.cells,aB];exact ⟨_,[],rfl,h',rfl⟩
 | a_ s o=>
   have h':=h
   simp only [aE] at h;obtain ⟨b,_,rfl⟩:=h
   simp only [br,Value.cells,aB];exact ⟨_,[],rfl,h',rfl⟩
 | bu s z n ag=>
   have h':=h
   simp only [aE] at h;obtain ⟨b,c,_,rfl,_⟩:=h
   simp only [br,Value.cells,aB];exact ⟨_,[],rfl,h',rfl⟩
 | fn g cap=>
   have h':=h
   simp only [aE] at h;obtain ⟨f,vs,_,rfl,_⟩:=h
   simp only [br,Value.cells,aB];exact ⟨_,[],rfl,h',rfl⟩
 | dw=>
   have h':=h
   simp only [aE] at h
   rcases h with rfl | rfl
   · simp only [br,Value.cells,aB];exact ⟨_,[],rfl,h',rfl⟩
   · simp only [br,Value.cells,aB];exact ⟨_,[],rfl,h',rfl⟩
 | cv s=>
   have h':=h
   simp only [aE] at h;obtain ⟨b,_,rfl⟩:=h
   simp only [br,Value.cells,aB];exact ⟨_,[],rfl,h',rfl⟩
 | du kvs=>simp only [aE] at h
 | _=>simp [br,bm] at hx
end
structure Qc (ρ:cg) (G:Gh) (w:World) (b:Nat) (r:ku) (cells:List AV):Prop where
 role:G.role b=r
 at_:∃c t,w.heap[b]?=some (.cells c t (0,0))∧aB ρ G cells c.toList
def eS (K:bM):List (PV×PV)→List MapEntry→Prop
 | [],es=>es=[]
 | (k,p)::r,es=>∃e es',es=e::es'∧Rel K k e.key∧Rel K p e.val∧eS K r es'
theorem eS.mono {K K':bM} (h:K.le K'):∀{kvs:List (PV×PV)} {es:List MapEntry},eS K kvs es→eS K' kvs es
 | [],_,hr=>hr
 | (_,_)::_,_,⟨e,es',e1,e3,e4,e5⟩=>⟨e,es',e1,e3.mono h,e4.mono h,eS.mono h e5⟩
def gW (ρ:cg) (G:Gh) (o:Obj) (n:Nat) (cells:List AV):Prop:=
 (∃c t vs suf,o=.cells c t (0,0)∧c.size=n∧c.toList=vs++suf∧aB ρ G cells vs)∨∃es clock kvs,o=.map es clock∧cells=[.du kvs]∧eS G.K kvs es.toList
theorem gW.full {ρ:cg} {G:Gh} {c:Array Value} {t:TypeId} {cells:List AV} (h:aB ρ G cells c.toList):gW ρ G (.cells c t (0,0)) c.size cells:=
 .inl ⟨c,t,c.toList,[],rfl,rfl,by simp,h⟩
structure tM (ρ:cg) (G:Gh) (w:World) (b:Nat×Nat) (r:ku) (cells:List AV):Prop where
 role:G.role b.1=r
 at_:∃o,w.heap[b.1]?=some o∧gW ρ G o b.2 cells
theorem gW.to {ρ:cg} {G G':Gh} {o:Obj} {n:Nat} {cells cells':List AV} (h:gW ρ G o n cells) (hK:G.K.le G'.K) (hm:∀kvs,cells=[.du kvs]→cells'=[.du kvs])
   (hc:∀vs,aB ρ G cells vs→aB ρ G' cells' vs):gW ρ G' o n cells':=by
 rcases h with ⟨c,t,vs,suf,e,e3,e4,r⟩ | ⟨es,cl,kvs,e,e2,r⟩
 · exact .inl ⟨c,t,vs,suf,e,e3,e4,hc _ r⟩
 · exact .inr ⟨es,cl,kvs,e,hm kvs e2,r.mono hK⟩
theorem gW.mono {ρ:cg} {G G':Gh} {o:Obj} {n:Nat} {cells:List AV} (h:G.le G') (hh:gW ρ G o n cells):gW ρ G' o n cells:=
 hh.to h.K (fun _ e=>e) (fun _ r=>r.mono h)
structure Og (ρ:cg) (G:Gh) (w:World) (b:Nat×Nat) (r:ku) (cells:List AV):Prop where
 role:G.role b.1=r
 at_:∃c t vs suf,w.heap[b.1]?=some (.cells c t (0,0))∧c.size=b.2∧c.toList=vs++suf∧aB ρ G cells vs
theorem tM.cells {ρ:cg} {G:Gh} {w:World} {b:Nat×Nat} {r:ku} {cells:List AV} (h:tM ρ G w b r cells) (hm:cR cells=false):Og ρ G w b r cells:=by
 obtain ⟨h1,o,h2,h3⟩:=h
 rcases h3 with ⟨c,t,vs,suf,rfl,h4,h5,h6⟩ | ⟨es,cl,kvs,rfl,rfl,_⟩
 · exact ⟨h1,c,t,vs,suf,h2,h4,h5,h6⟩
 · simp [cR] at hm
theorem ql {ρ:cg} {G:Gh} {cells:List AV} {vs:List Value} (h:aB ρ G cells vs):cR cells=false:=by
 cases cells with
 | nil=>rfl
 | cons c r=>
   cases c with
   | du kvs=>simp [aB,aE] at h
   | _=>rfl
structure Oh (G:Gh) (w:World) (τ:Nat) (t:Tk):Prop where
 cap:t.len≤t.cap
 zero:t.len=0→t.cap=0
 spare:t.len<t.cap→∃b o c ty,t.base=some ⟨b,o,none⟩∧G.role b=.tok τ∧w.heap[b]?=some (.cells c ty (0,0)) ∧
   o+t.cap*t.sz≤c.size∧∀j v,G.K b j=some v→j<o+t.len*t.sz
structure Inv (ρ:cg) (G:Gh) (w:World) (mem:List (Nat×List AV)) (sh:Sh) (ah:aM):Prop where
 known:∀b o v,G.K b o=some v→w.cell? ⟨b,o,none⟩=some v
 bt:∀b o v,G.K b o=some v→G.role b=.dV∨∃τ,G.role b=.tok τ
 fresh:∀b,w.heap.size≤b→G.role b=.dV
 da:∀d cells,look mem d=some cells→∃b,G.pm d=some b∧Qc ρ G w b (.mP d) cells∧cells.all bm=true
 gN:∀d b,G.pm d=some b→(look mem d).isSome=true
 dN:∀s cells,sh[s]?=some (some cells)→∃b,G.sm s=some b∧tM ρ G w b (.shr s) cells∧cells.all d_=true∧cells.all (aS (s+1))=true
 eZ:∀s b,G.sm s=some b→s<sh.length
 dp:∀τ n,ah[τ]?=some n→∃t,G.tk τ=some t∧t.len=n∧Oh G w τ t
 e8:∀τ t,G.tk τ=some t→ah[τ]?=some t.len
structure kx (ρ:cg) (G:Gh) (N:Nat) (env:List (Nat×AV)) (a:Act):Prop where
 size:a.tmps.size=N
 env:∀t x,look env t=some x→∃v,a.tmps[t]?=some v∧aE ρ G x v
def Marks (n0:Nat) (G:Gh) (a:Act) (w:World):Prop:=
 n0≤w.heap.size∧∃Ds:List Nat,a.defers=Ds.map (fun D=>{ target:=.collected D,args:=#[] })∧Ds.Nodup ∧
   ∀D∈Ds,n0≤D∧D<w.heap.size∧G.role D=.dV∧w.heap[D]?=some (.deferred (some []))
structure gX (ρ:cg) (n0 N:Nat) (G:Gh) (st:St) (a:Act) (w:World):Prop where
 env:kx ρ G N st.env a
 inv:Inv ρ G w st.mem st.sh st.ah
 marks:Marks n0 G a w
structure cu (G:Gh) (w:World) (G':Gh) (w':World):Prop where
 size:w.heap.size≤w'.heap.size
 os:w'.os=w.os
 tape:w'.tape=w.tape
 output:w'.output=w.output
 K:G.K.le G'.K
 sm:∀s b,G.sm s=some b→G'.sm s=some b
 dV:∀b,b<w.heap.size→G.role b=.dV→G'.role b=.dV∧w'.heap[b]?=w.heap[b]?
 ir:∀b τ,b<w.heap.size→G.role b=.tok τ→G'.role b=.dV∨∃τ',G'.role b=.tok τ'
 gB:∀b o v,b<w.heap.size→G.role b=.dV→G'.K b o=some v→G.K b o=some v
theorem cu.refl (G:Gh) (w:World):cu G w G w:=
 ⟨Nat.le_refl _,rfl,rfl,rfl,G.K.le_refl,fun _ _ h=>h,fun _ _ h=>⟨h,rfl⟩,fun _ τ _ h=>.inr ⟨τ,h⟩,fun _ _ _ _ _ h=>h⟩
theorem cu.trans {G₁ G₂ G₃:Gh} {w₁ w₂ w₃:World} (h:cu G₁ w₁ G₂ w₂) (k:cu G₂ w₂ G₃ w₃):cu G₁ w₁ G₃ w₃ where
 size:=Nat.le_trans h.size k.size
 os:=k.os.trans h.os
 tape:=k.tape.trans h.tape
 output:=k.output.trans h.output
 K:=bM.le_trans h.K k.K
 sm:=fun s b e=>k.sm _ _ (h.sm s b e)
 dV:=fun b hb hr=>by
   obtain ⟨h1,h2⟩:=h.dV b hb hr
   obtain ⟨k1,k2⟩:=k.dV b (Nat.lt_of_lt_of_le hb h.size) h1
   exact ⟨k1,k2.trans h2⟩
 ir:=fun b τ hb hr=>by
   rcases h.ir b τ hb hr with h1 | ⟨τ',h1⟩
   · exact .inl (k.dV b (Nat.lt_of_lt_of_le hb h.size) h1).1
   · exact k.ir b τ' (Nat.lt_of_lt_of_le hb h.size) h1
 gB:=fun b o v hb hr hk=>h.gB b o v hb hr (k.gB b o v (Nat.lt_of_lt_of_le hb h.size) (h.dV b hb hr).1 hk)
theorem Marks.yx {n0:Nat} {G G':Gh} {a a':Act} {w w':World} (h:Marks n0 G a w) (he:cu G w G' w') (hd:a'.defers=a.defers):Marks n0 G' a' w':=by
 obtain ⟨e0,Ds,e1,e2,e3⟩:=h
 refine ⟨Nat.le_trans e0 he.size,Ds,hd.trans e1,e2,fun D hD=>?_⟩
 obtain ⟨f0,f1,f2,f3⟩:=e3 D hD
 obtain ⟨g1,g2⟩:=he.dV D f1 f2
 exact ⟨f0,Nat.lt_of_lt_of_le f1 he.size,g1,g2.trans f3⟩
theorem cu.drew (G:Gh) (w:World):cu G w G w.drew:=
 ⟨Nat.le_refl _,rfl,rfl,rfl,G.K.le_refl,fun _ _ h=>h,fun _ _ h=>⟨h,rfl⟩,fun _ τ _ h=>.inr ⟨τ,h⟩,fun _ _ _ _ _ h=>h⟩
theorem Inv.drew {ρ:cg} {G:Gh} {w:World} {mem:List (Nat×List AV)} {sh:Sh} {ah:aM} (h:Inv ρ G w mem sh ah):Inv ρ G w.drew mem sh ah where
 known:=h.known
 bt:=h.bt
 fresh:=h.fresh
 da:=fun d cells e=>by obtain ⟨b,e1,e2,e3⟩:=h.da d cells e;exact ⟨b,e1,⟨e2.role,e2.at_⟩,e3⟩
 gN:=h.gN
 dN:=fun d cells e=>by obtain ⟨b,e1,e2,e3⟩:=h.dN d cells e;exact ⟨b,e1,⟨e2.role,e2.at_⟩,e3⟩
 eZ:=h.eZ
 dp:=fun τ n e=>by obtain ⟨t,e1,e2,e3⟩:=h.dp τ n e;exact ⟨t,e1,e2,⟨e3.cap,e3.zero,e3.spare⟩⟩
 e8:=h.e8
end Go.Ab
