import Derived.Test.YtfhhognolpjikaaGreatAbRel
import Derived.Below
/-
  The relation between an abstract state and a state of the model.
-/
set_option linter.unusedVariables false
set_option linter.unusedSimpArgs false
set_option maxRecDepth 100000
set_option maxHeartbeats 8000000
namespace Go.Ab
inductive kp where
 | dO | mF (d:Nat) | shr (b:Nat) | tok (τ:Nat)
 deriving DecidableEq
structure Tk where
 base:Option Addr
 len:Nat
 cap:Nat
 sz:Nat
def Tk.val (t:Tk):Value:=.slice t.base t.len t.cap
structure Gh where
 K:bF
 role:Nat→kp
 pm:Nat→Option Nat
 sm:Nat→Option (Nat×Nat)
 tk:Nat→Option Tk
abbrev ca:=Nat→Nat→Prop
mutual
def aC (ρ:ca) (G:Gh):AV→Value→Prop
 | .un,v=>v=undef
 | .pv p,v=>Rel G.K p v
 | .bB els,v=>∃base len,v=.slice base len len∧LY G.K els base len
 | .own els τ,v=>∃t,G.tk τ=some t∧els.length≤t.len∧Rel G.K (.aD els) v ∧
     (els.length=t.len→v=t.val∧(els=[]∨∃b o,t.base=some ⟨b,o,none⟩∧Row G.K b o t.sz els))
 | .agg cs,v=>∃vs:List Value,v=.agg vs.toArray∧aA ρ G cs vs
 | .lI cs,v=>∃vs:List Value,v=.tuple vs.toArray∧aA ρ G cs vs
 | .az d off,v=>∃b,G.pm d=some b∧v=.pointer (some ⟨b,off,none⟩)
 | .aX s off,v=>∃b,G.sm s=some b∧v=.pointer (some ⟨b.1,off,none⟩)
 | .dm cs,v=>∃b o vs,v=.pointer (some ⟨b,o,none⟩)∧At G.K b o vs∧dB G.K cs vs
 | .bq s z n _,v=>∃b cap,G.sm s=some b∧v=.slice (some ⟨b.1,0,none⟩) n (n+cap)∧(n+cap)*z≤b.2
 | .fn g cap,v=>∃f vs,ρ g f∧v=.func (.func f) #[] (List.toArray vs)∧aA ρ G cap vs
 | .dk,v=>v=.pointer none∨v=.nilFunc
 | .cp s,v=>∃b,G.sm s=some b∧v=.map (some b.1)
 | .dj _,_=>False
 | .lH s off n,v=>∃b base cap,G.sm s=some b∧v=.slice base n cap∧(n=0∨base=some ⟨b.1,off,none⟩)
def aA (ρ:ca) (G:Gh):List AV→List Value→Prop
 | [],vs=>vs=[]
 | c::cs,vs=>∃v r,vs=v::r∧aC ρ G c v∧aA ρ G cs r
end
structure Gh.le (G G':Gh):Prop where
 K:G.K.le G'.K
 pm:∀d b,G.pm d=some b→G'.pm d=some b
 sm:∀d b,G.sm d=some b→G'.sm d=some b
 tk:∀τ t,G.tk τ=some t→∃t',G'.tk τ=some t'∧t.len≤t'.len∧(t.len=t'.len→t'=t)
theorem Gh.le_refl (G:Gh):G.le G:=⟨G.K.le_refl,fun _ _ h=>h,fun _ _ h=>h,fun _ t h=>⟨t,h,Nat.le_refl _,fun _=>rfl⟩⟩
theorem Gh.le_trans {a b c:Gh} (h:a.le b) (k:b.le c):a.le c:=
 ⟨bF.le_trans h.K k.K,fun x y e=>k.pm _ _ (h.pm x y e),fun x y e=>k.sm _ _ (h.sm x y e),fun τ t e=>by
   obtain ⟨t',e1,e2,e3⟩:=h.tk τ t e
   obtain ⟨t'',f1,f2,f3⟩:=k.tk τ t' e1
   exact ⟨t'',f1,Nat.le_trans e2 f2,fun hl=>by
     have h1:t.len=t'.len:=Nat.le_antisymm e2 (hl ▸ f2)
     have h2:t'.len=t''.len:=h1 ▸ hl
     rw [f3 h2,e3 h1]⟩⟩
section
variable {ρ:ca} {G G':Gh}
mutual
theorem aC.mono (h:G.le G'):∀{x:AV} {v:Value},aC ρ G x v→aC ρ G' x v
 | .un,_,hr=>by simpa only [aC] using hr
 | .pv p,_,hr=>by simp only [aC] at hr ⊢;exact hr.mono h.K
 | .bB els,_,hr=>by
   simp only [aC] at hr ⊢
   obtain ⟨b,l,e,r⟩:=hr
   exact ⟨b,l,e,r.mono h.K⟩
 | .own els τ,v,hr=>by
   simp only [aC] at hr ⊢
   obtain ⟨t,e1,e2,e3,e4⟩:=hr
   obtain ⟨t',f1,f2,f3⟩:=h.tk τ t e1
   refine ⟨t',f1,Nat.le_trans e2 f2,e3.mono h.K,fun hl=>?_⟩
   have h1:els.length=t.len:=Nat.le_antisymm e2 (hl ▸ f2)
   have h2:=f3 (h1 ▸ hl)
   subst h2
   obtain ⟨g1,g2⟩:=e4 h1
   exact ⟨g1,J4 g2 fun ⟨b,o,e,r⟩=>⟨b,o,e,Row.mono h.K _ _ _ _ r⟩⟩
 | .agg cs,_,hr=>by
   simp only [aC] at hr ⊢
   obtain ⟨vs,e,r⟩:=hr
   exact ⟨vs,e,aA.mono h r⟩
 | .lI cs,_,hr=>by
   simp only [aC] at hr ⊢
   obtain ⟨vs,e,r⟩:=hr
   exact ⟨vs,e,aA.mono h r⟩
 | .az d off,_,hr=>by
   simp only [aC] at hr ⊢
   obtain ⟨b,e,r⟩:=hr
   exact ⟨b,h.pm _ _ e,r⟩
 | .aX d off,_,hr=>by
   simp only [aC] at hr ⊢
   obtain ⟨b,e,r⟩:=hr
   exact ⟨b,h.sm _ _ e,r⟩
 | .dm cs,_,hr=>by
   simp only [aC] at hr ⊢
   obtain ⟨b,o,vs,e,f,r⟩:=hr
   exact ⟨b,o,vs,e,f.mono h.K,dB.mono h.K _ _ r⟩
 | .bq s _ n _,_,hr=>by
   simp only [aC] at hr ⊢
   obtain ⟨b,c,e,r⟩:=hr
   exact ⟨b,c,h.sm _ _ e,r⟩
 | .fn g cap,_,hr=>by
   simp only [aC] at hr ⊢
   obtain ⟨f,vs,e1,e2,r⟩:=hr
   exact ⟨f,vs,e1,e2,aA.mono h r⟩
 | .dk,_,hr=>by simpa only [aC] using hr
 | .cp s,_,hr=>by
   simp only [aC] at hr ⊢
   obtain ⟨b,e,r⟩:=hr
   exact ⟨b,h.sm _ _ e,r⟩
 | .dj _,_,hr=>by simp only [aC] at hr
 | .lH s _ _,_,hr=>by
   simp only [aC] at hr ⊢
   obtain ⟨b,x,c,e,r⟩:=hr
   exact ⟨b,x,c,h.sm _ _ e,r⟩
theorem aA.mono (h:G.le G'):∀{xs:List AV} {vs:List Value},aA ρ G xs vs→aA ρ G' xs vs
 | [],_,hr=>by simpa only [aA] using hr
 | _::_,_,hr=>by
   simp only [aA] at hr ⊢
   obtain ⟨v,r,e,e1,e2⟩:=hr
   exact ⟨v,r,e,aC.mono h e1,aA.mono h e2⟩
end
theorem aA.length:∀{xs:List AV} {vs:List Value},aA ρ G xs vs→vs.length=xs.length
 | [],_,hr=>by simp only [aA] at hr;simp [hr]
 | _::_,_,hr=>by
   simp only [aA] at hr
   obtain ⟨v,r,rfl,_,e2⟩:=hr
   simp [aA.length e2]
theorem aA.get:∀{xs:List AV} {vs:List Value},aA ρ G xs vs→∀{j:Nat} {x:AV},xs[j]?=some x→∃v,vs[j]?=some v∧aC ρ G x v
 | [],_,_,j,x,hc=>by simp at hc
 | x0::xs,_,hr,j,x,hc=>by
   simp only [aA] at hr
   obtain ⟨v,r,rfl,e1,e2⟩:=hr
   cases j with
   | zero=>simp at hc;subst hc;exact ⟨v,by simp,e1⟩
   | succ j=>simpa using aA.get e2 (by simpa using hc)
theorem aA.drop:∀(n:Nat) {xs:List AV} {vs:List Value},aA ρ G xs vs→aA ρ G (xs.drop n) (vs.drop n)
 | 0,_,_,h=>by simpa using h
 | n+1,[],_,h=>by simp only [aA] at h;subst h;simp [aA]
 | n+1,_::cs,_,h=>by
   simp only [aA] at h
   obtain ⟨v,r,rfl,_,e3⟩:=h
   simpa using aA.drop n e3
theorem aA.take:∀(n:Nat) {xs:List AV} {vs:List Value},aA ρ G xs vs→aA ρ G (xs.take n) (vs.take n)
 | 0,_,_,_=>by simp [aA]
 | n+1,[],_,h=>by simp only [aA] at h;subst h;simp [aA]
 | n+1,_::cs,_,h=>by
   simp only [aA] at h
   obtain ⟨v,r,rfl,e2,e3⟩:=h
   simp only [List.take_succ_cons,aA]
   exact ⟨v,_,rfl,e2,aA.take n e3⟩
theorem aA.append:∀{xs:List AV} {vs:List Value} {ys:List AV} {us:List Value},aA ρ G xs vs→aA ρ G ys us→aA ρ G (xs++ys) (vs++us)
 | [],_,_,_,h,k=>by simp only [aA] at h;subst h;simpa using k
 | _::cs,_,_,_,h,k=>by
   simp only [aA] at h
   obtain ⟨v,r,rfl,e2,e3⟩:=h
   simp only [List.cons_append,aA]
   exact ⟨v,_,rfl,e2,aA.append e3 k⟩
theorem jl:∀{cs:List PV} {vs:List Value},dB G.K cs vs→aA ρ G (cs.map .pv) vs
 | [],_,h=>by simp only [dB] at h;subst h;simp [aA]
 | _::cs,_,h=>by
   simp only [dB] at h
   obtain ⟨v,r,rfl,e2,e3⟩:=h
   simp only [List.map_cons,aA]
   exact ⟨v,r,rfl,by simp only [aC];exact Rel.Gi e2,jl e3⟩
theorem fp:∀{cs:List PV} {vs:List Value},jk G.K cs vs→aA ρ G (cs.map .pv) vs
 | [],_,h=>by cases h;simp [aA]
 | _::cs,_,⟨v,r,e1,e2,e3⟩=>by
   subst e1
   simp only [List.map_cons,aA]
   exact ⟨v,r,rfl,by simp only [aC];exact e2,fp e3⟩
theorem aC.cells {x:AV} {v:Value} (h:aC ρ G x v) (hx:(bn x).all bf=true):aA ρ G (bn x) v.cells.toList:=by
 cases x with
 | agg cs=>simp only [aC] at h;obtain ⟨vs,rfl,r⟩:=h;simpa [bn,Value.cells] using r
 | pv p=>
   cases p with
   | agg cs=>
     simp only [aC,Rel] at h
     obtain ⟨vs,rfl,r⟩:=h
     simpa [bn,Value.cells] using jl r
   | bool b=>have h':=h;simp only [aC,Rel,R] at h;simp at h;subst h;simp only [bn,Value.cells,aA];exact ⟨_,[],rfl,h',rfl⟩
   | int k n=>have h':=h;simp only [aC,Rel,R] at h;simp at h;subst h;simp only [bn,Value.cells,aA];exact ⟨_,[],rfl,h',rfl⟩
   | str s=>have h':=h;simp only [aC,Rel,R] at h;simp at h;subst h;simp only [bn,Value.cells,aA];exact ⟨_,[],rfl,h',rfl⟩
   | aD els=>
     have h':=h
     simp only [aC] at h
     obtain ⟨b,l,c,rfl,_⟩:=cM.1 h
     simp only [bn,Value.cells,aA];exact ⟨_,[],rfl,h',rfl⟩
 | bB els=>
   have h':=h
   simp only [aC] at h;obtain ⟨b,l,rfl,_⟩:=h
   simp only [bn,Value.cells,aA];exact ⟨_,[],rfl,h',rfl⟩
 | own els τ=>
   have h':=h
   simp only [aC] at h;obtain ⟨t,_,_,h3,_⟩:=h
   obtain ⟨b,l,c,rfl,_⟩:=cM.1 h3
   simp only [bn,Value.cells,aA];exact ⟨_,[],rfl,h',rfl⟩
 | aX s o=>
   have h':=h
   simp only [aC] at h;obtain ⟨b,_,rfl⟩:=h
   simp only [bn,Value.cells,aA];exact ⟨_,[],rfl,h',rfl⟩
 | bq s z n ag=>
   have h':=h
   simp only [aC] at h;obtain ⟨b,c,_,rfl,_⟩:=h
   simp only [bn,Value.cells,aA];exact ⟨_,[],rfl,h',rfl⟩
 | fn g cap=>
   have h':=h
   simp only [aC] at h;obtain ⟨f,vs,_,rfl,_⟩:=h
   simp only [bn,Value.cells,aA];exact ⟨_,[],rfl,h',rfl⟩
 | dk=>
   have h':=h
   simp only [aC] at h
   rcases h with rfl | rfl
   · simp only [bn,Value.cells,aA];exact ⟨_,[],rfl,h',rfl⟩
   · simp only [bn,Value.cells,aA];exact ⟨_,[],rfl,h',rfl⟩
 | cp s=>
   have h':=h
   simp only [aC] at h;obtain ⟨b,_,rfl⟩:=h
   simp only [bn,Value.cells,aA];exact ⟨_,[],rfl,h',rfl⟩
 | dj kvs=>simp only [aC] at h
 | _=>simp [bn,bf] at hx
end
structure Qk (ρ:ca) (G:Gh) (w:World) (b:Nat) (r:kp) (cells:List AV):Prop where
 role:G.role b=r
 at_:∃c t,w.heap[b]?=some (.cells c t (0,0))∧aA ρ G cells c.toList
def eQ (K:bF):List (PV×PV)→List MapEntry→Prop
 | [],es=>es=[]
 | (k,p)::r,es=>∃e es',es=e::es'∧Rel K k e.key∧Rel K p e.val∧eQ K r es'
theorem eQ.mono {K K':bF} (h:K.le K'):∀{kvs:List (PV×PV)} {es:List MapEntry},eQ K kvs es→eQ K' kvs es
 | [],_,hr=>hr
 | (_,_)::_,_,⟨e,es',e1,e3,e4,e5⟩=>⟨e,es',e1,e3.mono h,e4.mono h,eQ.mono h e5⟩
def gT (ρ:ca) (G:Gh) (o:Obj) (n:Nat) (cells:List AV):Prop:=
 (∃c t vs suf,o=.cells c t (0,0)∧c.size=n∧c.toList=vs++suf∧aA ρ G cells vs)∨∃es clock kvs,o=.map es clock∧cells=[.dj kvs]∧eQ G.K kvs es.toList
theorem gT.full {ρ:ca} {G:Gh} {c:Array Value} {t:TypeId} {cells:List AV} (h:aA ρ G cells c.toList):gT ρ G (.cells c t (0,0)) c.size cells:=
 .inl ⟨c,t,c.toList,[],rfl,rfl,by simp,h⟩
structure tF (ρ:ca) (G:Gh) (w:World) (b:Nat×Nat) (r:kp) (cells:List AV):Prop where
 role:G.role b.1=r
 at_:∃o,w.heap[b.1]?=some o∧gT ρ G o b.2 cells
theorem gT.to {ρ:ca} {G G':Gh} {o:Obj} {n:Nat} {cells cells':List AV} (h:gT ρ G o n cells) (hK:G.K.le G'.K) (hm:∀kvs,cells=[.dj kvs]→cells'=[.dj kvs])
   (hc:∀vs,aA ρ G cells vs→aA ρ G' cells' vs):gT ρ G' o n cells':=by
 rcases h with ⟨c,t,vs,suf,e,e3,e4,r⟩ | ⟨es,cl,kvs,e,e2,r⟩
 · exact .inl ⟨c,t,vs,suf,e,e3,e4,hc _ r⟩
 · exact .inr ⟨es,cl,kvs,e,hm kvs e2,r.mono hK⟩
theorem gT.mono {ρ:ca} {G G':Gh} {o:Obj} {n:Nat} {cells:List AV} (h:G.le G') (hh:gT ρ G o n cells):gT ρ G' o n cells:=
 hh.to h.K (fun _ e=>e) (fun _ r=>r.mono h)
structure OA (ρ:ca) (G:Gh) (w:World) (b:Nat×Nat) (r:kp) (cells:List AV):Prop where
 role:G.role b.1=r
 at_:∃c t vs suf,w.heap[b.1]?=some (.cells c t (0,0))∧c.size=b.2∧c.toList=vs++suf∧aA ρ G cells vs
theorem tF.cells {ρ:ca} {G:Gh} {w:World} {b:Nat×Nat} {r:kp} {cells:List AV} (h:tF ρ G w b r cells) (hm:cQ cells=false):OA ρ G w b r cells:=by
 obtain ⟨h1,o,h2,h3⟩:=h
 rcases h3 with ⟨c,t,vs,suf,rfl,h4,h5,h6⟩ | ⟨es,cl,kvs,rfl,rfl,_⟩
 · exact ⟨h1,c,t,vs,suf,h2,h4,h5,h6⟩
 · simp [cQ] at hm
theorem qc {ρ:ca} {G:Gh} {cells:List AV} {vs:List Value} (h:aA ρ G cells vs):cQ cells=false:=by
 cases cells with
 | nil=>rfl
 | cons c r=>
   cases c with
   | dj kvs=>simp [aA,aC] at h
   | _=>rfl
structure OB (G:Gh) (w:World) (τ:Nat) (t:Tk):Prop where
 cap:t.len≤t.cap
 zero:t.len=0→t.cap=0
 spare:t.len<t.cap→∃b o c ty,t.base=some ⟨b,o,none⟩∧G.role b=.tok τ∧w.heap[b]?=some (.cells c ty (0,0)) ∧
   o+t.cap*t.sz≤c.size∧∀j v,G.K b j=some v→j<o+t.len*t.sz
structure Inv (ρ:ca) (G:Gh) (w:World) (mem:List (Nat×List AV)) (sh:Sh) (ah:aL):Prop where
 known:∀b o v,G.K b o=some v→w.cell? ⟨b,o,none⟩=some v
 bo:∀b o v,G.K b o=some v→G.role b=.dO∨∃τ,G.role b=.tok τ
 fresh:∀b,w.heap.size≤b→G.role b=.dO
 cS:∀d cells,look mem d=some cells→∃b,G.pm d=some b∧Qk ρ G w b (.mF d) cells∧cells.all bf=true
 gL:∀d b,G.pm d=some b→(look mem d).isSome=true
 dE:∀s cells,sh[s]?=some (some cells)→∃b,G.sm s=some b∧tF ρ G w b (.shr s) cells∧cells.all d4=true∧cells.all (aR (s+1))=true
 eY:∀s b,G.sm s=some b→s<sh.length
 dg:∀τ n,ah[τ]?=some n→∃t,G.tk τ=some t∧t.len=n∧OB G w τ t
 eZ:∀τ t,G.tk τ=some t→ah[τ]?=some t.len
structure kq (ρ:ca) (G:Gh) (N:Nat) (env:List (Nat×AV)) (a:Act):Prop where
 size:a.tmps.size=N
 env:∀t x,look env t=some x→∃v,a.tmps[t]?=some v∧aC ρ G x v
def Marks (n0:Nat) (G:Gh) (a:Act) (w:World):Prop:=
 n0≤w.heap.size∧∃Ds:List Nat,a.defers=Ds.map (fun D=>{ target:=.collected D,args:=#[] })∧Ds.Nodup ∧
   ∀D∈Ds,n0≤D∧D<w.heap.size∧G.role D=.dO∧w.heap[D]?=some (.deferred (some []))
structure gU (ρ:ca) (n0 N:Nat) (G:Gh) (st:St) (a:Act) (w:World):Prop where
 env:kq ρ G N st.env a
 inv:Inv ρ G w st.mem st.sh st.ah
 marks:Marks n0 G a w
structure cm (G:Gh) (w:World) (G':Gh) (w':World):Prop where
 size:w.heap.size≤w'.heap.size
 os:w'.os=w.os
 tape:w'.tape=w.tape
 output:w'.output=w.output
 K:G.K.le G'.K
 sm:∀s b,G.sm s=some b→G'.sm s=some b
 dO:∀b,b<w.heap.size→G.role b=.dO→G'.role b=.dO∧w'.heap[b]?=w.heap[b]?
 ik:∀b τ,b<w.heap.size→G.role b=.tok τ→G'.role b=.dO∨∃τ',G'.role b=.tok τ'
 gr:∀b o v,b<w.heap.size→G.role b=.dO→G'.K b o=some v→G.K b o=some v
theorem cm.refl (G:Gh) (w:World):cm G w G w:=
 ⟨Nat.le_refl _,rfl,rfl,rfl,G.K.le_refl,fun _ _ h=>h,fun _ _ h=>⟨h,rfl⟩,fun _ τ _ h=>.inr ⟨τ,h⟩,fun _ _ _ _ _ h=>h⟩
theorem cm.trans {G₁ G₂ G₃:Gh} {w₁ w₂ w₃:World} (h:cm G₁ w₁ G₂ w₂) (k:cm G₂ w₂ G₃ w₃):cm G₁ w₁ G₃ w₃ where
 size:=Nat.le_trans h.size k.size
 os:=k.os.trans h.os
 tape:=k.tape.trans h.tape
 output:=k.output.trans h.output
 K:=bF.le_trans h.K k.K
 sm:=fun s b e=>k.sm _ _ (h.sm s b e)
 dO:=fun b hb hr=>by
   obtain ⟨h1,h2⟩:=h.dO b hb hr
   obtain ⟨k1,k2⟩:=k.dO b (Nat.lt_of_lt_of_le hb h.size) h1
   exact ⟨k1,k2.trans h2⟩
 ik:=fun b τ hb hr=>by
   rcases h.ik b τ hb hr with h1 | ⟨τ',h1⟩
   · exact .inl (k.dO b (Nat.lt_of_lt_of_le hb h.size) h1).1
   · exact k.ik b τ' (Nat.lt_of_lt_of_le hb h.size) h1
 gr:=fun b o v hb hr hk=>h.gr b o v hb hr (k.gr b o v (Nat.lt_of_lt_of_le hb h.size) (h.dO b hb hr).1 hk)
theorem Marks.yq {n0:Nat} {G G':Gh} {a a':Act} {w w':World} (h:Marks n0 G a w) (he:cm G w G' w') (hd:a'.defers=a.defers):Marks n0 G' a' w':=by
 obtain ⟨e0,Ds,e1,e2,e3⟩:=h
 refine ⟨Nat.le_trans e0 he.size,Ds,hd.trans e1,e2,fun D hD=>?_⟩
 obtain ⟨f0,f1,f2,f3⟩:=e3 D hD
 obtain ⟨g1,g2⟩:=he.dO D f1 f2
 exact ⟨f0,Nat.lt_of_lt_of_le f1 he.size,g1,g2.trans f3⟩
theorem cm.drew (G:Gh) (w:World):cm G w G w.drew:=
 ⟨Nat.le_refl _,rfl,rfl,rfl,G.K.le_refl,fun _ _ h=>h,fun _ _ h=>⟨h,rfl⟩,fun _ τ _ h=>.inr ⟨τ,h⟩,fun _ _ _ _ _ h=>h⟩
theorem Inv.drew {ρ:ca} {G:Gh} {w:World} {mem:List (Nat×List AV)} {sh:Sh} {ah:aL} (h:Inv ρ G w mem sh ah):Inv ρ G w.drew mem sh ah where
 known:=h.known
 bo:=h.bo
 fresh:=h.fresh
 cS:=fun d cells e=>by obtain ⟨b,e1,e2,e3⟩:=h.cS d cells e;exact ⟨b,e1,⟨e2.role,e2.at_⟩,e3⟩
 gL:=h.gL
 dE:=fun d cells e=>by obtain ⟨b,e1,e2,e3⟩:=h.dE d cells e;exact ⟨b,e1,⟨e2.role,e2.at_⟩,e3⟩
 eY:=h.eY
 dg:=fun τ n e=>by obtain ⟨t,e1,e2,e3⟩:=h.dg τ n e;exact ⟨t,e1,e2,⟨e3.cap,e3.zero,e3.spare⟩⟩
 eZ:=h.eZ
end Go.Ab
