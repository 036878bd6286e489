import Derived.Test.YthcoecdbgdhihaaGreatDoorAbRel
import Derived.Below
/-
  The relation between an abstract state and a state of the model.
-/
set_option linter.unusedVariables false
set_option linter.unusedSimpArgs false
set_option linter.unnecessarySimpa false
set_option maxRecDepth 100000
set_option maxHeartbeats 8000000
namespace Go.Ab
inductive la where
 | eA | kK (d:Nat) | shr (b:Nat) | tok (τ:Nat)
 deriving DecidableEq
structure Tk where
 base:Option Addr
 len:Nat
 cap:Nat
 sz:Nat
 own:Bool:=false
def Tk.val (t:Tk):Value:=.slice t.base t.len t.cap
def Tk.dead (t:Tk):Prop:=t.base=none∧0<t.len
def Tk.on (t t':Tk):Prop:=(t.dead→t'.dead)∧(t'.dead∨t.cap<t'.len∨(t'.base=t.base∧t'.cap=t.cap∧(t'=t∨t'.own=true)))
def Tk.Ng (t:Tk) (v:Value):Prop:=t.dead∨∃base len cap,v=.slice base len cap∧(cap<t.len∨(base=t.base∧cap=t.cap∧(len=t.len∨t.own=true)))
theorem Tk.gH (t:Tk):t.on t:=⟨id,.inr (.inr ⟨rfl,rfl,.inl rfl⟩)⟩
theorem Tk.FT {a b c:Tk} (h:a.on b) (k:b.on c) (hl:b.len≤c.len):a.on c:=by
 refine ⟨fun d=>k.1 (h.1 d),?_⟩
 rcases h.2 with d | hc | ⟨e1,e2,e3⟩
 · exact .inl (k.1 d)
 · exact .inr (.inl (by omega))
 · rcases k.2 with d | hc | ⟨f1,f2,f3⟩
   · exact .inl d
   · exact .inr (.inl (by omega))
   · refine .inr (.inr ⟨f1.trans e1,f2.trans e2,?_⟩)
     rcases f3 with rfl | f3
     · exact e3
     · exact .inr f3
theorem Tk.p6 (t:Tk):t.Ng t.val:=.inr ⟨_,_,_,rfl,.inr ⟨rfl,rfl,.inl rfl⟩⟩
theorem Tk.LA {t t':Tk} {v:Value} (h:t.Ng v) (k:t.on t') (hl:t.len≤t'.len):t'.Ng v:=by
 rcases h with d | ⟨base,len,cap,e,h⟩
 · exact .inl (k.1 d)
 · rcases k.2 with d | hc | ⟨e1,e2,e3⟩
   · exact .inl d
   · refine .inr ⟨base,len,cap,e,.inl ?_⟩
     rcases h with h | ⟨_,h,_⟩<;>omega
   · refine .inr ⟨base,len,cap,e,?_⟩
     rcases h with h | ⟨h1,h2,h3⟩
     · exact .inl (by omega)
     · refine .inr ⟨h1.trans e1.symm,h2.trans e2.symm,?_⟩
       rcases e3 with rfl | e3
       · exact h3
       · exact .inr e3
structure Gh where
 K:bE
 role:Nat→la
 pm:Nat→Option Nat
 sm:Nat→Option (Nat×Nat)
 tk:Nat→Option Tk
structure cx where
 r:Nat→Nat→Prop
 jM:Nat→Option (Array Value)
mutual
def aC (ρ:cx) (G:Gh):AV→Value→Prop
 | .un,v=>v=undef
 | .pv p,v=>Rel G.K p v
 | .bN els,v=>∃base len,v=.slice base len len∧KB G.K els base len
 | .own els τ,v=>∃t,G.tk τ=some t∧(els.length≤t.len∧t.Ng v)∧Rel G.K (.aJ els) v ∧
     (els.length=t.len→v=t.val∧(els=[]∨∃b o,t.base=some ⟨b,o,none⟩∧Row G.K b o t.sz els))
 | .agg cs,v=>∃vs:List Value,v=.agg vs.toArray∧az ρ G cs vs
 | .oP cs,v=>∃vs:List Value,v=.tuple vs.toArray∧az ρ G cs vs
 | .aG d off,v=>∃b,G.pm d=some b∧v=.pointer (some ⟨b,off,none⟩)
 | .bu s off,v=>∃b,G.sm s=some b∧v=.pointer (some ⟨b.1,off,none⟩)
 | .fR cs,v=>∃b o vs,v=.pointer (some ⟨b,o,none⟩)∧At G.K b o vs∧dS G.K cs vs
 | .bI s z n _,v=>∃b cap,G.sm s=some b∧v=.slice (some ⟨b.1,0,none⟩) n (n+cap)∧(n+cap)*z≤b.2
 | .fn g cap,v=>∃f vs,ρ.r g f∧v=.func (.func f) #[] (List.toArray vs)∧az ρ G cap vs
 | .jI,v=>v=.pointer none∨v=.nilFunc
 | .jJ s,v=>∃b,G.sm s=some b∧v=.map (some b.1)
 | .fo _,_=>False
 | .jK d n,v=>∃b,G.pm d=some b∧v=.slice (some ⟨b,0,none⟩) n n
 | .pN s off n,v=>∃b base cap,G.sm s=some b∧v=.slice base n cap∧(n=0∨base=some ⟨b.1,off,none⟩)
def az (ρ:cx) (G:Gh):List AV→List Value→Prop
 | [],vs=>vs=[]
 | c::cs,vs=>∃v r,vs=v::r∧aC ρ G c v∧az ρ G cs r
end
structure Gh.le (G G':Gh):Prop where
 K:G.K.le G'.K
 pm:∀d b,G.pm d=some b→G'.pm d=some b
 sm:∀d b,G.sm d=some b→G'.sm d=some b
 tk:∀τ t,G.tk τ=some t→∃t',G'.tk τ=some t'∧(t.len≤t'.len∧t.on t')∧(t.len=t'.len→t'=t)
theorem Gh.le_refl (G:Gh):G.le G:=⟨G.K.le_refl,fun _ _ h=>h,fun _ _ h=>h,fun _ t h=>⟨t,h,⟨Nat.le_refl _,t.gH⟩,fun _=>rfl⟩⟩
theorem Gh.le_trans {a b c:Gh} (h:a.le b) (k:b.le c):a.le c:=
 ⟨bE.le_trans h.K k.K,fun x y e=>k.pm _ _ (h.pm x y e),fun x y e=>k.sm _ _ (h.sm x y e),fun τ t e=>by
   obtain ⟨t',e1,e2,e3⟩:=h.tk τ t e
   obtain ⟨t'',f1,f2,f3⟩:=k.tk τ t' e1
   exact ⟨t'',f1,⟨Nat.le_trans e2.1 f2.1,Tk.FT e2.2 f2.2 f2.1⟩,fun hl=>by
     have h1:t.len=t'.len:=Nat.le_antisymm e2.1 (hl ▸ f2.1)
     have h2:t'.len=t''.len:=h1 ▸ hl
     rw [f3 h2,e3 h1]⟩⟩
section
variable {ρ:cx} {G G':Gh}
mutual
theorem aC.mono (h:G.le G'):∀{x:AV} {v:Value},aC ρ G x v→aC ρ G' x v
 | .un,_,hr=>by simpa only [aC] using hr
 | .pv p,_,hr=>by simp only [aC] at hr ⊢;exact hr.mono h.K
 | .bN els,_,hr=>by
   simp only [aC] at hr ⊢
   obtain ⟨b,l,e,r⟩:=hr
   exact ⟨b,l,e,r.mono h.K⟩
 | .own els τ,v,hr=>by
   simp only [aC] at hr ⊢
   obtain ⟨t,e1,e2,e3,e4⟩:=hr
   obtain ⟨t',f1,f2,f3⟩:=h.tk τ t e1
   refine ⟨t',f1,⟨Nat.le_trans e2.1 f2.1,Tk.LA e2.2 f2.2 f2.1⟩,e3.mono h.K,fun hl=>?_⟩
   have h1:els.length=t.len:=Nat.le_antisymm e2.1 (hl ▸ f2.1)
   have h2:=f3 (h1 ▸ hl)
   subst h2
   obtain ⟨g1,g2⟩:=e4 h1
   exact ⟨g1,IS g2 fun ⟨b,o,e,r⟩=>⟨b,o,e,Row.mono h.K _ _ _ _ r⟩⟩
 | .agg cs,_,hr=>by
   simp only [aC] at hr ⊢
   obtain ⟨vs,e,r⟩:=hr
   exact ⟨vs,e,az.mono h r⟩
 | .oP cs,_,hr=>by
   simp only [aC] at hr ⊢
   obtain ⟨vs,e,r⟩:=hr
   exact ⟨vs,e,az.mono h r⟩
 | .aG d off,_,hr=>by
   simp only [aC] at hr ⊢
   obtain ⟨b,e,r⟩:=hr
   exact ⟨b,h.pm _ _ e,r⟩
 | .bu d off,_,hr=>by
   simp only [aC] at hr ⊢
   obtain ⟨b,e,r⟩:=hr
   exact ⟨b,h.sm _ _ e,r⟩
 | .fR cs,_,hr=>by
   simp only [aC] at hr ⊢
   obtain ⟨b,o,vs,e,f,r⟩:=hr
   exact ⟨b,o,vs,e,f.mono h.K,dS.mono h.K _ _ r⟩
 | .bI s _ n _,_,hr=>by
   simp only [aC] at hr ⊢
   obtain ⟨b,c,e,r⟩:=hr
   exact ⟨b,c,h.sm _ _ e,r⟩
 | .fn g cap,_,hr=>by
   simp only [aC] at hr ⊢
   obtain ⟨f,vs,e1,e2,r⟩:=hr
   exact ⟨f,vs,e1,e2,az.mono h r⟩
 | .jI,_,hr=>by simpa only [aC] using hr
 | .jJ s,_,hr=>by
   simp only [aC] at hr ⊢
   obtain ⟨b,e,r⟩:=hr
   exact ⟨b,h.sm _ _ e,r⟩
 | .fo _,_,hr=>by simp only [aC] at hr
 | .pN s _ _,_,hr=>by
   simp only [aC] at hr ⊢
   obtain ⟨b,x,c,e,r⟩:=hr
   exact ⟨b,x,c,h.sm _ _ e,r⟩
 | .jK d _,_,hr=>by
   simp only [aC] at hr ⊢
   obtain ⟨b,e,r⟩:=hr
   exact ⟨b,h.pm _ _ e,r⟩
theorem az.mono (h:G.le G'):∀{xs:List AV} {vs:List Value},az ρ G xs vs→az ρ G' xs vs
 | [],_,hr=>by simpa only [az] using hr
 | _::_,_,hr=>by
   simp only [az] at hr ⊢
   obtain ⟨v,r,e,e1,e2⟩:=hr
   exact ⟨v,r,e,aC.mono h e1,az.mono h e2⟩
end
theorem az.length:∀{xs:List AV} {vs:List Value},az ρ G xs vs→vs.length=xs.length
 | [],_,hr=>by simp only [az] at hr;simp [hr]
 | _::_,_,hr=>by
   simp only [az] at hr
   obtain ⟨v,r,rfl,_,e2⟩:=hr
   simp [az.length e2]
theorem az.get:∀{xs:List AV} {vs:List Value},az ρ G xs vs→∀{j:Nat} {x:AV},xs[j]?=some x→∃v,vs[j]?=some v∧aC ρ G x v
 | [],_,_,j,x,hc=>by simp at hc
 | x0::xs,_,hr,j,x,hc=>by
   simp only [az] at hr
   obtain ⟨v,r,rfl,e1,e2⟩:=hr
   cases j with
   | zero=>simp at hc;subst hc;exact ⟨v,by simp,e1⟩
   | succ j=>simpa using az.get e2 (by simpa using hc)
theorem az.drop:∀(n:Nat) {xs:List AV} {vs:List Value},az ρ G xs vs→az ρ G (xs.drop n) (vs.drop n)
 | 0,_,_,h=>by simpa using h
 | n+1,[],_,h=>by simp only [az] at h;subst h;simp [az]
 | n+1,_::cs,_,h=>by
   simp only [az] at h
   obtain ⟨v,r,rfl,_,e3⟩:=h
   simpa using az.drop n e3
theorem az.take:∀(n:Nat) {xs:List AV} {vs:List Value},az ρ G xs vs→az ρ G (xs.take n) (vs.take n)
 | 0,_,_,_=>by simp [az]
 | n+1,[],_,h=>by simp only [az] at h;subst h;simp [az]
 | n+1,_::cs,_,h=>by
   simp only [az] at h
   obtain ⟨v,r,rfl,e2,e3⟩:=h
   simp only [List.take_succ_cons,az]
   exact ⟨v,_,rfl,e2,az.take n e3⟩
theorem az.append:∀{xs:List AV} {vs:List Value} {ys:List AV} {us:List Value},az ρ G xs vs→az ρ G ys us→az ρ G (xs++ys) (vs++us)
 | [],_,_,_,h,k=>by simp only [az] at h;subst h;simpa using k
 | _::cs,_,_,_,h,k=>by
   simp only [az] at h
   obtain ⟨v,r,rfl,e2,e3⟩:=h
   simp only [List.cons_append,az]
   exact ⟨v,_,rfl,e2,az.append e3 k⟩
theorem il:∀{cs:List PV} {vs:List Value},dS G.K cs vs→az ρ G (cs.map .pv) vs
 | [],_,h=>by simp only [dS] at h;subst h;simp [az]
 | _::cs,_,h=>by
   simp only [dS] at h
   obtain ⟨v,r,rfl,e2,e3⟩:=h
   simp only [List.map_cons,az]
   exact ⟨v,r,rfl,by simp only [aC];exact Rel.IG e2,il e3⟩
theorem fZ:∀{cs:List PV} {vs:List Value},iV G.K cs vs→az ρ G (cs.map .pv) vs
 | [],_,h=>by cases h;simp [az]
 | _::cs,_,⟨v,r,e1,e2,e3⟩=>by
   subst e1
   simp only [List.map_cons,az]
   exact ⟨v,r,rfl,by simp only [aC];exact e2,fZ e3⟩
theorem aC.cells {x:AV} {v:Value} (h:aC ρ G x v) (hx:(bB x).all bp=true):az ρ G (bB x) v.cells.toList:=by
 cases x with
 | agg cs=>simp only [aC] at h;obtain ⟨vs,rfl,r⟩:=h;simpa [bB,Value.cells] using r
 | pv p=>
   cases p with
   | agg cs=>
     simp only [aC,Rel] at h
     obtain ⟨vs,rfl,r⟩:=h
     simpa [bB,Value.cells] using il r
   | bool b=>have h':=h;simp only [aC,Rel,R] at h;simp at h;subst h;simp only [bB,Value.cells,az];exact ⟨_,[],rfl,h',rfl⟩
   | int k n=>have h':=h;simp only [aC,Rel,R] at h;simp at h;subst h;simp only [bB,Value.cells,az];exact ⟨_,[],rfl,h',rfl⟩
   | str s=>have h':=h;simp only [aC,Rel,R] at h;simp at h;subst h;simp only [bB,Value.cells,az];exact ⟨_,[],rfl,h',rfl⟩
   | aJ els=>
     have h':=h
     simp only [aC] at h
     obtain ⟨b,l,c,rfl,_⟩:=cJ.1 h
     simp only [bB,Value.cells,az];exact ⟨_,[],rfl,h',rfl⟩
 | bN els=>
   have h':=h
   simp only [aC] at h;obtain ⟨b,l,rfl,_⟩:=h
   simp only [bB,Value.cells,az];exact ⟨_,[],rfl,h',rfl⟩
 | own els τ=>
   have h':=h
   simp only [aC] at h;obtain ⟨t,_,_,h3,_⟩:=h
   obtain ⟨b,l,c,rfl,_⟩:=cJ.1 h3
   simp only [bB,Value.cells,az];exact ⟨_,[],rfl,h',rfl⟩
 | bu s o=>
   have h':=h
   simp only [aC] at h;obtain ⟨b,_,rfl⟩:=h
   simp only [bB,Value.cells,az];exact ⟨_,[],rfl,h',rfl⟩
 | bI s z n ag=>
   have h':=h
   simp only [aC] at h;obtain ⟨b,c,_,rfl,_⟩:=h
   simp only [bB,Value.cells,az];exact ⟨_,[],rfl,h',rfl⟩
 | fn g cap=>
   have h':=h
   simp only [aC] at h;obtain ⟨f,vs,_,rfl,_⟩:=h
   simp only [bB,Value.cells,az];exact ⟨_,[],rfl,h',rfl⟩
 | jI=>
   have h':=h
   simp only [aC] at h
   rcases h with rfl | rfl
   · simp only [bB,Value.cells,az];exact ⟨_,[],rfl,h',rfl⟩
   · simp only [bB,Value.cells,az];exact ⟨_,[],rfl,h',rfl⟩
 | jJ s=>
   have h':=h
   simp only [aC] at h;obtain ⟨b,_,rfl⟩:=h
   simp only [bB,Value.cells,az];exact ⟨_,[],rfl,h',rfl⟩
 | fo kvs=>simp only [aC] at h
 | _=>simp [bB,bp] at hx
end
structure Pd (ρ:cx) (G:Gh) (w:World) (b:Nat) (r:la) (cells:List AV):Prop where
 role:G.role b=r
 at_:∃c t,w.heap[b]?=some (.cells c t (0,0))∧az ρ G cells c.toList
def nX (K:bE):List (PV×PV)→List MapEntry→Prop
 | [],es=>es=[]
 | (k,p)::r,es=>∃e es',es=e::es'∧Rel K k e.key∧Rel K p e.val∧nX K r es'
theorem nX.mono {K K':bE} (h:K.le K'):∀{kvs:List (PV×PV)} {es:List MapEntry},nX K kvs es→nX K' kvs es
 | [],_,hr=>hr
 | (_,_)::_,_,⟨e,es',e1,e3,e4,e5⟩=>⟨e,es',e1,e3.mono h,e4.mono h,nX.mono h e5⟩
def Holds (ρ:cx) (G:Gh) (o:Obj) (n:Nat) (cells:List AV):Prop:=
 (∃c t vs suf,o=.cells c t (0,0)∧c.size=n∧c.toList=vs++suf∧az ρ G cells vs)∨∃es clock kvs,o=.map es clock∧cells=[.fo kvs]∧nX G.K kvs es.toList
theorem Holds.full {ρ:cx} {G:Gh} {c:Array Value} {t:TypeId} {cells:List AV} (h:az ρ G cells c.toList):Holds ρ G (.cells c t (0,0)) c.size cells:=
 .inl ⟨c,t,c.toList,[],rfl,rfl,by simp,h⟩
structure uA (ρ:cx) (G:Gh) (w:World) (b:Nat×Nat) (r:la) (cells:List AV):Prop where
 role:G.role b.1=r
 at_:∃o,w.heap[b.1]?=some o∧Holds ρ G o b.2 cells
theorem Holds.to {ρ:cx} {G G':Gh} {o:Obj} {n:Nat} {cells cells':List AV} (h:Holds ρ G o n cells) (hK:G.K.le G'.K) (hm:∀kvs,cells=[.fo kvs]→cells'=[.fo kvs])
   (hc:∀vs,az ρ G cells vs→az ρ G' cells' vs):Holds ρ G' o n cells':=by
 rcases h with ⟨c,t,vs,suf,e,e3,e4,r⟩ | ⟨es,cl,kvs,e,e2,r⟩
 · exact .inl ⟨c,t,vs,suf,e,e3,e4,hc _ r⟩
 · exact .inr ⟨es,cl,kvs,e,hm kvs e2,r.mono hK⟩
theorem Holds.mono {ρ:cx} {G G':Gh} {o:Obj} {n:Nat} {cells:List AV} (h:G.le G') (hh:Holds ρ G o n cells):Holds ρ G' o n cells:=
 hh.to h.K (fun _ e=>e) (fun _ r=>r.mono h)
structure Nh (ρ:cx) (G:Gh) (w:World) (b:Nat×Nat) (r:la) (cells:List AV):Prop where
 role:G.role b.1=r
 at_:∃c t vs suf,w.heap[b.1]?=some (.cells c t (0,0))∧c.size=b.2∧c.toList=vs++suf∧az ρ G cells vs
theorem uA.cells {ρ:cx} {G:Gh} {w:World} {b:Nat×Nat} {r:la} {cells:List AV} (h:uA ρ G w b r cells) (hm:dC cells=false):Nh ρ G w b r cells:=by
 obtain ⟨h1,o,h2,h3⟩:=h
 rcases h3 with ⟨c,t,vs,suf,rfl,h4,h5,h6⟩ | ⟨es,cl,kvs,rfl,rfl,_⟩
 · exact ⟨h1,c,t,vs,suf,h2,h4,h5,h6⟩
 · simp [dC] at hm
theorem LB {ρ:cx} {G:Gh} {cells:List AV} {vs:List Value} (h:az ρ G cells vs):dC cells=false:=by
 cases cells with
 | nil=>rfl
 | cons c r=>
   cases c with
   | fo kvs=>simp [az,aC] at h
   | _=>rfl
structure Ni (G:Gh) (w:World) (τ:Nat) (t:Tk):Prop where
 cap:t.len≤t.cap
 zero:t.len=0→t.cap=0
 spare:t.len<t.cap∨t.own=true→∃b o c ty,t.base=some ⟨b,o,none⟩∧G.role b=.tok τ∧w.heap[b]?=some (.cells c ty (0,0)) ∧
   o+t.cap*t.sz≤c.size∧∀j v,G.K b j=some v→j<o+t.len*t.sz
structure Inv (ρ:cx) (G:Gh) (w:World) (mem:List (Nat×List AV)) (sh:Sh) (ah:aN):Prop where
 known:∀b o v,G.K b o=some v→w.cell? ⟨b,o,none⟩=some v
 bt:∀b o v,G.K b o=some v→G.role b=.eA∨∃τ,G.role b=.tok τ
 fresh:∀b,w.heap.size≤b→G.role b=.eA
 dk:∀d cells,look mem d=some cells→∃b,G.pm d=some b∧Pd ρ G w b (.kK d) cells∧cells.all bp=true
 gI:∀d b,G.pm d=some b→(look mem d).isSome=true
 dM:∀s cells,sh[s]?=some (some cells)→∃b,G.sm s=some b∧uA ρ G w b (.shr s) cells∧cells.all dP=true∧cells.all (aV (s+1))=true
 eE:∀s b,G.sm s=some b→s<sh.length
 dE:∀τ n,ah[τ]?=some n→∃t,G.tk τ=some t∧t.len=n∧Ni G w τ t
 eW:∀τ t,G.tk τ=some t→ah[τ]?=some t.len
 jM:∀b c,ρ.jM b=some c→G.role b=.eA∧∃t z,w.heap[b]?=some (.cells c t z)
structure lb (ρ:cx) (G:Gh) (N:Nat) (env:List (Nat×AV)) (a:Act):Prop where
 size:a.tmps.size=N
 env:∀t x,look env t=some x→∃v,a.tmps[t]?=some v∧aC ρ G x v
def Marks (n0:Nat) (G:Gh) (a:Act) (w:World):Prop:=
 n0≤w.heap.size∧∃Ds:List Nat,a.defers=Ds.map (fun D=>{ target:=.collected D,args:=#[] })∧Ds.Nodup ∧
   ∀D∈Ds,n0≤D∧D<w.heap.size∧G.role D=.eA∧w.heap[D]?=some (.deferred (some []))
structure gO (ρ:cx) (n0 N:Nat) (G:Gh) (st:St) (a:Act) (w:World):Prop where
 env:lb ρ G N st.env a
 inv:Inv ρ G w st.mem st.sh st.ah
 marks:Marks n0 G a w
structure cp (G:Gh) (w:World) (G':Gh) (w':World):Prop where
 size:w.heap.size≤w'.heap.size
 os:w'.os=w.os
 tape:w'.tape=w.tape
 output:w'.output=w.output
 K:G.K.le G'.K
 sm:∀s b,G.sm s=some b→G'.sm s=some b
 eA:∀b,b<w.heap.size→G.role b=.eA→G'.role b=.eA∧w'.heap[b]?=w.heap[b]?
 iD:∀b τ,b<w.heap.size→G.role b=.tok τ→G'.role b=.eA∨∃τ',G'.role b=.tok τ'
 gJ:∀b o v,b<w.heap.size→G.role b=.eA→G'.K b o=some v→G.K b o=some v
theorem cp.refl (G:Gh) (w:World):cp G w G w:=
 ⟨Nat.le_refl _,rfl,rfl,rfl,G.K.le_refl,fun _ _ h=>h,fun _ _ h=>⟨h,rfl⟩,fun _ τ _ h=>.inr ⟨τ,h⟩,fun _ _ _ _ _ h=>h⟩
theorem cp.trans {G₁ G₂ G₃:Gh} {w₁ w₂ w₃:World} (h:cp G₁ w₁ G₂ w₂) (k:cp G₂ w₂ G₃ w₃):cp G₁ w₁ G₃ w₃ where
 size:=Nat.le_trans h.size k.size
 os:=k.os.trans h.os
 tape:=k.tape.trans h.tape
 output:=k.output.trans h.output
 K:=bE.le_trans h.K k.K
 sm:=fun s b e=>k.sm _ _ (h.sm s b e)
 eA:=fun b hb hr=>by
   obtain ⟨h1,h2⟩:=h.eA b hb hr
   obtain ⟨k1,k2⟩:=k.eA b (Nat.lt_of_lt_of_le hb h.size) h1
   exact ⟨k1,k2.trans h2⟩
 iD:=fun b τ hb hr=>by
   rcases h.iD b τ hb hr with h1 | ⟨τ',h1⟩
   · exact .inl (k.eA b (Nat.lt_of_lt_of_le hb h.size) h1).1
   · exact k.iD b τ' (Nat.lt_of_lt_of_le hb h.size) h1
 gJ:=fun b o v hb hr hk=>h.gJ b o v hb hr (k.gJ b o v (Nat.lt_of_lt_of_le hb h.size) (h.eA b hb hr).1 hk)
theorem Marks.oT {n0:Nat} {G G':Gh} {a a':Act} {w w':World} (h:Marks n0 G a w) (he:cp G w G' w') (hd:a'.defers=a.defers):Marks n0 G' a' w':=by
 obtain ⟨e0,Ds,e1,e2,e3⟩:=h
 refine ⟨Nat.le_trans e0 he.size,Ds,hd.trans e1,e2,fun D hD=>?_⟩
 obtain ⟨f0,f1,f2,f3⟩:=e3 D hD
 obtain ⟨g1,g2⟩:=he.eA D f1 f2
 exact ⟨f0,Nat.lt_of_lt_of_le f1 he.size,g1,g2.trans f3⟩
theorem Inv.gZ {ρ:cx} {G G':Gh} {w w':World} {mem:List (Nat×List AV)} {sh:Sh} {ah:aN} (h:Inv ρ G w mem sh ah) (he:cp G w G' w') :
   ∀b c,ρ.jM b=some c→G'.role b=.eA∧∃t z,w'.heap[b]?=some (.cells c t z):=fun b c hb=>by
 obtain ⟨h1,t,z,h2⟩:=h.jM b c hb
 obtain ⟨k1,k2⟩:=he.eA b (Array.getElem?_eq_some_iff.1 h2).1 h1
 exact ⟨k1,t,z,k2.trans h2⟩
theorem cp.drew (G:Gh) (w:World):cp G w G w.drew:=
 ⟨Nat.le_refl _,rfl,rfl,rfl,G.K.le_refl,fun _ _ h=>h,fun _ _ h=>⟨h,rfl⟩,fun _ τ _ h=>.inr ⟨τ,h⟩,fun _ _ _ _ _ h=>h⟩
theorem Inv.drew {ρ:cx} {G:Gh} {w:World} {mem:List (Nat×List AV)} {sh:Sh} {ah:aN} (h:Inv ρ G w mem sh ah):Inv ρ G w.drew mem sh ah where
 known:=h.known
 bt:=h.bt
 fresh:=h.fresh
 dk:=fun d cells e=>by obtain ⟨b,e1,e2,e3⟩:=h.dk d cells e;exact ⟨b,e1,⟨e2.role,e2.at_⟩,e3⟩
 gI:=h.gI
 dM:=fun d cells e=>by obtain ⟨b,e1,e2,e3⟩:=h.dM d cells e;exact ⟨b,e1,⟨e2.role,e2.at_⟩,e3⟩
 eE:=h.eE
 dE:=fun τ n e=>by obtain ⟨t,e1,e2,e3⟩:=h.dE τ n e;exact ⟨t,e1,e2,⟨e3.cap,e3.zero,e3.spare⟩⟩
 eW:=h.eW
 jM:=h.jM
end Go.Ab
