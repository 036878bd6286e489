import Derived.Test.YthcoecdbgdhihaaGreatDoorAbRel
import Derived.Below
/-
  The relation between an abstract state and a state of the model.
-/
set_option linter.unusedVariables false
set_option linter.unusedSimpArgs false
set_option linter.unnecessarySimpa false
set_option maxRecDepth 100000
set_option maxHeartbeats 8000000
namespace Go.Ab
inductive lr where
 | eE | kT (d:Nat) | shr (b:Nat) | tok (τ:Nat)
 deriving DecidableEq
structure Tk where
 base:Option Addr
 len:Nat
 cap:Nat
 sz:Nat
 own:Bool:=false
def Tk.val (t:Tk):Value:=.slice t.base t.len t.cap
def Tk.dead (t:Tk):Prop:=t.base=none∧0<t.len
def Tk.on (t t':Tk):Prop:=(t.dead→t'.dead)∧(t'.dead∨t.cap<t'.len∨(t'.base=t.base∧t'.cap=t.cap∧(t'=t∨t'.own=true)))
def Tk.Oe (t:Tk) (v:Value):Prop:=t.dead∨∃base len cap,v=.slice base len cap∧(cap<t.len∨(base=t.base∧cap=t.cap∧(len=t.len∨t.own=true)))
theorem Tk.gM (t:Tk):t.on t:=⟨id,.inr (.inr ⟨rfl,rfl,.inl rfl⟩)⟩
theorem Tk.Gz {a b c:Tk} (h:a.on b) (k:b.on c) (hl:b.len≤c.len):a.on c:=by
 refine ⟨fun d=>k.1 (h.1 d),?_⟩;rcases h.2 with d | hc | ⟨e1,e2,e3⟩
 · exact .inl (k.1 d)
 · exact .inr (.inl (by omega))
 · rcases k.2 with d | hc | ⟨f1,f2,f3⟩
   · exact .inl d
   · exact .inr (.inl (by omega))
   · refine .inr (.inr ⟨f1.trans e1,f2.trans e2,?_⟩);rcases f3 with rfl | f3
     · exact e3
     · exact .inr f3
theorem Tk.qn (t:Tk):t.Oe t.val:=.inr ⟨_,_,_,rfl,.inr ⟨rfl,rfl,.inl rfl⟩⟩
theorem Tk.Ms {t t':Tk} {v:Value} (h:t.Oe v) (k:t.on t') (hl:t.len≤t'.len):t'.Oe v:=by
 rcases h with d | ⟨base,len,cap,e,h⟩
 · exact .inl (k.1 d)
 · rcases k.2 with d | hc | ⟨e1,e2,e3⟩
   · exact .inl d
   · refine .inr ⟨base,len,cap,e,.inl ?_⟩;rcases h with h | ⟨_,h,_⟩<;>omega
   · refine .inr ⟨base,len,cap,e,?_⟩;rcases h with h | ⟨h1,h2,h3⟩
     · exact .inl (by omega)
     · refine .inr ⟨h1.trans e1.symm,h2.trans e2.symm,?_⟩;rcases e3 with rfl | e3
       · exact h3
       · exact .inr e3
structure Gh where
 K:bJ
 role:Nat→lr
 pm:Nat→Option Nat
 sm:Nat→Option (Nat×Nat)
 tk:Nat→Option Tk
structure cy where
 r:Nat→Nat→Prop
 jS:Nat→Option (Array Value)
mutual
def aC (ρ:cy) (G:Gh):AV→Value→Prop
 | .un,v=>v=undef
 | .pv p,v=>Rel G.K p v
 | .bM els,v=>∃base len,v=.slice base len len∧Ly G.K els base len
 | .own els τ,v=>∃t,G.tk τ=some t∧(els.length≤t.len∧t.Oe v)∧Rel G.K (.aI els) v ∧
     (els.length=t.len→v=t.val∧(els=[]∨∃b o,t.base=some ⟨b,o,none⟩∧Row G.K b o t.sz els))
 | .agg cs,v=>∃vs:List Value,v=.agg vs.toArray∧aB ρ G cs vs
 | .pg cs,v=>∃vs:List Value,v=.tuple vs.toArray∧aB ρ G cs vs
 | .aG d off,v=>∃b,G.pm d=some b∧v=.pointer (some ⟨b,off,none⟩)
 | .br s off,v=>∃b,G.sm s=some b∧v=.pointer (some ⟨b.1,off,none⟩)
 | .gf cs,v=>∃b o vs,v=.pointer (some ⟨b,o,none⟩)∧At G.K b o vs∧dV G.K cs vs
 | .bE s z n _,v=>∃b cap,G.sm s=some b∧v=.slice (some ⟨b.1,0,none⟩) n (n+cap)∧(n+cap)*z≤b.2
 | .fn g cap,v=>∃f vs,ρ.r g f∧v=.func (.func f) #[] (List.toArray vs)∧aB ρ G cap vs
 | .jN,v=>v=.pointer none∨v=.nilFunc
 | .jO s,v=>∃b,G.sm s=some b∧v=.map (some b.1)
 | .fF _,_=>False
 | .jP d n,v=>∃b,G.pm d=some b∧v=.slice (some ⟨b,0,none⟩) n n
 | .oA s off n,v=>∃b base cap,G.sm s=some b∧v=.slice base n cap∧(n=0∨base=some ⟨b.1,off,none⟩)
def aB (ρ:cy) (G:Gh):List AV→List Value→Prop
 | [],vs=>vs=[]
 | c::cs,vs=>∃v r,vs=v::r∧aC ρ G c v∧aB ρ G cs r
end
structure Gh.le (G G':Gh):Prop where
 K:G.K.le G'.K
 pm:∀d b,G.pm d=some b→G'.pm d=some b
 sm:∀d b,G.sm d=some b→G'.sm d=some b
 tk:∀τ t,G.tk τ=some t→∃t',G'.tk τ=some t'∧(t.len≤t'.len∧t.on t')∧(t.len=t'.len→t'=t)
theorem Gh.le_refl (G:Gh):G.le G:=⟨G.K.le_refl,fun _ _ h=>h,fun _ _ h=>h,fun _ t h=>⟨t,h,⟨Nat.le_refl _,t.gM⟩,fun _=>rfl⟩⟩
theorem Gh.le_trans {a b c:Gh} (h:a.le b) (k:b.le c):a.le c:=
 ⟨bJ.le_trans h.K k.K,fun x y e=>k.pm _ _ (h.pm x y e),fun x y e=>k.sm _ _ (h.sm x y e),fun τ t e=>by
   obtain ⟨t',e1,e2,e3⟩:=h.tk τ t e;obtain ⟨t'',f1,f2,f3⟩:=k.tk τ t' e1;exact ⟨t'',f1,⟨Nat.le_trans e2.1 f2.1,Tk.Gz e2.2 f2.2 f2.1⟩,fun hl=>by
     have h1:t.len=t'.len:=Nat.le_antisymm e2.1 (hl ▸ f2.1);have h2:t'.len=t''.len:=h1 ▸ hl;rw [f3 h2,e3 h1]⟩⟩
section
variable {ρ:cy} {G G':Gh}
mutual
theorem aC.mono (h:G.le G'):∀{x:AV} {v:Value},aC ρ G x v→aC ρ G' x v
 | .un,_,hr=>by simpa only [aC] using hr
 | .pv p,_,hr=>by simp only [aC] at hr ⊢;exact hr.mono h.K
 | .bM els,_,hr=>by
   simp only [aC] at hr ⊢;obtain ⟨b,l,e,r⟩:=hr;exact ⟨b,l,e,r.mono h.K⟩
 | .own els τ,v,hr=>by
   simp only [aC] at hr ⊢;obtain ⟨t,e1,e2,e3,e4⟩:=hr;obtain ⟨t',f1,f2,f3⟩:=h.tk τ t e1;refine ⟨t',f1,⟨Nat.le_trans e2.1 f2.1,Tk.Ms e2.2 f2.2 f2.1⟩,e3.mono h.K,fun hl=>?_⟩;have h1:els.length=t.len:=Nat.le_antisymm e2.1 (hl ▸ f2.1);have h2:=f3 (h1 ▸ hl);subst h2;obtain ⟨g1,g2⟩:=e4 h1;exact ⟨g1,JH g2 fun ⟨b,o,e,r⟩=>⟨b,o,e,Row.mono h.K _ _ _ _ r⟩⟩
 | .agg cs,_,hr=>by
   simp only [aC] at hr ⊢;obtain ⟨vs,e,r⟩:=hr;exact ⟨vs,e,aB.mono h r⟩
 | .pg cs,_,hr=>by
   simp only [aC] at hr ⊢;obtain ⟨vs,e,r⟩:=hr;exact ⟨vs,e,aB.mono h r⟩
 | .aG d off,_,hr=>by
   simp only [aC] at hr ⊢;obtain ⟨b,e,r⟩:=hr;exact ⟨b,h.pm _ _ e,r⟩
 | .br d off,_,hr=>by
   simp only [aC] at hr ⊢;obtain ⟨b,e,r⟩:=hr;exact ⟨b,h.sm _ _ e,r⟩
 | .gf cs,_,hr=>by
   simp only [aC] at hr ⊢;obtain ⟨b,o,vs,e,f,r⟩:=hr;exact ⟨b,o,vs,e,f.mono h.K,dV.mono h.K _ _ r⟩
 | .bE s _ n _,_,hr=>by
   simp only [aC] at hr ⊢;obtain ⟨b,c,e,r⟩:=hr;exact ⟨b,c,h.sm _ _ e,r⟩
 | .fn g cap,_,hr=>by
   simp only [aC] at hr ⊢;obtain ⟨f,vs,e1,e2,r⟩:=hr;exact ⟨f,vs,e1,e2,aB.mono h r⟩
 | .jN,_,hr=>by simpa only [aC] using hr
 | .jO s,_,hr=>by
   simp only [aC] at hr ⊢;obtain ⟨b,e,r⟩:=hr;exact ⟨b,h.sm _ _ e,r⟩
 | .fF _,_,hr=>by simp only [aC] at hr
 | .oA s _ _,_,hr=>by
   simp only [aC] at hr ⊢;obtain ⟨b,x,c,e,r⟩:=hr;exact ⟨b,x,c,h.sm _ _ e,r⟩
 | .jP d _,_,hr=>by
   simp only [aC] at hr ⊢;obtain ⟨b,e,r⟩:=hr;exact ⟨b,h.pm _ _ e,r⟩
theorem aB.mono (h:G.le G'):∀{xs:List AV} {vs:List Value},aB ρ G xs vs→aB ρ G' xs vs
 | [],_,hr=>by simpa only [aB] using hr
 | _::_,_,hr=>by
   simp only [aB] at hr ⊢;obtain ⟨v,r,e,e1,e2⟩:=hr;exact ⟨v,r,e,aC.mono h e1,aB.mono h e2⟩
end
theorem aB.length:∀{xs:List AV} {vs:List Value},aB ρ G xs vs→vs.length=xs.length
 | [],_,hr=>by simp only [aB] at hr;simp [hr]
 | _::_,_,hr=>by
   simp only [aB] at hr;obtain ⟨v,r,rfl,_,e2⟩:=hr;simp [aB.length e2]
theorem aB.get:∀{xs:List AV} {vs:List Value},aB ρ G xs vs→∀{j:Nat} {x:AV},xs[j]?=some x→∃v,vs[j]?=some v∧aC ρ G x v
 | [],_,_,j,x,hc=>by simp at hc
 | x0::xs,_,hr,j,x,hc=>by
   simp only [aB] at hr;obtain ⟨v,r,rfl,e1,e2⟩:=hr;cases j with
   | zero=>simp at hc;subst hc;exact ⟨v,by simp,e1⟩
   | succ j=>simpa using aB.get e2 (by simpa using hc)
theorem aB.drop:∀(n:Nat) {xs:List AV} {vs:List Value},aB ρ G xs vs→aB ρ G (xs.drop n) (vs.drop n)
 | 0,_,_,h=>by simpa using h
 | n+1,[],_,h=>by simp only [aB] at h;subst h;simp [aB]
 | n+1,_::cs,_,h=>by
   simp only [aB] at h;obtain ⟨v,r,rfl,_,e3⟩:=h;simpa using aB.drop n e3
theorem aB.take:∀(n:Nat) {xs:List AV} {vs:List Value},aB ρ G xs vs→aB ρ G (xs.take n) (vs.take n)
 | 0,_,_,_=>by simp [aB]
 | n+1,[],_,h=>by simp only [aB] at h;subst h;simp [aB]
 | n+1,_::cs,_,h=>by
   simp only [aB] at h;obtain ⟨v,r,rfl,e2,e3⟩:=h;simp only [List.take_succ_cons,aB];exact ⟨v,_,rfl,e2,aB.take n e3⟩
theorem aB.append:∀{xs:List AV} {vs:List Value} {ys:List AV} {us:List Value},aB ρ G xs vs→aB ρ G ys us→aB ρ G (xs++ys) (vs++us)
 | [],_,_,_,h,k=>by simp only [aB] at h;subst h;simpa using k
 | _::cs,_,_,_,h,k=>by
   simp only [aB] at h;obtain ⟨v,r,rfl,e2,e3⟩:=h;simp only [List.cons_append,aB];exact ⟨v,_,rfl,e2,aB.append e3 k⟩
theorem iu:∀{cs:List PV} {vs:List Value},dV G.K cs vs→aB ρ G (cs.map .pv) vs
 | [],_,h=>by simp only [dV] at h;subst h;simp [aB]
 | _::cs,_,h=>by
   simp only [dV] at h;obtain ⟨v,r,rfl,e2,e3⟩:=h;simp only [List.map_cons,aB];exact ⟨v,r,rfl,by simp only [aC];exact Rel.Jy e2,iu e3⟩
theorem gi:∀{cs:List PV} {vs:List Value},iZ G.K cs vs→aB ρ G (cs.map .pv) vs
 | [],_,h=>by cases h;simp [aB]
 | _::cs,_,⟨v,r,e1,e2,e3⟩=>by
   subst e1;simp only [List.map_cons,aB];exact ⟨v,r,rfl,by simp only [aC];exact e2,gi e3⟩
theorem aC.cells {x:AV} {v:Value} (h:aC ρ G x v) (hx:(bF x).all bp=true):aB ρ G (bF x) v.cells.toList:=by
 cases x with
 | agg cs=>simp only [aC] at h;obtain ⟨vs,rfl,r⟩:=h;simpa [bF,Value.cells] using r
 | pv p=>
   cases p with
   | agg cs=>
     simp only [aC,Rel] at h;obtain ⟨vs,rfl,r⟩:=h;simpa [bF,Value.cells] using iu r
   | bool b=>have h':=h;simp only [aC,Rel,R] at h;simp at h;subst h;simp only [bF,Value.cells,aB];exact ⟨_,[],rfl,h',rfl⟩
   | int k n=>have h':=h;simp only [aC,Rel,R] at h;simp at h;subst h;simp only [bF,Value.cells,aB];exact ⟨_,[],rfl,h',rfl⟩
   | str s=>have h':=h;simp only [aC,Rel,R] at h;simp at h;subst h;simp only [bF,Value.cells,aB];exact ⟨_,[],rfl,h',rfl⟩
   | aI els=>
     have h':=h;simp only [aC] at h;obtain ⟨b,l,c,rfl,_⟩:=cK.1 h;simp only [bF,Value.cells,aB];exact ⟨_,[],rfl,h',rfl⟩
 | bM els=>
   have h':=h;simp only [aC] at h;obtain ⟨b,l,rfl,_⟩:=h;simp only [bF,Value.cells,aB];exact ⟨_,[],rfl,h',rfl⟩
 | own els τ=>
   have h':=h;simp only [aC] at h;obtain ⟨t,_,_,h3,_⟩:=h;obtain ⟨b,l,c,rfl,_⟩:=cK.1 h3;simp only [bF,Value.cells,aB];exact ⟨_,[],rfl,h',rfl⟩
 | br s o=>
   have h':=h;simp only [aC] at h;obtain ⟨b,_,rfl⟩:=h;simp only [bF,Value.cells,aB];exact ⟨_,[],rfl,h',rfl⟩
 | bE s z n ag=>
   have h':=h;simp only [aC] at h;obtain ⟨b,c,_,rfl,_⟩:=h;simp only [bF,Value.cells,aB];exact ⟨_,[],rfl,h',rfl⟩
 | fn g cap=>
   have h':=h;simp only [aC] at h;obtain ⟨f,vs,_,rfl,_⟩:=h;simp only [bF,Value.cells,aB];exact ⟨_,[],rfl,h',rfl⟩
 | jN=>
   have h':=h;simp only [aC] at h;rcases h with rfl | rfl
   · simp only [bF,Value.cells,aB];exact ⟨_,[],rfl,h',rfl⟩
   · simp only [bF,Value.cells,aB];exact ⟨_,[],rfl,h',rfl⟩
 | jO s=>
   have h':=h;simp only [aC] at h;obtain ⟨b,_,rfl⟩:=h;simp only [bF,Value.cells,aB];exact ⟨_,[],rfl,h',rfl⟩
 | fF kvs=>simp only [aC] at h
 | _=>simp [bF,bp] at hx
end
structure Qj (ρ:cy) (G:Gh) (w:World) (b:Nat) (r:lr) (cells:List AV):Prop where
 role:G.role b=r
 at_:∃c t,w.heap[b]?=some (.cells c t (0,0))∧aB ρ G cells c.toList
def oC (K:bJ):List (PV×PV)→List MapEntry→Prop
 | [],es=>es=[]
 | (k,p)::r,es=>∃e es',es=e::es'∧Rel K k e.key∧Rel K p e.val∧oC K r es'
theorem oC.mono {K K':bJ} (h:K.le K'):∀{kvs:List (PV×PV)} {es:List MapEntry},oC K kvs es→oC K' kvs es
 | [],_,hr=>hr
 | (_,_)::_,_,⟨e,es',e1,e3,e4,e5⟩=>⟨e,es',e1,e3.mono h,e4.mono h,oC.mono h e5⟩
def Holds (ρ:cy) (G:Gh) (o:Obj) (n:Nat) (cells:List AV):Prop:=
 (∃c t vs suf,o=.cells c t (0,0)∧c.size=n∧c.toList=vs++suf∧aB ρ G cells vs)∨∃es clock kvs,o=.map es clock∧cells=[.fF kvs]∧oC G.K kvs es.toList
theorem Holds.full {ρ:cy} {G:Gh} {c:Array Value} {t:TypeId} {cells:List AV} (h:aB ρ G cells c.toList):Holds ρ G (.cells c t (0,0)) c.size cells:=
 .inl ⟨c,t,c.toList,[],rfl,rfl,by simp,h⟩
structure uW (ρ:cy) (G:Gh) (w:World) (b:Nat×Nat) (r:lr) (cells:List AV):Prop where
 role:G.role b.1=r
 at_:∃o,w.heap[b.1]?=some o∧Holds ρ G o b.2 cells
theorem Holds.to {ρ:cy} {G G':Gh} {o:Obj} {n:Nat} {cells cells':List AV} (h:Holds ρ G o n cells) (hK:G.K.le G'.K) (hm:∀kvs,cells=[.fF kvs]→cells'=[.fF kvs])
   (hc:∀vs,aB ρ G cells vs→aB ρ G' cells' vs):Holds ρ G' o n cells':=by
 rcases h with ⟨c,t,vs,suf,e,e3,e4,r⟩ | ⟨es,cl,kvs,e,e2,r⟩
 · exact .inl ⟨c,t,vs,suf,e,e3,e4,hc _ r⟩
 · exact .inr ⟨es,cl,kvs,e,hm kvs e2,r.mono hK⟩
theorem Holds.mono {ρ:cy} {G G':Gh} {o:Obj} {n:Nat} {cells:List AV} (h:G.le G') (hh:Holds ρ G o n cells):Holds ρ G' o n cells:=
 hh.to h.K (fun _ e=>e) (fun _ r=>r.mono h)
structure Of (ρ:cy) (G:Gh) (w:World) (b:Nat×Nat) (r:lr) (cells:List AV):Prop where
 role:G.role b.1=r
 at_:∃c t vs suf,w.heap[b.1]?=some (.cells c t (0,0))∧c.size=b.2∧c.toList=vs++suf∧aB ρ G cells vs
theorem uW.cells {ρ:cy} {G:Gh} {w:World} {b:Nat×Nat} {r:lr} {cells:List AV} (h:uW ρ G w b r cells) (hm:dr cells=false):Of ρ G w b r cells:=by
 obtain ⟨h1,o,h2,h3⟩:=h;rcases h3 with ⟨c,t,vs,suf,rfl,h4,h5,h6⟩ | ⟨es,cl,kvs,rfl,rfl,_⟩
 · exact ⟨h1,c,t,vs,suf,h2,h4,h5,h6⟩
 · simp [dr] at hm
theorem Mu {ρ:cy} {G:Gh} {cells:List AV} {vs:List Value} (h:aB ρ G cells vs):dr cells=false:=by
 cases cells with
 | nil=>rfl
 | cons c r=>
   cases c with
   | fF kvs=>simp [aB,aC] at h
   | _=>rfl
structure Og (G:Gh) (w:World) (τ:Nat) (t:Tk):Prop where
 cap:t.len≤t.cap
 zero:t.len=0→t.cap=0
 spare:t.len<t.cap∨t.own=true→∃b o c ty,t.base=some ⟨b,o,none⟩∧G.role b=.tok τ∧w.heap[b]?=some (.cells c ty (0,0)) ∧
   o+t.cap*t.sz≤c.size∧∀j v,G.K b j=some v→j<o+t.len*t.sz
structure Inv (ρ:cy) (G:Gh) (w:World) (mem:List (Nat×List AV)) (sh:Sh) (ah:aN):Prop where
 known:∀b o v,G.K b o=some v→w.cell? ⟨b,o,none⟩=some v
 bz:∀b o v,G.K b o=some v→G.role b=.eE∨∃τ,G.role b=.tok τ
 fresh:∀b,w.heap.size≤b→G.role b=.eE
 dq:∀d cells,look mem d=some cells→∃b,G.pm d=some b∧Qj ρ G w b (.kT d) cells∧cells.all bp=true
 gN:∀d b,G.pm d=some b→(look mem d).isSome=true
 dP:∀s cells,sh[s]?=some (some cells)→∃b,G.sm s=some b∧uW ρ G w b (.shr s) cells∧cells.all dS=true∧cells.all (aW (s+1))=true
 eJ:∀s b,G.sm s=some b→s<sh.length
 dI:∀τ n,ah[τ]?=some n→∃t,G.tk τ=some t∧t.len=n∧Og G w τ t
 fc:∀τ t,G.tk τ=some t→ah[τ]?=some t.len
 jS:∀b c,ρ.jS b=some c→G.role b=.eE∧∃t z,w.heap[b]?=some (.cells c t z)
structure lu (ρ:cy) (G:Gh) (N:Nat) (env:List (Nat×AV)) (a:Act):Prop where
 size:a.tmps.size=N
 env:∀t x,look env t=some x→∃v,a.tmps[t]?=some v∧aC ρ G x v
def Marks (n0:Nat) (G:Gh) (a:Act) (w:World):Prop:=
 n0≤w.heap.size∧∃Ds:List Nat,a.defers=Ds.map (fun D=>{ target:=.collected D,args:=#[] })∧Ds.Nodup ∧
   ∀D∈Ds,n0≤D∧D<w.heap.size∧G.role D=.eE∧w.heap[D]?=some (.deferred (some []))
structure gT (ρ:cy) (n0 N:Nat) (G:Gh) (st:St) (a:Act) (w:World):Prop where
 env:lu ρ G N st.env a
 inv:Inv ρ G w st.mem st.sh st.ah
 marks:Marks n0 G a w
structure cq (G:Gh) (w:World) (G':Gh) (w':World):Prop where
 size:w.heap.size≤w'.heap.size
 os:w'.os=w.os
 tape:w'.tape=w.tape
 output:w'.output=w.output
 K:G.K.le G'.K
 sm:∀s b,G.sm s=some b→G'.sm s=some b
 eE:∀b,b<w.heap.size→G.role b=.eE→G'.role b=.eE∧w'.heap[b]?=w.heap[b]?
 iG:∀b τ,b<w.heap.size→G.role b=.tok τ→G'.role b=.eE∨∃τ',G'.role b=.tok τ'
 gO:∀b o v,b<w.heap.size→G.role b=.eE→G'.K b o=some v→G.K b o=some v
theorem cq.refl (G:Gh) (w:World):cq G w G w:=
 ⟨Nat.le_refl _,rfl,rfl,rfl,G.K.le_refl,fun _ _ h=>h,fun _ _ h=>⟨h,rfl⟩,fun _ τ _ h=>.inr ⟨τ,h⟩,fun _ _ _ _ _ h=>h⟩
theorem cq.trans {G₁ G₂ G₃:Gh} {w₁ w₂ w₃:World} (h:cq G₁ w₁ G₂ w₂) (k:cq G₂ w₂ G₃ w₃):cq G₁ w₁ G₃ w₃ where
 size:=Nat.le_trans h.size k.size
 os:=k.os.trans h.os
 tape:=k.tape.trans h.tape
 output:=k.output.trans h.output
 K:=bJ.le_trans h.K k.K
 sm:=fun s b e=>k.sm _ _ (h.sm s b e)
 eE:=fun b hb hr=>by
   obtain ⟨h1,h2⟩:=h.eE b hb hr;obtain ⟨k1,k2⟩:=k.eE b (Nat.lt_of_lt_of_le hb h.size) h1;exact ⟨k1,k2.trans h2⟩
 iG:=fun b τ hb hr=>by
   rcases h.iG b τ hb hr with h1 | ⟨τ',h1⟩
   · exact .inl (k.eE b (Nat.lt_of_lt_of_le hb h.size) h1).1
   · exact k.iG b τ' (Nat.lt_of_lt_of_le hb h.size) h1
 gO:=fun b o v hb hr hk=>h.gO b o v hb hr (k.gO b o v (Nat.lt_of_lt_of_le hb h.size) (h.eE b hb hr).1 hk)
theorem Marks.pn {n0:Nat} {G G':Gh} {a a':Act} {w w':World} (h:Marks n0 G a w) (he:cq G w G' w') (hd:a'.defers=a.defers):Marks n0 G' a' w':=by
 obtain ⟨e0,Ds,e1,e2,e3⟩:=h;refine ⟨Nat.le_trans e0 he.size,Ds,hd.trans e1,e2,fun D hD=>?_⟩;obtain ⟨f0,f1,f2,f3⟩:=e3 D hD;obtain ⟨g1,g2⟩:=he.eE D f1 f2;exact ⟨f0,Nat.lt_of_lt_of_le f1 he.size,g1,g2.trans f3⟩
theorem Inv.h_ {ρ:cy} {G G':Gh} {w w':World} {mem:List (Nat×List AV)} {sh:Sh} {ah:aN} (h:Inv ρ G w mem sh ah) (he:cq G w G' w') :
   ∀b c,ρ.jS b=some c→G'.role b=.eE∧∃t z,w'.heap[b]?=some (.cells c t z):=fun b c hb=>by
 obtain ⟨h1,t,z,h2⟩:=h.jS b c hb;obtain ⟨k1,k2⟩:=he.eE b (Array.getElem?_eq_some_iff.1 h2).1 h1;exact ⟨k1,t,z,k2.trans h2⟩
theorem cq.drew (G:Gh) (w:World):cq G w G w.drew:=
 ⟨Nat.le_refl _,rfl,rfl,rfl,G.K.le_refl,fun _ _ h=>h,fun _ _ h=>⟨h,rfl⟩,fun _ τ _ h=>.inr ⟨τ,h⟩,fun _ _ _ _ _ h=>h⟩
theorem Inv.drew {ρ:cy} {G:Gh} {w:World} {mem:List (Nat×List AV)} {sh:Sh} {ah:aN} (h:Inv ρ G w mem sh ah):Inv ρ G w.drew mem sh ah where
 known:=h.known
 bz:=h.bz
 fresh:=h.fresh
 dq:=fun d cells e=>by obtain ⟨b,e1,e2,e3⟩:=h.dq d cells e;exact ⟨b,e1,⟨e2.role,e2.at_⟩,e3⟩
 gN:=h.gN
 dP:=fun d cells e=>by obtain ⟨b,e1,e2,e3⟩:=h.dP d cells e;exact ⟨b,e1,⟨e2.role,e2.at_⟩,e3⟩
 eJ:=h.eJ
 dI:=fun τ n e=>by obtain ⟨t,e1,e2,e3⟩:=h.dI τ n e;exact ⟨t,e1,e2,⟨e3.cap,e3.zero,e3.spare⟩⟩
 fc:=h.fc
 jS:=h.jS
end Go.Ab
