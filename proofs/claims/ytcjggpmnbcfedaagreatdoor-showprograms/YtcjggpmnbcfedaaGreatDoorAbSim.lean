import Derived.Test.YtcjggpmnbcfedaaGreatDoorAbRel
import Derived.Below
/-
  The relation between an abstract state and a state of the model.
-/
set_option linter.unusedVariables false
set_option linter.unusedSimpArgs false
set_option linter.unnecessarySimpa false
set_option maxRecDepth 100000
set_option maxHeartbeats 8000000
namespace Go.Ab
inductive lX where
 | d_ | lK (d:Nat) | shr (b:Nat) | tok (τ:Nat)
 deriving DecidableEq
structure Tk where
 base:Option Addr
 len:Nat
 cap:Nat
 sz:Nat
 own:Bool:=false
def Tk.val (t:Tk):Value:=.slice t.base t.len t.cap
def Tk.dead (t:Tk):Prop:=t.base=none∧0<t.len
def Tk.on (t t':Tk):Prop:=(t.dead→t'.dead)∧(t'.dead∨t.cap<t'.len∨(t'.base=t.base∧t'.cap=t.cap∧(t'=t∨t'.own=true)))
def Tk.Rf (t:Tk) (v:Value):Prop:=t.dead∨∃base len cap,v=.slice base len cap∧(cap<t.len∨(base=t.base∧cap=t.cap∧(len=t.len∨t.own=true)))
theorem Tk.gZ (t:Tk):t.on t:=⟨id,.inr (.inr ⟨rfl,rfl,.inl rfl⟩)⟩
theorem Tk.Jb {a b c:Tk} (h:a.on b) (k:b.on c) (hl:b.len≤c.len):a.on c:=by
 refine ⟨fun d=>k.1 (h.1 d),?_⟩
 rcases h.2 with d | hc | ⟨e1,e2,e3⟩
 · exact .inl (k.1 d)
 · exact .inr (.inl (by omega))
 · rcases k.2 with d | hc | ⟨f1,f2,f3⟩
   · exact .inl d
   · exact .inr (.inl (by omega))
   · refine .inr (.inr ⟨f1.trans e1,f2.trans e2,?_⟩)
     rcases f3 with rfl | f3
     · exact e3
     · exact .inr f3
theorem Tk.rp (t:Tk):t.Rf t.val:=.inr ⟨_,_,_,rfl,.inr ⟨rfl,rfl,.inl rfl⟩⟩
theorem Tk.PE {t t':Tk} {v:Value} (h:t.Rf v) (k:t.on t') (hl:t.len≤t'.len):t'.Rf v:=by
 rcases h with d | ⟨base,len,cap,e,h⟩
 · exact .inl (k.1 d)
 · rcases k.2 with d | hc | ⟨e1,e2,e3⟩
   · exact .inl d
   · refine .inr ⟨base,len,cap,e,.inl ?_⟩
     rcases h with h | ⟨_,h,_⟩<;>omega
   · refine .inr ⟨base,len,cap,e,?_⟩
     rcases h with h | ⟨h1,h2,h3⟩
     · exact .inl (by omega)
     · refine .inr ⟨h1.trans e1.symm,h2.trans e2.symm,?_⟩
       rcases e3 with rfl | e3
       · exact h3
       · exact .inr e3
structure Gh where
 K:bB
 role:Nat→lX
 pm:Nat→Option Nat
 sm:Nat→Option (Nat×Nat)
 tk:Nat→Option Tk
abbrev cr:=Nat→Nat→Prop
mutual
def au (ρ:cr) (G:Gh):AV→Value→Prop
 | .un,v=>v=undef
 | .pv p,v=>Rel G.K p v
 | .bJ els,v=>∃base len,v=.slice base len len∧OM G.K els base len
 | .own els τ,v=>∃t,G.tk τ=some t∧(els.length≤t.len∧t.Rf v)∧Rel G.K (.aE els) v ∧
     (els.length=t.len→v=t.val∧(els=[]∨∃b o,t.base=some ⟨b,o,none⟩∧Row G.K b o t.sz els))
 | .agg cs,v=>∃vs:List Value,v=.agg vs.toArray∧aw ρ G cs vs
 | .nf cs,v=>∃vs:List Value,v=.tuple vs.toArray∧aw ρ G cs vs
 | .aB d off,v=>∃b,G.pm d=some b∧v=.pointer (some ⟨b,off,none⟩)
 | .aZ s off,v=>∃b,G.sm s=some b∧v=.pointer (some ⟨b.1,off,none⟩)
 | .dG cs,v=>∃b o vs,v=.pointer (some ⟨b,o,none⟩)∧At G.K b o vs∧dP G.K cs vs
 | .bz s z n _,v=>∃b cap,G.sm s=some b∧v=.slice (some ⟨b.1,0,none⟩) n (n+cap)∧(n+cap)*z≤b.2
 | .fn g cap,v=>∃f vs,ρ g f∧v=.func (.func f) #[] (List.toArray vs)∧aw ρ G cap vs
 | .dS,v=>v=.pointer none∨v=.nilFunc
 | .dj s,v=>∃b,G.sm s=some b∧v=.map (some b.1)
 | .dQ _,_=>False
 | .ji d n,v=>∃b,G.pm d=some b∧v=.slice (some ⟨b,0,none⟩) n n
 | .nv s off n,v=>∃b base cap,G.sm s=some b∧v=.slice base n cap∧(n=0∨base=some ⟨b.1,off,none⟩)
def aw (ρ:cr) (G:Gh):List AV→List Value→Prop
 | [],vs=>vs=[]
 | c::cs,vs=>∃v r,vs=v::r∧au ρ G c v∧aw ρ G cs r
end
structure Gh.le (G G':Gh):Prop where
 K:G.K.le G'.K
 pm:∀d b,G.pm d=some b→G'.pm d=some b
 sm:∀d b,G.sm d=some b→G'.sm d=some b
 tk:∀τ t,G.tk τ=some t→∃t',G'.tk τ=some t'∧(t.len≤t'.len∧t.on t')∧(t.len=t'.len→t'=t)
theorem Gh.le_refl (G:Gh):G.le G:=⟨G.K.le_refl,fun _ _ h=>h,fun _ _ h=>h,fun _ t h=>⟨t,h,⟨Nat.le_refl _,t.gZ⟩,fun _=>rfl⟩⟩
theorem Gh.le_trans {a b c:Gh} (h:a.le b) (k:b.le c):a.le c:=
 ⟨bB.le_trans h.K k.K,fun x y e=>k.pm _ _ (h.pm x y e),fun x y e=>k.sm _ _ (h.sm x y e),fun τ t e=>by
   obtain ⟨t',e1,e2,e3⟩:=h.tk τ t e
   obtain ⟨t'',f1,f2,f3⟩:=k.tk τ t' e1
   exact ⟨t'',f1,⟨Nat.le_trans e2.1 f2.1,Tk.Jb e2.2 f2.2 f2.1⟩,fun hl=>by
     have h1:t.len=t'.len:=Nat.le_antisymm e2.1 (hl ▸ f2.1)
     have h2:t'.len=t''.len:=h1 ▸ hl
     rw [f3 h2,e3 h1]⟩⟩
section
variable {ρ:cr} {G G':Gh}
mutual
theorem au.mono (h:G.le G'):∀{x:AV} {v:Value},au ρ G x v→au ρ G' x v
 | .un,_,hr=>by simpa only [au] using hr
 | .pv p,_,hr=>by simp only [au] at hr ⊢;exact hr.mono h.K
 | .bJ els,_,hr=>by
   simp only [au] at hr ⊢
   obtain ⟨b,l,e,r⟩:=hr
   exact ⟨b,l,e,r.mono h.K⟩
 | .own els τ,v,hr=>by
   simp only [au] at hr ⊢
   obtain ⟨t,e1,e2,e3,e4⟩:=hr
   obtain ⟨t',f1,f2,f3⟩:=h.tk τ t e1
   refine ⟨t',f1,⟨Nat.le_trans e2.1 f2.1,Tk.PE e2.2 f2.2 f2.1⟩,e3.mono h.K,fun hl=>?_⟩
   have h1:els.length=t.len:=Nat.le_antisymm e2.1 (hl ▸ f2.1)
   have h2:=f3 (h1 ▸ hl)
   subst h2
   obtain ⟨g1,g2⟩:=e4 h1
   exact ⟨g1,MI g2 fun ⟨b,o,e,r⟩=>⟨b,o,e,Row.mono h.K _ _ _ _ r⟩⟩
 | .agg cs,_,hr=>by
   simp only [au] at hr ⊢
   obtain ⟨vs,e,r⟩:=hr
   exact ⟨vs,e,aw.mono h r⟩
 | .nf cs,_,hr=>by
   simp only [au] at hr ⊢
   obtain ⟨vs,e,r⟩:=hr
   exact ⟨vs,e,aw.mono h r⟩
 | .aB d off,_,hr=>by
   simp only [au] at hr ⊢
   obtain ⟨b,e,r⟩:=hr
   exact ⟨b,h.pm _ _ e,r⟩
 | .aZ d off,_,hr=>by
   simp only [au] at hr ⊢
   obtain ⟨b,e,r⟩:=hr
   exact ⟨b,h.sm _ _ e,r⟩
 | .dG cs,_,hr=>by
   simp only [au] at hr ⊢
   obtain ⟨b,o,vs,e,f,r⟩:=hr
   exact ⟨b,o,vs,e,f.mono h.K,dP.mono h.K _ _ r⟩
 | .bz s _ n _,_,hr=>by
   simp only [au] at hr ⊢
   obtain ⟨b,c,e,r⟩:=hr
   exact ⟨b,c,h.sm _ _ e,r⟩
 | .fn g cap,_,hr=>by
   simp only [au] at hr ⊢
   obtain ⟨f,vs,e1,e2,r⟩:=hr
   exact ⟨f,vs,e1,e2,aw.mono h r⟩
 | .dS,_,hr=>by simpa only [au] using hr
 | .dj s,_,hr=>by
   simp only [au] at hr ⊢
   obtain ⟨b,e,r⟩:=hr
   exact ⟨b,h.sm _ _ e,r⟩
 | .dQ _,_,hr=>by simp only [au] at hr
 | .nv s _ _,_,hr=>by
   simp only [au] at hr ⊢
   obtain ⟨b,x,c,e,r⟩:=hr
   exact ⟨b,x,c,h.sm _ _ e,r⟩
 | .ji d _,_,hr=>by
   simp only [au] at hr ⊢
   obtain ⟨b,e,r⟩:=hr
   exact ⟨b,h.pm _ _ e,r⟩
theorem aw.mono (h:G.le G'):∀{xs:List AV} {vs:List Value},aw ρ G xs vs→aw ρ G' xs vs
 | [],_,hr=>by simpa only [aw] using hr
 | _::_,_,hr=>by
   simp only [aw] at hr ⊢
   obtain ⟨v,r,e,e1,e2⟩:=hr
   exact ⟨v,r,e,au.mono h e1,aw.mono h e2⟩
end
theorem aw.length:∀{xs:List AV} {vs:List Value},aw ρ G xs vs→vs.length=xs.length
 | [],_,hr=>by simp only [aw] at hr;simp [hr]
 | _::_,_,hr=>by
   simp only [aw] at hr
   obtain ⟨v,r,rfl,_,e2⟩:=hr
   simp [aw.length e2]
theorem aw.get:∀{xs:List AV} {vs:List Value},aw ρ G xs vs→∀{j:Nat} {x:AV},xs[j]?=some x→∃v,vs[j]?=some v∧au ρ G x v
 | [],_,_,j,x,hc=>by simp at hc
 | x0::xs,_,hr,j,x,hc=>by
   simp only [aw] at hr
   obtain ⟨v,r,rfl,e1,e2⟩:=hr
   cases j with
   | zero=>simp at hc;subst hc;exact ⟨v,by simp,e1⟩
   | succ j=>simpa using aw.get e2 (by simpa using hc)
theorem aw.drop:∀(n:Nat) {xs:List AV} {vs:List Value},aw ρ G xs vs→aw ρ G (xs.drop n) (vs.drop n)
 | 0,_,_,h=>by simpa using h
 | n+1,[],_,h=>by simp only [aw] at h;subst h;simp [aw]
 | n+1,_::cs,_,h=>by
   simp only [aw] at h
   obtain ⟨v,r,rfl,_,e3⟩:=h
   simpa using aw.drop n e3
theorem aw.take:∀(n:Nat) {xs:List AV} {vs:List Value},aw ρ G xs vs→aw ρ G (xs.take n) (vs.take n)
 | 0,_,_,_=>by simp [aw]
 | n+1,[],_,h=>by simp only [aw] at h;subst h;simp [aw]
 | n+1,_::cs,_,h=>by
   simp only [aw] at h
   obtain ⟨v,r,rfl,e2,e3⟩:=h
   simp only [List.take_succ_cons,aw]
   exact ⟨v,_,rfl,e2,aw.take n e3⟩
theorem aw.append:∀{xs:List AV} {vs:List Value} {ys:List AV} {us:List Value},aw ρ G xs vs→aw ρ G ys us→aw ρ G (xs++ys) (vs++us)
 | [],_,_,_,h,k=>by simp only [aw] at h;subst h;simpa using k
 | _::cs,_,_,_,h,k=>by
   simp only [aw] at h
   obtain ⟨v,r,rfl,e2,e3⟩:=h
   simp only [List.cons_append,aw]
   exact ⟨v,_,rfl,e2,aw.append e3 k⟩
theorem iI:∀{cs:List PV} {vs:List Value},dP G.K cs vs→aw ρ G (cs.map .pv) vs
 | [],_,h=>by simp only [dP] at h;subst h;simp [aw]
 | _::cs,_,h=>by
   simp only [dP] at h
   obtain ⟨v,r,rfl,e2,e3⟩:=h
   simp only [List.map_cons,aw]
   exact ⟨v,r,rfl,by simp only [au];exact Rel.Ja e2,iI e3⟩
theorem gA:∀{cs:List PV} {vs:List Value},jl G.K cs vs→aw ρ G (cs.map .pv) vs
 | [],_,h=>by cases h;simp [aw]
 | _::cs,_,⟨v,r,e1,e2,e3⟩=>by
   subst e1
   simp only [List.map_cons,aw]
   exact ⟨v,r,rfl,by simp only [au];exact e2,gA e3⟩
theorem au.cells {x:AV} {v:Value} (h:au ρ G x v) (hx:(bg x).all bm=true):aw ρ G (bg x) v.cells.toList:=by
 cases x with
 | agg cs=>simp only [au] at h;obtain ⟨vs,rfl,r⟩:=h;simpa [bg,Value.cells] using r
 | pv p=>
   cases p with
   | agg cs=>
     simp only [au,Rel] at h
     obtain ⟨vs,rfl,r⟩:=h
     simpa [bg,Value.cells] using iI r
   | bool b=>have h':=h;simp only [au,Rel,R] at h;simp at h;subst h;simp only [bg,Value.cells,aw];exact ⟨_,[],rfl,h',rfl⟩
   | int k n=>have h':=h;simp only [au,Rel,R] at h;simp at h;subst h;simp only [bg,Value.cells,aw];exact ⟨_,[],rfl,h',rfl⟩
   | str s=>have h':=h;simp only [au,Rel,R] at h;simp at h;subst h;simp only [bg,Value.cells,aw];exact ⟨_,[],rfl,h',rfl⟩
   | aE els=>
     have h':=h
     simp only [au] at h
     obtain ⟨b,l,c,rfl,_⟩:=cC.1 h
     simp only [bg,Value.cells,aw];exact ⟨_,[],rfl,h',rfl⟩
 | bJ els=>
   have h':=h
   simp only [au] at h;obtain ⟨b,l,rfl,_⟩:=h
   simp only [bg,Value.cells,aw];exact ⟨_,[],rfl,h',rfl⟩
 | own els τ=>
   have h':=h
   simp only [au] at h;obtain ⟨t,_,_,h3,_⟩:=h
   obtain ⟨b,l,c,rfl,_⟩:=cC.1 h3
   simp only [bg,Value.cells,aw];exact ⟨_,[],rfl,h',rfl⟩
 | aZ s o=>
   have h':=h
   simp only [au] at h;obtain ⟨b,_,rfl⟩:=h
   simp only [bg,Value.cells,aw];exact ⟨_,[],rfl,h',rfl⟩
 | bz s z n ag=>
   have h':=h
   simp only [au] at h;obtain ⟨b,c,_,rfl,_⟩:=h
   simp only [bg,Value.cells,aw];exact ⟨_,[],rfl,h',rfl⟩
 | fn g cap=>
   have h':=h
   simp only [au] at h;obtain ⟨f,vs,_,rfl,_⟩:=h
   simp only [bg,Value.cells,aw];exact ⟨_,[],rfl,h',rfl⟩
 | dS=>
   have h':=h
   simp only [au] at h
   rcases h with rfl | rfl
   · simp only [bg,Value.cells,aw];exact ⟨_,[],rfl,h',rfl⟩
   · simp only [bg,Value.cells,aw];exact ⟨_,[],rfl,h',rfl⟩
 | dj s=>
   have h':=h
   simp only [au] at h;obtain ⟨b,_,rfl⟩:=h
   simp only [bg,Value.cells,aw];exact ⟨_,[],rfl,h',rfl⟩
 | dQ kvs=>simp only [au] at h
 | _=>simp [bg,bm] at hx
end
structure S_ (ρ:cr) (G:Gh) (w:World) (b:Nat) (r:lX) (cells:List AV):Prop where
 role:G.role b=r
 at_:∃c t,w.heap[b]?=some (.cells c t (0,0))∧aw ρ G cells c.toList
def fR (K:bB):List (PV×PV)→List MapEntry→Prop
 | [],es=>es=[]
 | (k,p)::r,es=>∃e es',es=e::es'∧Rel K k e.key∧Rel K p e.val∧fR K r es'
theorem fR.mono {K K':bB} (h:K.le K'):∀{kvs:List (PV×PV)} {es:List MapEntry},fR K kvs es→fR K' kvs es
 | [],_,hr=>hr
 | (_,_)::_,_,⟨e,es',e1,e3,e4,e5⟩=>⟨e,es',e1,e3.mono h,e4.mono h,fR.mono h e5⟩
def iu (ρ:cr) (G:Gh) (o:Obj) (n:Nat) (cells:List AV):Prop:=
 (∃c t vs suf,o=.cells c t (0,0)∧c.size=n∧c.toList=vs++suf∧aw ρ G cells vs)∨∃es clock kvs,o=.map es clock∧cells=[.dQ kvs]∧fR G.K kvs es.toList
theorem iu.full {ρ:cr} {G:Gh} {c:Array Value} {t:TypeId} {cells:List AV} (h:aw ρ G cells c.toList):iu ρ G (.cells c t (0,0)) c.size cells:=
 .inl ⟨c,t,c.toList,[],rfl,rfl,by simp,h⟩
structure vZ (ρ:cr) (G:Gh) (w:World) (b:Nat×Nat) (r:lX) (cells:List AV):Prop where
 role:G.role b.1=r
 at_:∃o,w.heap[b.1]?=some o∧iu ρ G o b.2 cells
theorem iu.to {ρ:cr} {G G':Gh} {o:Obj} {n:Nat} {cells cells':List AV} (h:iu ρ G o n cells) (hK:G.K.le G'.K) (hm:∀kvs,cells=[.dQ kvs]→cells'=[.dQ kvs])
   (hc:∀vs,aw ρ G cells vs→aw ρ G' cells' vs):iu ρ G' o n cells':=by
 rcases h with ⟨c,t,vs,suf,e,e3,e4,r⟩ | ⟨es,cl,kvs,e,e2,r⟩
 · exact .inl ⟨c,t,vs,suf,e,e3,e4,hc _ r⟩
 · exact .inr ⟨es,cl,kvs,e,hm kvs e2,r.mono hK⟩
theorem iu.mono {ρ:cr} {G G':Gh} {o:Obj} {n:Nat} {cells:List AV} (h:G.le G') (hh:iu ρ G o n cells):iu ρ G' o n cells:=
 hh.to h.K (fun _ e=>e) (fun _ r=>r.mono h)
structure Rg (ρ:cr) (G:Gh) (w:World) (b:Nat×Nat) (r:lX) (cells:List AV):Prop where
 role:G.role b.1=r
 at_:∃c t vs suf,w.heap[b.1]?=some (.cells c t (0,0))∧c.size=b.2∧c.toList=vs++suf∧aw ρ G cells vs
theorem vZ.cells {ρ:cr} {G:Gh} {w:World} {b:Nat×Nat} {r:lX} {cells:List AV} (h:vZ ρ G w b r cells) (hm:c_ cells=false):Rg ρ G w b r cells:=by
 obtain ⟨h1,o,h2,h3⟩:=h
 rcases h3 with ⟨c,t,vs,suf,rfl,h4,h5,h6⟩ | ⟨es,cl,kvs,rfl,rfl,_⟩
 · exact ⟨h1,c,t,vs,suf,h2,h4,h5,h6⟩
 · simp [c_] at hm
theorem rX {ρ:cr} {G:Gh} {cells:List AV} {vs:List Value} (h:aw ρ G cells vs):c_ cells=false:=by
 cases cells with
 | nil=>rfl
 | cons c r=>
   cases c with
   | dQ kvs=>simp [aw,au] at h
   | _=>rfl
structure Rh (G:Gh) (w:World) (τ:Nat) (t:Tk):Prop where
 cap:t.len≤t.cap
 zero:t.len=0→t.cap=0
 spare:t.len<t.cap∨t.own=true→∃b o c ty,t.base=some ⟨b,o,none⟩∧G.role b=.tok τ∧w.heap[b]?=some (.cells c ty (0,0)) ∧
   o+t.cap*t.sz≤c.size∧∀j v,G.K b j=some v→j<o+t.len*t.sz
structure Inv (ρ:cr) (G:Gh) (w:World) (mem:List (Nat×List AV)) (sh:Sh) (ae:aH):Prop where
 known:∀b o v,G.K b o=some v→w.cell? ⟨b,o,none⟩=some v
 bt:∀b o v,G.K b o=some v→G.role b=.d_∨∃τ,G.role b=.tok τ
 fresh:∀b,w.heap.size≤b→G.role b=.d_
 cW:∀d cells,look mem d=some cells→∃b,G.pm d=some b∧S_ ρ G w b (.lK d) cells∧cells.all bm=true
 g_:∀d b,G.pm d=some b→(look mem d).isSome=true
 dp:∀s cells,sh[s]?=some (some cells)→∃b,G.sm s=some b∧vZ ρ G w b (.shr s) cells∧cells.all dv=true∧cells.all (aM (s+1))=true
 eR:∀s b,G.sm s=some b→s<sh.length
 di:∀τ n,ae[τ]?=some n→∃t,G.tk τ=some t∧t.len=n∧Rh G w τ t
 fo:∀τ t,G.tk τ=some t→ae[τ]?=some t.len
structure lY (ρ:cr) (G:Gh) (N:Nat) (env:List (Nat×AV)) (a:Act):Prop where
 size:a.tmps.size=N
 env:∀t x,look env t=some x→∃v,a.tmps[t]?=some v∧au ρ G x v
def Marks (n0:Nat) (G:Gh) (a:Act) (w:World):Prop:=
 n0≤w.heap.size∧∃Ds:List Nat,a.defers=Ds.map (fun D=>{ target:=.collected D,args:=#[] })∧Ds.Nodup ∧
   ∀D∈Ds,n0≤D∧D<w.heap.size∧G.role D=.d_∧w.heap[D]?=some (.deferred (some []))
structure fZ (ρ:cr) (n0 N:Nat) (G:Gh) (st:St) (a:Act) (w:World):Prop where
 env:lY ρ G N st.env a
 inv:Inv ρ G w st.mem st.sh st.ae
 marks:Marks n0 G a w
structure bZ (G:Gh) (w:World) (G':Gh) (w':World):Prop where
 size:w.heap.size≤w'.heap.size
 os:w'.os=w.os
 tape:w'.tape=w.tape
 output:w'.output=w.output
 K:G.K.le G'.K
 sm:∀s b,G.sm s=some b→G'.sm s=some b
 d_:∀b,b<w.heap.size→G.role b=.d_→G'.role b=.d_∧w'.heap[b]?=w.heap[b]?
 iT:∀b τ,b<w.heap.size→G.role b=.tok τ→G'.role b=.d_∨∃τ',G'.role b=.tok τ'
 hH:∀b o v,b<w.heap.size→G.role b=.d_→G'.K b o=some v→G.K b o=some v
theorem bZ.refl (G:Gh) (w:World):bZ G w G w:=
 ⟨Nat.le_refl _,rfl,rfl,rfl,G.K.le_refl,fun _ _ h=>h,fun _ _ h=>⟨h,rfl⟩,fun _ τ _ h=>.inr ⟨τ,h⟩,fun _ _ _ _ _ h=>h⟩
theorem bZ.trans {G₁ G₂ G₃:Gh} {w₁ w₂ w₃:World} (h:bZ G₁ w₁ G₂ w₂) (k:bZ G₂ w₂ G₃ w₃):bZ G₁ w₁ G₃ w₃ where
 size:=Nat.le_trans h.size k.size
 os:=k.os.trans h.os
 tape:=k.tape.trans h.tape
 output:=k.output.trans h.output
 K:=bB.le_trans h.K k.K
 sm:=fun s b e=>k.sm _ _ (h.sm s b e)
 d_:=fun b hb hr=>by
   obtain ⟨h1,h2⟩:=h.d_ b hb hr
   obtain ⟨k1,k2⟩:=k.d_ b (Nat.lt_of_lt_of_le hb h.size) h1
   exact ⟨k1,k2.trans h2⟩
 iT:=fun b τ hb hr=>by
   rcases h.iT b τ hb hr with h1 | ⟨τ',h1⟩
   · exact .inl (k.d_ b (Nat.lt_of_lt_of_le hb h.size) h1).1
   · exact k.iT b τ' (Nat.lt_of_lt_of_le hb h.size) h1
 hH:=fun b o v hb hr hk=>h.hH b o v hb hr (k.hH b o v (Nat.lt_of_lt_of_le hb h.size) (h.d_ b hb hr).1 hk)
theorem Marks.oo {n0:Nat} {G G':Gh} {a a':Act} {w w':World} (h:Marks n0 G a w) (he:bZ G w G' w') (hd:a'.defers=a.defers):Marks n0 G' a' w':=by
 obtain ⟨e0,Ds,e1,e2,e3⟩:=h
 refine ⟨Nat.le_trans e0 he.size,Ds,hd.trans e1,e2,fun D hD=>?_⟩
 obtain ⟨f0,f1,f2,f3⟩:=e3 D hD
 obtain ⟨g1,g2⟩:=he.d_ D f1 f2
 exact ⟨f0,Nat.lt_of_lt_of_le f1 he.size,g1,g2.trans f3⟩
theorem bZ.drew (G:Gh) (w:World):bZ G w G w.drew:=
 ⟨Nat.le_refl _,rfl,rfl,rfl,G.K.le_refl,fun _ _ h=>h,fun _ _ h=>⟨h,rfl⟩,fun _ τ _ h=>.inr ⟨τ,h⟩,fun _ _ _ _ _ h=>h⟩
theorem Inv.drew {ρ:cr} {G:Gh} {w:World} {mem:List (Nat×List AV)} {sh:Sh} {ae:aH} (h:Inv ρ G w mem sh ae):Inv ρ G w.drew mem sh ae where
 known:=h.known
 bt:=h.bt
 fresh:=h.fresh
 cW:=fun d cells e=>by obtain ⟨b,e1,e2,e3⟩:=h.cW d cells e;exact ⟨b,e1,⟨e2.role,e2.at_⟩,e3⟩
 g_:=h.g_
 dp:=fun d cells e=>by obtain ⟨b,e1,e2,e3⟩:=h.dp d cells e;exact ⟨b,e1,⟨e2.role,e2.at_⟩,e3⟩
 eR:=h.eR
 di:=fun τ n e=>by obtain ⟨t,e1,e2,e3⟩:=h.di τ n e;exact ⟨t,e1,e2,⟨e3.cap,e3.zero,e3.spare⟩⟩
 fo:=h.fo
end Go.Ab
