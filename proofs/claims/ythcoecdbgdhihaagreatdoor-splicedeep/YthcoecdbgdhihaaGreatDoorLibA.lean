import Derived.Test.YthcoecdbgdhihaaGreatDoorCodeA
/-
  The program's data.
  The makers: what their functions Hh.
  The makers: data declarations, chosen by bits.
  The makers: types and substitutions off the tape.
  Types and substitutions: what replaces variables.
  Types: rebuilding with new leaves.
  Substitutions: composing; equality of types and of substitutions.
  The order of types.
  Chapter 13: equality of substitutions; the laws SubstAssociates and SubstEqual.
  Names, and which types are valid.
  Functions of package slices over any elements.
  Names of the program, and which types are valid.
  Which types are valid.
  Contexts: their entries; looking names up.
  slices.EqualFunc and slices.Clip over any elements.
  What the pure data of a parameter looks JP.
  The variables of types, by the program and by the reference.
  Law 19 makes contexts; the law EnvironLooks.
  Correct types in declarations.
  Tokens, by the reference.
  The reader of tokens, by the reference.
  Expressions.
  The maker of raw expressions.
  slices.DeleteFunc over an array of texts that may be written.
  Arrays of structs in shared memory: their cells one behind the other.
  Expressions: children, the part at a path, and the names that are bound.
  Types by the kinds of their nodes.
  How many nodes an expression has; expressions whose texts are known.
  slices.DeleteFunc over an array of texts that may be written: all of it.
  scope.Visible: one step inward.
  The names that are visible at a path.
  Depths of types and expressions.
  Chapter 13: valid and idempotent substitutions.
  Expressions: other children.
  Children as an array that may be written; other children, by the program.
  Other children, by the program.
  Other children, by the program: the function.
  Other children, by the program: the arrays may be written.
  Expressions without positions, by the program.
  Expressions without positions, by the program: the function.
  The reference's store of type variables: what it looks JP, bound variables, walks.
  Chapter 9: where a constructor is.
  Scopes: to which declaration aB belong.
  Scopes: the errors of a case itself, by the reference.
  Scopes: the errors of a case itself, by the program.
  Scopes: the first error of an expression.
  Positions are numbered.
  Chapter 9: declarations off the tape.
  Chapter 9: the scheme of a constructor.
  Chapter 9: the first error of a list of declarations, by the program.
  The search's reference: an element, its resolved types.
  Matching, by the program.
  The search's reference: heads.
  The law ScopeVisible.
  The maker of typed expressions: what it gives; leaves.
  The maker of programs: bindings.
  A part of an expression is replaced.
  What stands at a path is replaced, by the program.
  Programs without positions: the constructors of a data type.
  Programs without positions: the data types.
  Programs without positions: the loop over data types.
  Programs without positions: the function.
  The holes of an expression.
  The holes of an expression, by the reference; the same of programs.
-/
set_option linter.unusedVariables false
set_option linter.unusedSimpArgs false
set_option linter.unnecessarySimpa false
set_option maxRecDepth 100000
set_option maxHeartbeats 8000000
namespace Go.Ab.Lw
structure Ty where
 kind:Int
 name:List UInt8
 id:Int
 home:Int
 args:List Ty
 deriving Inhabited
noncomputable instance:DecidableEq Ty:=fun _ _=>Classical.propDecidable _
mutual
def Ty.pv:Ty→PV
 |⟨k,n,i,h,as⟩=>.agg [.int .i64 k,.str n,.int .i64 i,.int .i64 h,.az (Ty.cI as)]
def Ty.cI:List Ty→List PV
 |[]=>[]
 |a::r=>a.pv::Ty.cI r
end
theorem Ty.l0:∀l:List Ty,Ty.cI l=l.map Ty.pv
 |[]=>by simp[Ty.cI]
 |a::r=>by simp[Ty.cI,Ty.l0 r]
@[simp] theorem Ty.dR(t:Ty):t.pv=.agg [.int .i64 t.kind,.str t.name,.int .i64 t.id,.int .i64 t.home,.az (t.args.map Ty.pv)]:=by
 cases t;simp only[Ty.pv,Ty.l0]
theorem Ty.l3{p:Ty→Prop}(h:∀t:Ty,(∀x∈t.args,p x)→p t):∀t,p t
 |⟨k,n,i,hm,as⟩=>h _ (fun x _hx=>Ty.l3 h x)
termination_by t=>SizeOf.sizeOf t
decreasing_by have:=_root_.List.sizeOf_lt_of_mem _hx;simp at *;omega
structure dn where
 pos:Int
 name:List UInt8
 fields:List Ty
 deriving Inhabited
structure Dt where
 pos:Int
 name:List UInt8
 params:List (List UInt8)
 cons:List dn
 deriving Inhabited
def dn.pv(c:dn):PV:=.agg [.int .i64 c.pos,.str c.name,.az (c.fields.map Ty.pv)]
def Dt.pv(d:Dt):PV:=.agg [.int .i64 d.pos,.str d.name,.az (d.params.map .str),.az (d.cons.map dn.pv)]
@[simp] theorem dn.dR(c:dn):c.pv=.agg [.int .i64 c.pos,.str c.name,.az (c.fields.map Ty.pv)]:=rfl
@[simp] theorem Dt.dR(d:Dt):d.pv=.agg [.int .i64 d.pos,.str d.name,.az (d.params.map .str),.az (d.cons.map dn.pv)]:=rfl
structure As where
 id:Int
 ty:Ty
 deriving Inhabited
def As.pv(a:As):PV:=.agg [.int .i64 a.id,.int .i64 a.ty.kind,.str a.ty.name,.int .i64 a.ty.id,.int .i64 a.ty.home,.az (a.ty.args.map Ty.pv)]
@[simp] theorem As.dR(a:As):a.pv=.agg [.int .i64 a.id,.int .i64 a.ty.kind,.str a.ty.name,.int .i64 a.ty.id,.int .i64 a.ty.home,.az (a.ty.args.map Ty.pv)]:=rfl
@[simp] theorem As.eta(t:As):As.mk t.id t.ty=t:=rfl
abbrev vI(n:Int):PV:=.int .i64 n
def tp(L:List Int)(i:Int):Sh:=[some [.pv (.az (L.map vI)),.pv (vI i)]]
@[simp] theorem NZ(L:List Int)(i:Int):tp L i=[some [.pv (.az (L.map vI)),.pv (vI i)]]:=rfl
def Sm{α:Type}(l:List α):Prop:=l.length<1099511627776
def zz{α:Type}(l:List α):Prop:=l.length≤9223372036854775807
@[simp] theorem Ny(n:Nat):((n:Int)<0)↔False:=by simp
theorem aX{α:Type}{l:List α}{i:Nat}{x:α}(h:l[i]?=some x):l.drop i=x::l.drop (i+1):=by
 obtain⟨hi,rfl⟩:=List.getElem?_eq_some_iff.1 h;exact List.drop_eq_getElem_cons hi
theorem bl{α:Type}{l:List α}{i:Nat}(h:i<l.length):∃x,l[i]?=some x:=⟨_,List.getElem?_eq_getElem h⟩
theorem bE{α:Type}{l:List α}{i:Nat}{x:α}(h:l[i]?=some x):x∈l:=List.mem_of_getElem? h
theorem il{α:Type}{l:List α}{i:Nat}(h:l.length≤i):l.drop i=[]:=List.drop_eq_nil_of_le h
open Ev
theorem c26{n m:Int}(h1:1≤m)(h2:m<4611686018427387904):∃r,(aC AP).p 26 [vI n,vI m]=some [vI r]∧0≤r∧r<m:=by
 rw[ah (af:=g26) rfl rfl (by decide)];have a1:=Int.tmod_lt_of_pos n (show 0<m by omega);have a2:=Int.lt_tmod_of_pos n (show 0<m by omega);have e1:¬m<1:=by omega
 have e2:¬m=0:=by omega
 by_cases h:n.tmod m<0
 ·refine⟨n.tmod m+m,?_,by omega,by omega⟩;simp (disch:=omega) [g26,e1,e2,h,aw]
 ·refine⟨n.tmod m,?_,by omega,by omega⟩;simp[g26,e1,e2,h]
@[simp] theorem Le{l:List Dt}:a0 4 (l.map Dt.pv)=true:=by cases l<;>simp
def Ty.av(t:Ty):AV:=.agg [.pv (vI t.kind),.pv (.str t.name),.pv (vI t.id),.pv (vI t.home),.pv (.az (t.args.map Ty.pv))]
@[simp] theorem Ty.N0(t:Ty):t.av=.agg [.pv (vI t.kind),.pv (.str t.name),.pv (vI t.id),.pv (vI t.home),.pv (.az (t.args.map Ty.pv))]:=rfl
theorem Ko{r:Int}{n:Nat}(h0:0≤r)(h1:r<n):∃m:Nat,r=m∧m<n:=⟨r.toNat,by omega,by omega⟩
inductive Ty.Ok:Ty→Prop
 |mk {t:Ty}:Sm t.args→(∀x∈t.args,Ty.Ok x)→Ty.Ok t
theorem Ty.Ok.sm{t:Ty}(h:t.Ok):Sm t.args:=by cases h;assumption
theorem Ty.Ok.F_{t:Ty}(h:t.Ok):∀x∈t.args,x.Ok:=by cases h;assumption
def aJ(sh:Sh):Prop:=∀cs,some cs∈sh→∀v∈cs,∃p,v=AV.pv p
theorem l4{aF ts:aD}:∀{cs:List AV},(∀v∈cs,∃p,v=AV.pv p)→aZ aF ts cs=(cs,aF,ts)
 |[],_=>rfl
 |v::r,h=>by
   obtain⟨p,rfl⟩:=h v (by simp);simp only[pJ,vt,l4 (cs:=r) (fun v hv=>h v (by simp[hv]))]
theorem aJ.norm:∀{sh:Sh},aJ sh→∀aF ts,aW aF ts sh=(sh,aF,ts)
 |[],_,_,_=>rfl
 |none::sh,h,aF,ts=>by
   simp only[pK,aJ.norm (sh:=sh) (fun cs hc=>h cs (by simp[hc]))]
 |some cs::sh,h,aF,ts=>by
   simp only[pL,l4 (h cs (by simp)),aJ.norm (sh:=sh) (fun cs hc=>h cs (by simp[hc]))]
theorem rD{n:Nat}:∀{cs:List AV},(∀v∈cs,∃p,v=AV.pv p)→cs.map (cM n)=cs
 |[],_=>rfl
 |v::r,h=>by
   obtain⟨p,rfl⟩:=h v (by simp);simp only[List.map_cons,re,rD (cs:=r) (fun v hv=>h v (by simp[hv]))]
theorem aJ.shift:∀{sh:Sh},aJ sh→∀n,dS n sh=sh
 |[],_,_=>rfl
 |none::sh,h,n=>by
   simp only[nG,aJ.shift (sh:=sh) (fun cs hc=>h cs (by simp[hc]))]
 |some cs::sh,h,n=>by
   simp only[nH,rD (h cs (by simp)),aJ.shift (sh:=sh) (fun cs hc=>h cs (by simp[hc]))]
theorem aJ.app{a b:Sh}(ha:aJ a)(hb:aJ b):aJ (a++b):=by
 intro cs hc;simp only[List.mem_append]at hc;rcases hc with hc|hc
 ·exact ha cs hc
 ·exact hb cs hc
theorem aJ.one{cs:List AV}(h:∀v∈cs,∃p,v=AV.pv p):aJ [some cs]:=by
 intro cs' hc;simp at hc;subst hc;exact h
@[simp] theorem Nz{α:Type}{l:List α}{x:α}:(l++[x])[l.length]?=some x:=by simp
theorem bT{l:List AV}(h:∀v∈l,∃p,v=.pv p):bU l=false:=by
 cases l with
 |nil=>rfl
 |cons c r=>obtain⟨p,rfl⟩:=h c (by simp);rfl
noncomputable instance:DecidableEq As:=fun _ _=>Classical.propDecidable _
theorem N1{as bs:List Ty}(hS:Sm as)(hl:as.length=bs.length)(h:∀x∈as,∀y,(aC AP).p 20 [x.pv,y.pv]=some [.bool (decide (x=y))]):∀(n i:Nat),as.length-i=n→i≤as.length →
   cl AP g57L0 ⟨[(0,.pv (.az (as.map Ty.pv))),(1,.pv (.az (bs.map Ty.pv))),(5,.pv (.int .i64 i))],[],[],[]⟩ =
     if as.drop i=bs.drop i then some (.exit 0,⟨[(0,.pv (.az (as.map Ty.pv))),(1,.pv (.az (bs.map Ty.pv))),(5,.pv (.int .i64 as.length)),(14,.pv (.bool false))],[],[],[]⟩)
     else some (.ret,⟨[(4,.pv (.bool false))],[],[],[]⟩)
 |0,i,hn,hi=>by
   have:i=as.length:=by omega
   subst this;rw[g57L0e];simp[g57B0,hl]
 |n+1,i,hn,hi=>by
   have hi:i<as.length:=(by omega);obtain⟨x,hx⟩:=bl hi;obtain⟨y,hy⟩:=bl (hl ▸ hi);have hc:=h x (bE hx) y;simp at hc;rw[g57L0e,aX hx,aX hy];unfold Sm at hS;have ih:=N1 hS hl h n (i+1) (by omega) (by omega);simp at ih;simp (disch:=omega) [-getElem?_pos,g57B0,hx,hy,hi,hc,aw,ih];by_cases e:x=y<;>simp[e]
theorem c57{as bs:List Ty}(hS:Sm as)(h:∀x∈as,∀y,(aC AP).p 20 [x.pv,y.pv]=some [.bool (decide (x=y))]) :
   (aC AP).p 57 [.az (as.map Ty.pv),.az (bs.map Ty.pv)]=some [.bool (decide (as=bs))]:=by
 rw[ah (af:=g57) rfl rfl (by decide)];by_cases hl:as.length=bs.length
 ·have hL:=N1 hS hl h _ 0 rfl (by omega);simp at hL;simp[g57,hl,hL];by_cases e:as=bs<;>simp[e]
 ·have:¬as=bs:=fun e=>hl (by rw[e]);simp[g57,hl,this];omega
theorem c20{a b:Ty}(hO:a.Ok):(aC AP).p 20 [a.pv,b.pv]=some [.bool (decide (a=b))]:=by
 revert b hO
 refine Ty.l3 (p:=fun a=>∀{b:Ty},a.Ok→(aC AP).p 20 [a.pv,b.pv]=some [.bool (decide (a=b))]) ?_ a;intro a ih b hO;have h:=c57 (bs:=b.args) hO.sm (fun x hx y=>ih x hx (hO.F_ x hx));rw[ah (af:=g20) rfl rfl (by decide)];simp[g20,h];cases a;cases b;simp
 (repeat' split)<;>simp_all
def gf(a b:Int):Int:=if a<b then -1 else if b<a then 1 else 0
def p_(a b:List UInt8):Int:=if cq.dF a b=true then -1 else if a=b then 0 else 1
def wN:List Int→Int
 |[]=>0
 |x::r=>if x=0 then wN r else x
mutual
def ky:Ty→Ty→Int
 |⟨k,n,i,h,as⟩,b=>if wN [gf k b.kind,p_ n b.name,gf i b.id,gf h b.home,gf as.length b.args.length]=0 then l6 as b.args
     else wN [gf k b.kind,p_ n b.name,gf i b.id,gf h b.home,gf as.length b.args.length]
def l6:List Ty→List Ty→Int
 |[],[]=>0
 |[],_::_=>-1
 |_::_,[]=>1
 |a::r,b::s=>if ky a b=0 then l6 r s else ky a b
end
def th(a b:Ty):Int:=wN [gf a.kind b.kind,p_ a.name b.name,gf a.id b.id,gf a.home b.home,gf a.args.length b.args.length]
theorem tj(a b:Ty):ky a b=if th a b=0 then l6 a.args b.args else th a b:=by
 cases a;simp only[ky,th];rfl
theorem c113{n:Int}:(aC AP).p 113 [vI n]=some [.bool false]:=by
 rw[ah (af:=g113) rfl rfl (by decide)];simp[g113]
theorem c114{n:List UInt8}:(aC AP).p 114 [.str n]=some [.bool false]:=by
 rw[ah (af:=g114) rfl rfl (by decide)];simp[g114]
theorem c81{a b:Int}:(aC AP).p 81 [vI a,vI b]=some [vI (gf a b)]:=by
 have h1:=c113 (n:=a);have h2:=c113 (n:=b);rw[ah (af:=g81) rfl rfl (by decide)];simp[g81,h1,h2,gf]
 (repeat' split)<;>rfl
theorem c82{a b:List UInt8}:(aC AP).p 82 [.str a,.str b]=some [vI (p_ a b)]:=by
 have h1:=c114 (n:=a);have h2:=c114 (n:=b);rw[ah (af:=g82) rfl rfl (by decide)];by_cases e1:cq.dF a b=true
 ·simp[g82,h1,h2,p_,e1]
 · have e1:cq.dF a b=false:=(by simpa using e1);by_cases e2:a=b
   ·subst e2;simp[g82,h1,h2,p_,e1]
   ·simp[g82,h1,h2,p_,e1,e2]
theorem c80{a b c d e:Int}:(aC AP).p 80 [.az [vI a,vI b,vI c,vI d,vI e]]=some [vI (wN [a,b,c,d,e])]:=by
 rw[ah (af:=g80) rfl rfl (by decide)];by_cases h1:a=0
 · by_cases h2:b=0
   · by_cases h3:c=0
     · by_cases h4:d=0
       · by_cases h5:e=0
         ·simp (disch:=omega) [-getElem?_pos,g80,g80L0e,g80B0,aw,wN,h1,h2,h3,h4,h5]
         ·simp (disch:=omega) [-getElem?_pos,g80,g80L0e,g80B0,aw,wN,h1,h2,h3,h4,h5]
       ·simp (disch:=omega) [-getElem?_pos,g80,g80L0e,g80B0,aw,wN,h1,h2,h3,h4]
     ·simp (disch:=omega) [-getElem?_pos,g80,g80L0e,g80B0,aw,wN,h1,h2,h3]
   ·simp (disch:=omega) [-getElem?_pos,g80,g80L0e,g80B0,aw,wN,h1,h2]
 ·simp (disch:=omega) [-getElem?_pos,g80,g80L0e,g80B0,aw,wN,h1]
def L4(as bs:List Ty)(sh:Sh)(l:Int)(c:Int)(eq:Bool):Option (aU×St):=
 if eq=true then some (.exit 0,⟨[(0,.pv (.az (as.map Ty.pv))),(1,.pv (.az (bs.map Ty.pv))),(2,.fn 35 []),(11,.pv (.az (as.map Ty.pv))),(12,.pv (vI l)),(13,.pv (vI l)),(14,.pv (.bool false))],[],sh,[]⟩)
 else some (.ret,⟨[(6,.pv (vI c))],[],sh,[]⟩)
theorem N2{as bs:List Ty}(hS:Sm as)(hl:as.length=bs.length)(h:∀x∈as,∀y,(aC AP).i 35 [.pv x.pv,.pv y.pv] [] []=some ([.pv (vI (ky x y))],[],[])):∀(n i:Nat),as.length-i=n→i≤as.length →
   cl AP g83L0 ⟨[(0,.pv (.az (as.map Ty.pv))),(1,.pv (.az (bs.map Ty.pv))),(2,.fn 35 []),(11,.pv (.az (as.map Ty.pv))),(12,.pv (vI as.length)),(13,.pv (vI i))],[],[],[]⟩ =
     L4 as bs [] as.length (l6 (as.drop i) (bs.drop i)) (decide (l6 (as.drop i) (bs.drop i)=0))
 |0,i,hn,hi=>by
   have:i=as.length:=by omega
   subst this;rw[g83L0e,il (l:=bs) (by omega)];simp[g83B0,L4,l6]
 |n+1,i,hn,hi=>by
   have hi:i<as.length:=(by omega);obtain⟨x,hx⟩:=bl hi;obtain⟨y,hy⟩:=bl (hl ▸ hi);have hc:=h x (bE hx) y;have ih:=N2 hS hl h n (i+1) (by omega) (by omega);unfold Sm at hS;have hb:¬bs.length≤i:=(by omega);rw[g83L0e]at ih⊢;rw[aX hx,aX hy];simp at ih hc;by_cases e:ky x y=0
   ·rw[e]at hc;simp (disch:=omega) [-getElem?_pos,g83B0,hx,hy,hi,hb,hc,aw];rw[g83L0e];simp[ih,l6,e]
   ·simp (disch:=omega) [-getElem?_pos,g83B0,hx,hy,hi,hb,hc,aw,e,L4,l6]
theorem F'{a b:Ty}(h:th a b=0):a.args.length=b.args.length:=by
 simp only[th,wN]at h
 have:gf a.args.length b.args.length=0:=by
   split at h
   · split at h
     · split at h
       · split at h
         · split at h
           ·assumption
           ·contradiction
         ·contradiction
       ·contradiction
     ·contradiction
   ·contradiction
 unfold gf at this;split at this
 ·cases this
 · split at this
   ·cases this
   ·omega
theorem c35_both{a:Ty}(hO:a.Ok):∀b:Ty,(aC AP).p 35 [a.pv,b.pv]=some [vI (ky a b)]∧(aC AP).i 35 [.pv a.pv,.pv b.pv] [] []=some ([.pv (vI (ky a b))],[],[]):=by
 revert hO
 refine Ty.l3 (p:=fun a=>a.Ok→∀b:Ty,(aC AP).p 35 [a.pv,b.pv]=some [vI (ky a b)]∧(aC AP).i 35 [.pv a.pv,.pv b.pv] [] []=some ([.pv (vI (ky a b))],[],[])) ?_ a;intro a ih hO b;have k1:=c81 (a:=a.kind) (b:=b.kind);have k2:=c82 (a:=a.name) (b:=b.name);have k3:=c81 (a:=a.id) (b:=b.id);have k4:=c81 (a:=a.home) (b:=b.home);have k5:=c81 (a:=a.args.length) (b:=b.args.length);have k6:=c80 (a:=gf a.kind b.kind) (b:=p_ a.name b.name) (c:=gf a.id b.id) (d:=gf a.home b.home) (e:=gf a.args.length b.args.length);have eH:wN [gf a.kind b.kind,p_ a.name b.name,gf a.id b.id,gf a.home b.home,gf a.args.length b.args.length]=th a b:=rfl;rw[eH]at k6;have hS:=hO.sm;by_cases e:th a b=0
 · have hl:=F' e;have h:=N2 hS hl (fun x hx y=>(ih x hx (hO.F_ x hx) y).2) _ 0 rfl (by omega);rw[g83L0e]at h;simp at h
   have c83:(aC AP).i 83 [.pv (.az (a.args.map Ty.pv)),.pv (.az (b.args.map Ty.pv)),.fn 35 []] [] []=some ([.pv (vI (l6 a.args b.args))],[],[]):=by
     rw[aH (af:=g83) rfl (by simp[g83])];by_cases e2:l6 a.args b.args=0
     · simp[L4,e2]at h;have hlt:¬a.args.length<b.args.length:=by omega
       simp[g83,g83L0e,h,hlt,e2]
     ·simp[L4,e2]at h;simp[g83,g83L0e,h]
   rw[e]at k6;rw[tj,if_pos e];constructor
   ·rw[ah (af:=g35) rfl rfl (by decide)];simp[g35,k1,k2,k3,k4,k5,k6,c83]
   ·rw[aH (af:=g35) rfl (by simp[g35])];simp[g35,k1,k2,k3,k4,k5,k6,c83]
 · rw[tj,if_neg e];constructor
   ·rw[ah (af:=g35) rfl rfl (by decide)];simp[g35,k1,k2,k3,k4,k5,k6,e]
   ·rw[aH (af:=g35) rfl (by simp[g35])];simp[g35,k1,k2,k3,k4,k5,k6,e]
theorem c35{a b:Ty}(hO:a.Ok):(aC AP).p 35 [a.pv,b.pv]=some [vI (ky a b)]:=(c35_both hO b).1
theorem c33{a b:Ty}(hO:a.Ok):(aC AP).p 33 [a.pv,b.pv]=some [.bool (ky a b == 0)]:=by
 have h:=c35 (b:=b) hO;simp at h;rw[ah (af:=g33) rfl rfl (by decide)];simp[g33,h]
theorem nO:∀s:List UInt8,cq.dF s s=false
 |[]=>rfl
 |a::r=>by simp[cq.dF,nO r]
theorem DB{a b:Int}:gf a b=0↔a=b:=by
 unfold gf;split
 · constructor
   ·intro h;cases h
   ·intro h;omega
 · split
   · constructor
     ·intro h;cases h
     ·intro h;omega
   · constructor
     ·intro _;omega
     ·intro _;rfl
theorem DC{a b:List UInt8}:p_ a b=0↔a=b:=by
 unfold p_;split
 · rename_i h;constructor
   ·intro e;cases e
   ·intro e;subst e;rw[nO]at h;cases h
 · split
   ·rename_i h;simp[h]
   ·rename_i h;simp[h]
theorem wi:∀{l:List Int},wN l=0↔∀x∈l,x=0
 |[]=>by simp[wN]
 |x::r=>by
   simp only[wN];split
   ·rename_i h;rw[wi];simp[h]
   · rename_i h;constructor
     ·intro e;exact absurd e h
     ·intro e;exact e x (by simp)
theorem rE{a b:Ty}:th a b=0↔a.kind=b.kind∧a.name=b.name∧a.id=b.id∧a.home=b.home∧a.args.length=b.args.length:=by
 unfold th;rw[wi];simp[DB,DC]
 intros;omega
theorem rG(a:Ty):∀b,ky a b=0↔a=b:=by
 refine Ty.l3 (p:=fun a=>∀b,ky a b=0↔a=b) ?_ a;intro a ih b
 have key:∀(as bs:List Ty),(∀x∈as,∀b,ky x b=0↔x=b)→(l6 as bs=0↔as=bs):=by
   intro as;induction as with
   |nil=>intro bs _;cases bs<;>simp[l6]
   |cons x r ih=>
     intro bs h;cases bs with
     |nil=>simp[l6]
     |cons y s=>
       simp only[l6];have hx:=h x (by simp) y;have hr:=ih s (fun z hz=>h z (by simp[hz]));split
       ·rename_i e;rw[hr];simp[hx.1 e]
       · rename_i e;constructor
         ·intro e';exact absurd e' e
         ·intro e';simp at e';exact absurd (hx.2 e'.1) e
 rw[tj];split
 ·rename_i h;rw[key _ _ ih];rw[rE]at h;cases a;cases b;simp at h⊢;simp[h]
 · rename_i h;constructor
   ·intro e;exact absurd e h
   ·intro e;subst e;exact absurd (rE.2 ⟨rfl,rfl,rfl,rfl,rfl⟩) h
theorem Ga(a b:Ty):(ky a b == 0)=decide (a=b):=by
 by_cases h:a=b
 ·rw[decide_eq_true h,(rG a b).2 h];rfl
 ·rw[decide_eq_false h];simpa using fun e=>h ((rG a b).1 e)
theorem c33e{a b:Ty}(hO:a.Ok):(aC AP).p 33 [a.pv,b.pv]=some [.bool (decide (a=b))]:=by rw[c33 hO,Ga]
def bD{α:Type}(p:α→Bool):List α→Option Nat
 |[]=>none
 |a::r=>if p a=true then some 0 else (bD p r).map (·+1)
theorem iJ{α:Type}{p:α→Bool}:∀{l:List α},bD p l=none↔∀x∈l,p x=false
 |[]=>by simp[bD]
 |a::r=>by
   simp only[bD];by_cases h:p a=true
   ·simp[h]
   ·have h:p a=false:=(by simpa using h);simp[h,iJ]
theorem oF{α:Type}{p:α→Bool}{l:List α}:(!(l.any fun x=>!p x))=l.all p:=by
 induction l with
 |nil=>rfl
 |cons a r ih=>simp[←ih]
abbrev vC(c:Int):PV:=.int .u8 c
def wj(c:Int):Bool:=decide (97≤c) && decide (c≤122)
def Gb(c:Int):Bool:=decide (65≤c) && decide (c≤90)
def wk(c:Int):Bool:=decide (48≤c) && decide (c≤57)
def im(c:Int):Bool:=wj c || Gb c || wk c || (c == 95)
def ix(s:List UInt8):Bool:=s.all fun b=>im b.toNat
def Gc:List (List UInt8):=[[100,97,116,97],[108,101,116],[114,101,99],[105,110],[99,97,115,101],[111,102],[101,110,100]]
def Gd(s:List UInt8):Bool:=Gc.contains s
def jt(s:List UInt8)(lo hi:Int):Bool:=match s with
 |[]=>false
 |b::r=>decide (lo≤b.toNat) && decide ((b.toNat:Int)≤hi) && decide ((b::r).length≤12) && ix (b::r) && !Gd (b::r)
theorem jW{b:UInt8}{r:List UInt8}:ix (b::r)=(im b.toNat && ix r):=rfl
theorem zB:ix []=true:=rfl
theorem N3{s:List UInt8}(hS:zz s):∀(n i:Nat),s.length-i=n→i≤s.length →
   cl AP g73L0 ⟨[(0,.pv (.str s)),(31,.pv (vI s.length)),(32,.pv (vI i))],[],[],[]⟩ =
     if ix (s.drop i)=true then some (.exit 0,⟨[(0,.pv (.str s)),(31,.pv (vI s.length)),(32,.pv (vI s.length)),(33,.pv (.bool false))],[],[],[]⟩)
     else some (.ret,⟨[(6,.pv (.bool false))],[],[],[]⟩)
 |0,i,hn,hi=>by
   have:i=s.length:=by omega
   subst this;rw[g73L0e];simp[g73B0,zB]
 |n+1,i,hn,hi=>by
   have hi:i<s.length:=(by omega);obtain⟨x,hx⟩:=bl hi;unfold zz at hS;have ih:=N3 hS n (i+1) (by omega) (by omega);simp at ih;rw[g73L0e,aX hx,jW];have key:im x.toNat=((decide (97≤(x.toNat:Int)) && decide ((x.toNat:Int)≤122)) || (decide (65≤(x.toNat:Int)) && decide ((x.toNat:Int)≤90)) || (decide (48≤(x.toNat:Int)) && decide ((x.toNat:Int)≤57)) || ((x.toNat:Int) == 95)):=rfl;rw[key];have hc:∃c:Int,c=x.toNat:=⟨_,rfl⟩;obtain⟨c,hc⟩:=hc;have e97:(97≤(x.toNat:Int))=(97≤c):=(by rw[hc]);rw[←hc]
   have goOn:∀b1 b2 b3 b4 b5 b6 b7:Bool,decide (97≤c)=b1→decide (c≤122)=b2→decide (65≤c)=b3→decide (c≤90)=b4→decide (48≤c)=b5→decide (c≤57)=b6→(c == 95)=b7 →
       after (cl AP g73L0) (cl AP g73B0 (norm (restrict [0,31,32] ⟨[(0,.pv (.str s)),(31,.pv (vI s.length)),(32,.pv (vI i))],[],[],[]⟩))) =
       if (((b1 && b2) || (b3 && b4) || (b5 && b6) || b7) && ix (s.drop (i+1)))=true then some (.exit 0,⟨[(0,.pv (.str s)),(31,.pv (vI s.length)),(32,.pv (vI s.length)),(33,.pv (.bool false))],[],[],[]⟩)
       else some (.ret,⟨[(6,.pv (.bool false))],[],[],[]⟩):=by
     intro b1 b2 b3 b4 b5 b6 b7 h1 h2 h3 h4 h5 h6 h7;have g8:decide (c<48)=!b5:=by rw[←h5,←decide_not];simp[Int.not_le]
     have g9:decide (57<c)=!b6:=by rw[←h6,←decide_not];simp[Int.not_le]
     cases b1<;>cases b3<;>cases b5<;>cases b2<;>cases b4<;>cases b6<;>cases b7 <;>
       (have k1:=h1;have k2:=h2;have k3:=h3;have k4:=h4;have k5:=h5;have k6:=h6;have k7:=h7
        simp only[decide_eq_true_eq,decide_eq_false_iff_not,beq_iff_eq,beq_eq_false_iff_ne,ne_eq]at k1 k2 k3 k4 k5 k6 k7
        first
        |(exfalso;omega)
        |(simp (disch:=omega) [-getElem?_pos,g73B0,hx,hi,←hc,k1,k2,k3,k4,k5,k6,k7,g8,g9,aw,ih];done))
   exact goOn _ _ _ _ _ _ _ rfl rfl rfl rfl rfl rfl rfl
structure El{α:Type}(f:α→PV)(sz:Nat)(ag:Bool):Prop where
 len:∀x,(aS (f x)).length=sz
 of:∀x,cy ag sz (aS (f x))=some (.pv (f x))
theorem El.head{α:Type}{f:α→PV}{sz:Nat}{ag:Bool}(h:El f sz ag)(l:List α):a0 sz (l.map f)=true:=by
 cases l with
 |nil=>rfl
 |cons x r=>simp[a0,h.len x]
theorem qa:El vI 1 false:=⟨fun _=>rfl,fun _=>rfl⟩
theorem jg:El PV.str 1 false:=⟨fun _=>rfl,fun _=>rfl⟩
theorem L5:El Ty.pv 5 true:=⟨fun x=>by simp,fun x=>by simp⟩
theorem L6:El Dt.pv 4 true:=⟨fun x=>by simp,fun x=>by simp⟩
def tm(sz:Nat)(ag:Bool):ae:=
 (.seq
  (.gk [⟨some 9,none,[.t 8,.t 7],.v (.bin .lss)⟩] [0,1,7,8,9])
  (.seq
   (.cond (.t 9)
    .skip
    (.exit 0))
   (.seq
    (.block 1
     (.seq
      (.gk [⟨some 10,none,[.t 8],.v (.mv)⟩,
        ⟨some 5,none,[.t 10],.v (.mv)⟩] [0,1,5,7,8])
      (.seq
       (.gk [⟨some 11,none,[.t 1],.v (.mv)⟩,
         ⟨some 12,none,[.t 0],.v (.mv)⟩,
         ⟨some 13,none,[.t 5],.v (.mv)⟩,
         ⟨some 14,none,[.t 12,.t 13],.v (.ep sz)⟩,
         ⟨some 15,none,[.t 14],.dH sz ag⟩,
         ⟨some 16,none,[.t 11,.t 15],.et⟩] [0,1,5,7,8,16])
       (.cond (.t 16)
        (.seq
         (.gk [⟨some 17,none,[.t 5],.v (.mv)⟩,
           ⟨some 4,none,[.t 17],.v (.mv)⟩] [4])
         .ret)
        .skip))))
    (.gk [⟨some 18,none,[.t 8,.c (.pv (.int .i64 1))],.v (.bin .add)⟩,
      ⟨some 8,none,[.t 18],.v (.mv)⟩] [0,1,7,8]))))
def Ge(sz:Nat)(ag:Bool):ae:=.loop [0,1,7,8] (tm sz ag)
theorem l7{sz:Nat}{ag:Bool}{st:St}:cl AP (Ge sz ag) st=after (cl AP (Ge sz ag)) (cl AP (tm sz ag) (norm (restrict [0,1,7,8] st))):=aE
def n_(sz:Nat)(ag:Bool):aA:=⟨2,19,[.t 4],
 (.seq
  (.gk [⟨some 4,none,[.c (.pv (.int .i64 0))],.v (.mv)⟩] [0,1])
  (.seq
   (.seq
    (.gk [⟨some 6,none,[.t 0],.v (.mv)⟩,
      ⟨some 7,none,[.t 6],.v (.len)⟩,
      ⟨some 8,none,[.c (.pv (.int .i64 0))],.v (.mv)⟩] [0,1,7,8])
    (.block 0
     (Ge sz ag)))
   (.seq
    (.gk [⟨some 4,none,[.c (.pv (.int .i64 (-1)))],.v (.mv)⟩] [4])
    .ret))),none,false⟩
def Kp(g:Nat):aA:=⟨2,9,[.t 4],
 (.seq
  (.gk [⟨some 4,none,[.c (.pv (.bool false))],.v (.mv)⟩] [0,1])
  (.seq
   (.gk [⟨some 5,none,[.t 0],.v (.mv)⟩,
     ⟨some 6,none,[.t 1],.v (.mv)⟩,
     ⟨some 7,none,[.t 5,.t 6],.bG g []⟩,
     ⟨some 8,none,[.t 7,.c (.pv (.int .i64 0))],.v (.bin .geq)⟩,
     ⟨some 4,none,[.t 8],.v (.mv)⟩] [4])
   .ret)),none,false⟩
def tq{α:Type}(F:AV)(sh:Sh)(f:α→PV)(p:α→Bool)(s:List α):Prop:=∀x∈s,exec (aC AP) .et [F,.pv (f x)] none sh []=some ⟨.pv (.bool (p x)),none,sh,[]⟩
def DD{α:Type}(f:α→PV)(F:AV)(s:List α)(sh:Sh)(i:Nat):Option Nat→Option (aU×St)
 |some k=>some (.ret,⟨[(4,.pv (vI (i+k:Nat)))],[],sh,[]⟩)
 |none=>some (.exit 0,⟨[(0,.pv (.az (s.map f))),(1,F),(7,.pv (vI s.length)),(8,.pv (vI s.length)),(9,.pv (.bool false))],[],sh,[]⟩)
theorem L7{α:Type}{f:α→PV}{sz:Nat}{ag:Bool}(he:El f sz ag){s:List α}(hS:Sm s){sh:Sh}(hq:aJ sh){g:Nat}{cap:List AV}{p:α→Bool}(hcap:bm.dI cap=true)
   (hf:tq (.fn g cap) sh f p s):∀(n i:Nat),s.length-i=n→i≤s.length →
   cl AP (Ge sz ag) ⟨[(0,.pv (.az (s.map f))),(1,.fn g cap),(7,.pv (vI s.length)),(8,.pv (vI i))],[],sh,[]⟩=DD f (.fn g cap) s sh i (bD p (s.drop i))
 |0,i,hn,hi=>by
   have:i=s.length:=by omega
   subst this;rw[l7];simp[tm,bD,DD,hq.norm,hcap]
 |n+1,i,hn,hi=>by
   have hi:i<s.length:=(by omega);obtain⟨x,hx⟩:=bl hi;unfold Sm at hS;have ih:=L7 he hS hq hcap hf n (i+1) (by omega) (by omega);simp at ih;have hc:=hf x (bE hx);rw[l7,aX hx];cases e:p x with
   |true=>
     rw[e]at hc;simp (disch:=omega) [-getElem?_pos,-dU,tm,hx,hi,e,bD,DD,hq.norm,hc,hcap,he.len,he.of]
   |false=>
     rw[e]at hc;simp (disch:=omega) [-getElem?_pos,-dU,tm,hx,hi,e,bD,aw,hq.norm,hc,ih,hcap,he.len,he.of];cases bD p (s.drop (i+1)) with
     |none=>rfl
     |some k=>simp[DD];omega
def iK(o:Option Nat):Int:=match o with|some k=>k|none=>-1
theorem L8{α:Type}{f:α→PV}{sz:Nat}{ag:Bool}(he:El f sz ag){k:Nat}(hk:AP k=some (n_ sz ag)){s:List α}(hS:Sm s){sh:Sh}(hq:aJ sh){g:Nat}{cap:List AV}{p:α→Bool}(hcap:bm.dI cap=true)
   (hf:tq (.fn g cap) sh f p s):(aC AP).i k [.pv (.az (s.map f)),.fn g cap] sh []=some ([.pv (vI (iK (bD p s)))],sh,[]):=by
 have h:=L7 he hS hq hcap hf _ 0 rfl (by omega);simp at h;rw[aH hk (by simp[n_])];cases hi:bD p s with
 |none=>rw[hi]at h;simp[DD]at h;simp[n_,h,hq.norm,hcap,iK]
 |some k=>rw[hi]at h;simp[DD]at h;simp[n_,h,hq.norm,hcap,iK]
theorem qb{α:Type}{p:α→Bool}{s:List α}:decide (0≤iK (bD p s))=s.any p:=by
 cases hi:bD p s with
 |none=>
   have:s.any p=false:=by rw[List.any_eq_false];intro x hx;rw[iJ.1 hi x hx];simp
   rw[this];rfl
 |some k=>
   have:s.any p=true:=by
     cases e:s.any p with
     |true=>rfl
     |false=>rw[List.any_eq_false]at e;have:=iJ.2 (fun x hx=>by simpa using e x hx);rw[hi]at this;cases this
   rw[this];simp[iK]
theorem Gf{α:Type}{f:α→PV}{sz:Nat}{ag:Bool}(he:El f sz ag){m k:Nat}(hm:AP m=some (Kp k))(hk:AP k=some (n_ sz ag)){s:List α}(hS:Sm s){sh:Sh}(hq:aJ sh){g:Nat}{cap:List AV}{p:α→Bool}(hcap:bm.dI cap=true)(hpass:bA.gr cap=true)(hnrm:∀aF ts,aZ aF ts cap=(cap,aF,ts))
   (hf:tq (.fn g cap) sh f p s):(aC AP).i m [.pv (.az (s.map f)),.fn g cap] sh []=some ([.pv (.bool (s.any p))],sh,[]):=by
 have h:=L8 he hk hS hq hcap hf;rw[aH hm (by simp[Kp])];rw[←qb];simp[Kp,h,hq.norm,hq.shift,hcap,hpass,hnrm]
theorem c73{s:List UInt8}(hS:zz s){lo hi:Int}:(aC AP).p 73 [.str s,vC lo,vC hi]=some [.bool (jt s lo hi)]:=by
 have h:=N3 hS _ 0 rfl (by omega);simp at h;rw[ah (af:=g73) rfl rfl (by decide)];cases s with
 |nil=>simp[g73,jt]
 |cons b r=>
   by_cases e3:r.length+1≤12
   · have e3':¬((12:Int)<r.length+1):=(by omega);have e0:¬((r.length:Int)+1<1):=(by omega);by_cases e1:(b.toNat:Int)<lo
     ·have e1':¬(lo≤(b.toNat:Int)):=(by omega);simp[g73,jt,e0,e3',e1,e1']
     · have e1':lo≤(b.toNat:Int):=(by omega);by_cases e2:hi<(b.toNat:Int)
       ·have e2':¬((b.toNat:Int)≤hi):=(by omega);simp[g73,jt,e0,e3',e1,e2,e2']
       · have e2':(b.toNat:Int)≤hi:=(by omega);cases e4:ix (b::r)
         ·simp[e4]at h;simp[g73,jt,e0,e3',e1,e2,e1',e2',h,e4]
         · simp[e4]at h;cases e5:Gd (b::r)
           · have k:∀k∈Gc,¬(b::r)=k:=by
               intro k hk e;rw[e]at e5;simp only[Gd]at e5;rw[List.contains_eq_mem]at e5;simp at e5;exact e5 hk
             have k1:=k [100,97,116,97] (by simp[Gc]);have k2:=k [108,101,116] (by simp[Gc]);have k3:=k [114,101,99] (by simp[Gc]);have k4:=k [105,110] (by simp[Gc]);have k5:=k [99,97,115,101] (by simp[Gc]);have k6:=k [111,102] (by simp[Gc]);have k7:=k [101,110,100] (by simp[Gc]);have b1:((b::r) == [100,97,116,97])=false:=(by simpa using k1);have b2:((b::r) == [108,101,116])=false:=(by simpa using k2);have b3:((b::r) == [114,101,99])=false:=(by simpa using k3);have b4:((b::r) == [105,110])=false:=(by simpa using k4);have b5:((b::r) == [99,97,115,101])=false:=(by simpa using k5);have b6:((b::r) == [111,102])=false:=(by simpa using k6);have b7:((b::r) == [101,110,100])=false:=(by simpa using k7);simp[g73,jt,e0,e3',e1,e2,e1',e2',h,e4,e5,e3,-List.cons_beq_cons,b1,b2,b3,b4,b5,b6,b7]
           · simp only[Gd,Gc,List.contains_iff_mem,List.mem_cons,List.not_mem_nil,or_false]at e5
             rcases e5 with e|e|e|e|e|e|e<;>(simp only[List.cons.injEq]at e;obtain⟨rfl,rfl⟩:=e) <;>
               simp[jt,Gd,Gc]<;>(simp at e1 e2 h e1' e2';simp[g73,h,e1,e2])
   ·have e3':(12:Int)<r.length+1:=(by omega);simp[g73,jt,e3',e3]
def DE(s:List UInt8)(n:Nat):Bool:=if s=[45,62] then decide (n=2) else if s=[73,110,116] then decide (n=0) else jt s 65 90 && decide (n≤4)
theorem c74{s:List UInt8}(hS:zz s){n:Nat}:(aC AP).p 74 [.str s,vI n]=some [.bool (DE s n)]:=by
 have h:=c73 hS (lo:=65) (hi:=90);rw[ah (af:=g74) rfl rfl (by decide)];by_cases e1:s=[45,62]
 · have:((n:Int) == 2)=decide (n=2):=by rw[Bool.eq_iff_iff];simp;omega
   subst e1;simp[g74,DE,this]
 · have b1:(s == [45,62])=false:=(by simpa using e1);by_cases e2:s=[73,110,116]
   · have:((n:Int) == 0)=decide (n=0):=by rw[Bool.eq_iff_iff];simp
     subst e2;simp[g74,DE,this]
   ·have b2:(s == [73,110,116])=false:=(by simpa using e2);have:decide ((n:Int)≤4)=decide (n≤4):=(by rw[Bool.eq_iff_iff];simp;omega);cases e3:jt s 65 90<;>simp[e3]at h<;>simp[g74,DE,e1,e2,b1,b2,h,e3,this]
mutual
def fH:Ty→Bool
 |⟨k,n,i,h,as⟩=>
   if k=1∨k=2 then decide (n=[]) && decide (as=[]) && decide (0≤i) && decide (i≤1000000) && (h == 0)
   else if k=3 then decide (n=[]) && decide (as=[]) && decide (0≤i) && decide (i≤1000000) && decide (-1≤h) && decide (h≤1000000)
   else if k=5 then decide (as=[]) && (i == 0) && (h == 0) && jt n 97 122
   else if k=4 then (i == 0) && (h == 0) && DE n as.length && qc as
   else false
def qc:List Ty→Bool
 |[]=>true
 |a::r=>fH a && qc r
end
theorem qd:∀l:List Ty,qc l=l.all fH
 |[]=>by simp[qc]
 |a::r=>by simp[qc,qd r]
theorem DF(t:Ty):fH t =
   if t.kind=1∨t.kind=2 then decide (t.name=[]) && decide (t.args=[]) && decide (0≤t.id) && decide (t.id≤1000000) && (t.home == 0)
   else if t.kind=3 then decide (t.name=[]) && decide (t.args=[]) && decide (0≤t.id) && decide (t.id≤1000000) && decide (-1≤t.home) && decide (t.home≤1000000)
   else if t.kind=5 then decide (t.args=[]) && (t.id == 0) && (t.home == 0) && jt t.name 97 122
   else if t.kind=4 then (t.id == 0) && (t.home == 0) && DE t.name t.args.length && t.args.all fH
   else false:=by
 cases t;simp only[fH,qd]
def DG(F:AV)(s:List Ty)(sh:Sh)(i:Nat):Option Nat→Option (aU×St)
 |some k=>some (.ret,⟨[(4,.pv (vI (i+k:Nat)))],[],sh,[]⟩)
 |none=>some (.exit 0,⟨[(0,.pv (.az (s.map Ty.pv))),(1,F),(7,.pv (vI s.length)),(8,.pv (vI s.length)),(9,.pv (.bool false))],[],sh,[]⟩)
theorem L9{s:List Ty}(hS:Sm s){sh:Sh}(hq:aJ sh){g:Nat}{cap:List AV}{p:Ty→Bool}(hcap:bm.dI cap=true)(hpass:bA.gr cap=true)(harg:dz [] 1 cap=cap)(hnrm:∀aF ts,aZ aF ts cap=(cap,aF,ts))(hpo:cap.all bu=true)
   (hf:∀x∈s,(aC AP).i g (.pv x.pv::cap) sh []=some ([.pv (.bool (p x))],sh,[])):∀(n i:Nat),s.length-i=n→i≤s.length →
   cl AP g107L0 ⟨[(0,.pv (.az (s.map Ty.pv))),(1,.fn g cap),(7,.pv (vI s.length)),(8,.pv (vI i))],[],sh,[]⟩=DG (.fn g cap) s sh i (bD p (s.drop i))
 |0,i,hn,hi=>by
   have:i=s.length:=by omega
   subst this;rw[g107L0e];simp[g107B0,bD,DG,hq.norm,hcap]
 |n+1,i,hn,hi=>by
   have hi:i<s.length:=(by omega);obtain⟨x,hx⟩:=bl hi;unfold Sm at hS;have ih:=L9 hS hq hcap hpass harg hnrm hpo hf n (i+1) (by omega) (by omega);simp at ih;have hc:=hf x (bE hx);simp at hc;rw[g107L0e,aX hx];cases e:p x with
   |true=>
     rw[e]at hc;simp (disch:=omega) [-getElem?_pos,g107B0,hx,hi,e,bD,DG,hq.norm,hq.shift,hc,hcap,hpass,harg,hnrm,hpo]
   |false=>
     rw[e]at hc;simp (disch:=omega) [-getElem?_pos,g107B0,hx,hi,e,bD,aw,hq.norm,hq.shift,hc,ih,hcap,hpass,harg,hnrm,hpo];cases bD p (s.drop (i+1)) with
     |none=>rfl
     |some k=>simp[DG];omega
theorem c75{s:List Ty}(hS:Sm s){sh:Sh}(hq:aJ sh){g:Nat}{cap:List AV}{p:Ty→Bool}(hcap:bm.dI cap=true)(hpass:bA.gr cap=true)(harg:dz [] 1 cap=cap)(hnrm:∀aF ts,aZ aF ts cap=(cap,aF,ts))(hpo:cap.all bu=true)
   (hf:∀x∈s,(aC AP).i g (.pv x.pv::cap) sh []=some ([.pv (.bool (p x))],sh,[])):(aC AP).i 75 [.pv (.az (s.map Ty.pv)),.fn g cap] sh []=some ([.pv (.bool (s.any p))],sh,[]):=by
 have h:=L9 hS hq hcap hpass harg hnrm hpo hf _ 0 rfl (by omega);simp at h
 have c107:(aC AP).i 107 [.pv (.az (s.map Ty.pv)),.fn g cap] sh []=some ([.pv (vI (match bD p s with|some k=>k|none=>-1))],sh,[]):=by
   rw[aH (af:=g107) rfl (by simp[g107])];cases hi:bD p s with
   |none=>rw[hi]at h;simp[DG]at h;simp[g107,h,hq.norm,hcap]
   |some k=>rw[hi]at h;simp[DG]at h;simp[g107,h,hq.norm,hcap]
 rw[aH (af:=g75) rfl (by simp[g75])];cases hi:bD p s with
 |none=>
   rw[hi]at c107;have:s.any p=false:=by rw[List.any_eq_false];intro x hx;rw[iJ.1 hi x hx];simp
   simp[g75,c107,hq.norm,hq.shift,hcap,hpass,hnrm,this]
 |some k=>
   rw[hi]at c107
   have:s.any p=true:=by
     cases e:s.any p with
     |true=>rfl
     |false=>rw[List.any_eq_false]at e;have:=iJ.2 (fun x hx=>by simpa using e x hx);rw[hi]at this;cases this
   simp[g75,c107,hq.norm,hq.shift,hcap,hpass,hnrm,this]
inductive Ty.Nm:Ty→Prop
 |mk {t:Ty}:zz t.name→(∀x∈t.args,Ty.Nm x)→Ty.Nm t
theorem Ty.Nm.sm{t:Ty}(h:t.Nm):zz t.name:=by cases h;assumption
theorem Ty.Nm.F_{t:Ty}(h:t.Nm):∀x∈t.args,x.Nm:=by cases h;assumption
theorem c29{t:Ty}(hO:t.Ok)(hN:t.Nm):(aC AP).p 29 [t.pv]=some [.bool (fH t)]:=by
 revert hO hN
 refine Ty.l3 (p:=fun t=>t.Ok→t.Nm→(aC AP).p 29 [t.pv]=some [.bool (fH t)]) ?_ t;intro t ih hO hN;have ht:=c74 hN.sm (n:=t.args.length);have hl:=c73 hN.sm (lo:=97) (hi:=122)
 have hc:=c75 hO.sm (sh:=[]) (by intro cs h;simp at h) (g:=76) (cap:=[]) (p:=fun x=>!fH x) rfl rfl rfl (fun _ _=>rfl) rfl (by
   intro x hx;have hx':=ih x hx (hO.F_ x hx) (hN.F_ x hx);simp at hx';rw[aH (af:=g76) rfl (by simp[g76])];simp[g76,hx'])
 have hany:=oF (p:=fH) (l:=t.args);rw[ah (af:=g29) rfl rfl (by decide),DF];have h0:((t.args.length:Int) == 0)=decide (t.args=[]):=by rw[Bool.eq_iff_iff];simp
 by_cases k1:t.kind=1
 · simp[g29,k1,h0]
   (repeat' split)<;>simp_all<;>omega
 · by_cases k2:t.kind=2
   · simp[g29,k2,h0]
     (repeat' split)<;>simp_all<;>omega
   · by_cases k3:t.kind=3
     · simp[g29,k3,h0]
       (repeat' split)<;>simp_all<;>omega
     · by_cases k5:t.kind=5
       · simp[g29,k5,h0,hl]
         (repeat' split)<;>simp_all<;>omega
       · by_cases k4:t.kind=4
         · simp[g29,k4,h0,ht,hc]
           (repeat' split)<;>simp_all<;>omega
         ·simp[g29,k1,k2,k3,k4,k5,h0]
abbrev Sc:=As
structure En where
 name:List UInt8
 sc:Sc
 deriving Inhabited
def En.pv(a:En):PV:=.agg [.str a.name,.int .i64 a.sc.id,.int .i64 a.sc.ty.kind,.str a.sc.ty.name,.int .i64 a.sc.ty.id,.int .i64 a.sc.ty.home,.az (a.sc.ty.args.map Ty.pv)]
@[simp] theorem En.dR(a:En):a.pv=.agg [.str a.name,.int .i64 a.sc.id,.int .i64 a.sc.ty.kind,.str a.sc.ty.name,.int .i64 a.sc.ty.id,.int .i64 a.sc.ty.home,.az (a.sc.ty.args.map Ty.pv)]:=rfl
@[simp] theorem En.eta(t:En):En.mk t.name t.sc=t:=rfl
noncomputable instance:DecidableEq En:=fun _ _=>Classical.propDecidable _
structure Lf{α:Type}(f:α→PV)(cs:α→List PV)(sz:Nat):Prop where
 eq:∀x,f x=.agg (cs x)
 len:∀x,(cs x).length=sz
 leaf:∀x,((cs x).map AV.pv).all aP=true
def L_(z1 z2:List PV)(s1 s2:Nat):ae:=
 (.seq
  (.gk [⟨some 18,none,[.t 17,.t 16],.v (.bin .lss)⟩] [1,2,15,16,17,18])
  (.seq
   (.cond (.t 18)
    .skip
    (.exit 0))
   (.seq
    (.block 1
     (.seq
      (.gk [⟨some 19,none,[.t 17],.v (.mv)⟩,
        ⟨some 20,none,[.t 15,.t 17],.v (.ep s1)⟩,
        ⟨some 21,none,[.t 20],.dH s1 true⟩,
        ⟨some 8,none,[],.alloc 8 z1⟩,
        ⟨some 7,none,[.t 19],.v (.mv)⟩,
        ⟨none,none,[.t 8,.t 21],.bB 8 0 s1⟩] [1,2,7,8,15,16,17])
      (.seq
       (.gk [⟨some 22,none,[.t 1],.v (.mv)⟩,
         ⟨some 23,none,[.t 7],.v (.mv)⟩,
         ⟨some 24,none,[.t 22,.t 23],.v (.ep s2)⟩,
         ⟨some 25,none,[.t 24],.dH s2 true⟩,
         ⟨some 9,none,[],.alloc 9 z2⟩,
         ⟨none,none,[.t 9,.t 25],.bB 9 0 s2⟩] [1,2,8,9,15,16,17])
       (.seq
        (.gk [⟨some 26,none,[.t 2],.v (.mv)⟩,
          ⟨some 27,none,[.t 8],.b_ 8 0 s1 true⟩,
          ⟨some 28,none,[.t 9],.b_ 9 0 s2 true⟩,
          ⟨some 29,none,[.t 26,.t 27,.t 28],.et⟩,
          ⟨some 30,none,[.t 29],.v (.un .not)⟩] [1,2,15,16,17,30])
        (.cond (.t 30)
         (.seq
          (.gk [⟨some 6,none,[.c (.pv (.bool false))],.v (.mv)⟩] [6])
          .ret)
         .skip)))))
    (.gk [⟨some 31,none,[.t 17,.c (.pv (.int .i64 1))],.v (.bin .add)⟩,
      ⟨some 17,none,[.t 31],.v (.mv)⟩] [1,2,15,16,17]))))
def M_(z1 z2:List PV)(s1 s2:Nat):ae:=.loop [1,2,15,16,17] (L_ z1 z2 s1 s2)
theorem Gg{z1 z2:List PV}{s1 s2:Nat}{st:St}:cl AP (M_ z1 z2 s1 s2) st=after (cl AP (M_ z1 z2 s1 s2)) (cl AP (L_ z1 z2 s1 s2) (norm (restrict [1,2,15,16,17] st))):=aE
def L'(z1 z2:List PV)(s1 s2:Nat):aA:=⟨3,32,[.t 6],
 (.seq
  (.gk [⟨some 6,none,[.c (.pv (.bool false))],.v (.mv)⟩] [0,1,2])
  (.seq
   (.seq
    (.gk [⟨some 10,none,[.t 0],.v (.mv)⟩,
      ⟨some 11,none,[.t 10],.v (.len)⟩,
      ⟨some 12,none,[.t 1],.v (.mv)⟩,
      ⟨some 13,none,[.t 12],.v (.len)⟩,
      ⟨some 14,none,[.t 11,.t 13],.v (.bin .neq)⟩] [0,1,2,14])
    (.cond (.t 14)
     (.seq
      (.gk [⟨some 6,none,[.c (.pv (.bool false))],.v (.mv)⟩] [6])
      .ret)
     .skip))
   (.seq
    (.seq
     (.gk [⟨some 15,none,[.t 0],.v (.mv)⟩,
       ⟨some 16,none,[.t 15],.v (.len)⟩,
       ⟨some 17,none,[.c (.pv (.int .i64 0))],.v (.mv)⟩] [1,2,15,16,17])
     (.block 0
      (M_ z1 z2 s1 s2)))
    (.seq
     (.gk [⟨some 6,none,[.c (.pv (.bool true))],.v (.mv)⟩] [6])
     .ret)))),none,false⟩
def Gi{α β:Type}(F:AV)(sh:Sh)(c:α→List PV)(d:β→List PV)(p:α→β→Bool)(s:List α):Prop:=
 ∀x∈s,∀y,exec (aC AP) .et [F,.agg ((c x).map .pv),.agg ((d y).map .pv)] none sh []=some ⟨.pv (.bool (p x y)),none,sh,[]⟩
def jx{α β:Type}(p:α→β→Bool):List α→List β→Bool
 |[],[]=>true
 |x::r,y::t=>p x y && jx p r t
 |_,_=>false
theorem wm{α β:Type}{p:α→β→Bool}:∀{a:List α} {b:List β},jx p a b=true→a.length=b.length
 |[],[],_=>rfl
 |x::r,y::t,h=>by simp only[jx,Bool.and_eq_true]at h;simp[wm h.2]
 |[],_::_,h=>by simp[jx]at h
 |_::_,[],h=>by simp[jx]at h
def Ma{α β:Type}(f:α→PV)(g:β→PV)(F:AV)(a:List α)(b:List β)(sh:Sh)(t:Bool):Option (aU×St):=
 if t=true then some (.exit 0,⟨[(1,.pv (.az (b.map g))),(2,F),(15,.pv (.az (a.map f))),(16,.pv (vI a.length)),(17,.pv (vI a.length)),(18,.pv (.bool false))],[],sh,[]⟩)
 else some (.ret,⟨[(6,.pv (.bool false))],[],sh,[]⟩)
theorem N4{α β:Type}{f:α→PV}{g:β→PV}{c:α→List PV}{d:β→List PV}{s1 s2:Nat}(hf:Lf f c s1)(hg:Lf g d s2){z1 z2:List PV}(h1:z1.length=s1)(h2:z2.length=s2){a:List α}{b:List β}(hS:Sm a)(hl:a.length=b.length)
   {sh:Sh} (hq:aJ sh) {k:Nat} {cap:List AV} {p:α→β→Bool} (hcap:bm.dI cap=true) (hp:Gi (.fn k cap) sh c d p a):∀(n i:Nat),a.length-i=n→i≤a.length →
   cl AP (M_ z1 z2 s1 s2) ⟨[(1,.pv (.az (b.map g))),(2,.fn k cap),(15,.pv (.az (a.map f))),(16,.pv (vI a.length)),(17,.pv (vI i))],[],sh,[]⟩=Ma f g (.fn k cap) a b sh (jx p (a.drop i) (b.drop i))
 |0,i,hn,hi=>by
   have:i=a.length:=by omega
   subst this;rw[Gg,il (l:=b) (by omega),il (l:=a) (by omega)];simp[L_,Ma,jx,hq.norm,hcap]
 |n+1,i,hn,hi=>by
   have hi:i<a.length:=(by omega);obtain⟨x,hx⟩:=bl hi;obtain⟨y,hy⟩:=bl (hl ▸ hi);unfold Sm at hS;have ih:=N4 hf hg h1 h2 hS hl hq hcap hp n (i+1) (by omega) (by omega);simp at ih;have hc:=hp x (bE hx) y;rw[Gg,aX hx,aX hy];have u1:=hf.len x;have u2:=hg.len y;have e1:(z1.map bo.zeroCell).drop s1=[]:=(by rw[List.drop_eq_nil_of_le];simp[h1]);have e2:(z2.map bo.zeroCell).drop s2=[]:=(by rw[List.drop_eq_nil_of_le];simp[h2]);have t1:((c x).map AV.pv).take s1=(c x).map AV.pv:=(by rw[List.take_of_length_le];simp[u1]);have t2:((d y).map AV.pv).take s2=(d y).map AV.pv:=(by rw[List.take_of_length_le];simp[u2]);have q1:(c x).take s1=c x:=(by rw[List.take_of_length_le];omega);have q2:(d y).take s2=d y:=(by rw[List.take_of_length_le];omega);have w1:=hf.leaf x;have w2:=hg.leaf y;cases e:p x y with
   |true=>
     rw[e]at hc;simp (disch:=omega) [-getElem?_pos,-dU,-List.all_map,-List.map_take,-List.map_drop,-List.map_eq_nil_iff,L_,hx,hy,hi,e,jx,aw,hq.norm,hc,ih,hcap,hf.eq,hg.eq,u1,u2,h1,h2,e1,e2,t1,t2,q1,q2,w1,w2]
   |false=>
     rw[e]at hc;simp (disch:=omega) [-getElem?_pos,-dU,-List.all_map,-List.map_take,-List.map_drop,-List.map_eq_nil_iff,L_,hx,hy,hi,e,jx,Ma,hq.norm,hc,hcap,hf.eq,hg.eq,u1,u2,h1,h2,e1,e2,t1,t2,q1,q2,w1,w2]
theorem Oi{α β:Type}{f:α→PV}{g:β→PV}{c:α→List PV}{d:β→List PV}{s1 s2:Nat}(hf:Lf f c s1)(hg:Lf g d s2){z1 z2:List PV}(h1:z1.length=s1)(h2:z2.length=s2){m:Nat}(hm:AP m=some (L' z1 z2 s1 s2)){a:List α}{b:List β}(hS:Sm a)
   {sh:Sh} (hq:aJ sh) {k:Nat} {cap:List AV} {p:α→β→Bool} (hcap:bm.dI cap=true) (hp:Gi (.fn k cap) sh c d p a) :
   (aC AP).i m [.pv (.az (a.map f)),.pv (.az (b.map g)),.fn k cap] sh []=some ([.pv (.bool (jx p a b))],sh,[]):=by
 rw[aH hm (by simp[L'])];by_cases hl:a.length=b.length
 · have h:=N4 hf hg h1 h2 hS hl hq hcap hp _ 0 rfl (by omega);simp at h;cases e:jx p a b with
   |true=>rw[e]at h;simp[Ma]at h;simp[L',h,hq.norm,hcap,hl.symm]
   |false=>rw[e]at h;simp[Ma]at h;simp[L',h,hq.norm,hcap,hl.symm]
 · have e:jx p a b=false:=by
     cases e:jx p a b with
     |true=>exact absurd (wm e) hl
     |false=>rfl
   simp[L',hq.norm,hcap,hl,e];omega
section
variable {P:Program} {n:Nat} {t e:TypeId} {p:PV}
theorem AB(hu:P.underlying t=some (.int .i64))(h:v9 P n t p):∃i,p=vI i:=by
 cases n with
 |zero=>simp[v9]at h
 |succ n=>simp only[v9,hu]at h;obtain⟨i,rfl,_⟩:=h;exact⟨i,rfl⟩
theorem Gj(hu:P.underlying t=some .bool)(h:v9 P n t p):∃b,p=.bool b:=by
 cases n with
 |zero=>simp[v9]at h
 |succ n=>simp only[v9,hu]at h;exact h
end
end Go.Ab.Lw
namespace Go.Ab.Lw
open Ev
def Mb:ae:=
 (.seq
  (.gk [⟨some 9,none,[.t 8,.t 7],.v (.bin .lss)⟩] [0,1,7,8,9])
  (.seq
   (.cond (.t 9)
    .skip
    (.exit 0))
   (.seq
    (.block 1
     (.seq
      (.gk [⟨some 10,none,[.t 8],.v (.mv)⟩,
        ⟨some 5,none,[.t 10],.v (.mv)⟩] [0,1,5,7,8])
      (.seq
       (.gk [⟨some 11,none,[.t 1],.v (.mv)⟩,
         ⟨some 12,none,[.t 0],.v (.mv)⟩,
         ⟨some 13,none,[.t 5],.v (.mv)⟩,
         ⟨some 14,none,[.t 12,.t 13],.v (.ep 1)⟩,
         ⟨some 15,none,[.t 14],.v (.eW 1 false)⟩,
         ⟨some 16,none,[.t 11,.t 15],.v (.bin .eql)⟩] [0,1,5,7,8,16])
       (.cond (.t 16)
        (.seq
         (.gk [⟨some 17,none,[.t 5],.v (.mv)⟩,
           ⟨some 4,none,[.t 17],.v (.mv)⟩] [4])
         .ret)
        .skip))))
    (.gk [⟨some 18,none,[.t 8,.c (.pv (.int .i64 1))],.v (.bin .add)⟩,
      ⟨some 8,none,[.t 18],.v (.mv)⟩] [0,1,7,8]))))
def Na:ae:=.loop [0,1,7,8] Mb
theorem Gk{st:St}:cl AP Na st=after (cl AP Na) (cl AP Mb (norm (restrict [0,1,7,8] st))):=aE
def Mc:aA:=⟨2,19,[.t 4],
 (.seq
  (.gk [⟨some 4,none,[.c (.pv (.int .i64 0))],.v (.mv)⟩] [0,1])
  (.seq
   (.seq
    (.gk [⟨some 6,none,[.t 0],.v (.mv)⟩,
      ⟨some 7,none,[.t 6],.v (.len)⟩,
      ⟨some 8,none,[.c (.pv (.int .i64 0))],.v (.mv)⟩] [0,1,7,8])
    (.block 0
     Na))
   (.seq
    (.gk [⟨some 4,none,[.c (.pv (.int .i64 (-1)))],.v (.mv)⟩] [4])
    .ret))),none,false⟩
def NA(g:Nat):aA:=⟨2,9,[.t 4],
 (.seq
  (.gk [⟨some 4,none,[.c (.pv (.bool false))],.v (.mv)⟩] [0,1])
  (.seq
   (.gk [⟨some 5,none,[.t 0],.v (.mv)⟩,
     ⟨some 6,none,[.t 1],.v (.mv)⟩,
     ⟨some 7,none,[.t 5,.t 6],.aL g⟩,
     ⟨some 8,none,[.t 7,.c (.pv (.int .i64 0))],.v (.bin .geq)⟩,
     ⟨some 4,none,[.t 8],.v (.mv)⟩] [4])
   .ret)),none,false⟩
structure Nb{α:Type}[DecidableEq α](f:α→PV):Prop where
 el:El f 1 false
 eq:∀x y,bo (.bin .eql) [.pv (f x),.pv (f y)]=some (.pv (.bool (decide (x=y))))
theorem Ip:Nb PV.str:=⟨jg,fun x y=>by simp;rw[Bool.eq_iff_iff];simp⟩
def Lg{α:Type}(f:α→PV)(s:List α)(y:α)(i:Nat):Option Nat→Option (aU×St)
 |some k=>some (.ret,⟨[(4,.pv (vI (i+k:Nat)))],[],[],[]⟩)
 |none=>some (.exit 0,⟨[(0,.pv (.az (s.map f))),(1,.pv (f y)),(7,.pv (vI s.length)),(8,.pv (vI s.length)),(9,.pv (.bool false))],[],[],[]⟩)
theorem N5{α:Type}[DecidableEq α]{f:α→PV}(he:Nb f){s:List α}(hS:Sm s)(y:α):∀(n i:Nat),s.length-i=n→i≤s.length →
   cl AP Na ⟨[(0,.pv (.az (s.map f))),(1,.pv (f y)),(7,.pv (vI s.length)),(8,.pv (vI i))],[],[],[]⟩=Lg f s y i (bD (fun x=>decide (y=x)) (s.drop i))
 |0,i,hn,hi=>by
   have:i=s.length:=by omega
   subst this;rw[Gk];simp[Mb,bD,Lg]
 |n+1,i,hn,hi=>by
   have hi:i<s.length:=(by omega);obtain⟨x,hx⟩:=bl hi;unfold Sm at hS;have ih:=N5 he hS y n (i+1) (by omega) (by omega);simp at ih;have h1:=he.el.len x;have h2:=he.el.of x;have h3:=he.eq y x;rw[Gk,aX hx];by_cases e:y=x
   ·rw[decide_eq_true e]at h3;simp (disch:=omega) [-getElem?_pos,Mb,hx,hi,e,bD,Lg,h1,h2];rw[←e]at h3⊢;simp[h3]
   · rw[decide_eq_false e]at h3;simp (disch:=omega) [-getElem?_pos,Mb,hx,hi,e,bD,aw,ih,h1,h2,h3];cases bD (fun x=>decide (y=x)) (s.drop (i+1)) with
     |none=>rfl
     |some k=>simp[Lg];omega
theorem Oj{α:Type}[DecidableEq α]{f:α→PV}(he:Nb f){k:Nat}(hk:AP k=some Mc){s:List α}(hS:Sm s){y:α}:(aC AP).p k [.az (s.map f),f y]=some [vI (iK (bD (fun x=>decide (y=x)) s))]:=by
 have h:=N5 he hS y _ 0 rfl (by omega);simp at h;rw[ah hk rfl (by simp[Mc])];cases hi:bD (fun x=>decide (y=x)) s with
 |none=>rw[hi]at h;simp[Lg]at h;simp[Mc,h,iK]
 |some k=>rw[hi]at h;simp[Lg]at h;simp[Mc,h,iK]
theorem Iq{α:Type}[DecidableEq α]{s:List α}{y:α}:(s.any fun x=>decide (y=x))=decide (y∈s):=by
 rw[Bool.eq_iff_iff];simp
theorem Ol{α:Type}[DecidableEq α]{f:α→PV}(he:Nb f){m k:Nat}(hm:AP m=some (NA k))(hk:AP k=some Mc){s:List α}(hS:Sm s){y:α}:(aC AP).p m [.az (s.map f),f y]=some [.bool (decide (y∈s))]:=by
 have h:=Oj he hk hS (y:=y);rw[ah hm rfl (by simp[NA]),←Iq,←qb];simp[NA,h]
mutual
def Ty.nodes:Ty→List Ty
 |⟨k,n,i,h,as⟩=>⟨k,n,i,h,as⟩::Ty.qe as
def Ty.qe:List Ty→List Ty
 |[]=>[]
 |a::r=>a.nodes++Ty.qe r
end
theorem Ty.rH:∀l:List Ty,Ty.qe l=l.flatMap Ty.nodes
 |[]=>by simp[Ty.qe]
 |a::r=>by simp[Ty.qe,Ty.rH r]
theorem Ty.wo(t:Ty):t.nodes=t::t.args.flatMap Ty.nodes:=by cases t;simp only[Ty.nodes,Ty.rH]
def NB(out:List Int)(x:Ty):List Int:=if x.kind=1∧x.id∉out then out++[x.id] else out
def vars(l:List Ty):List Int:=(l.flatMap Ty.nodes).foldl NB []
theorem Ir{t:Ty}(h:t.args=[]):t.Ok:=⟨by rw[h];simp[Sm],by rw[h];simp⟩
abbrev bM:=List UInt8
theorem c214{s:List bM}(hS:Sm s){y:bM}:(aC AP).p 214 [.az (s.map .str),.str y]=some [.bool (decide (y∈s))]:=by
 rw[Ol Ip (m:=214) (k:=223) rfl rfl hS];simp only[Option.some.injEq,List.cons.injEq,PV.bool.injEq,and_true];rw[Bool.eq_iff_iff];simp
theorem Md{s:List bM}(hS:Sm s)(y:bM):∀(n i:Nat),s.length-i=n→i≤s.length →
   cl AP g216L0 ⟨[(0,.pv (.az (s.map .str))),(1,.pv (.str y)),(5,.pv (vI i))],[],[],[]⟩ =
     match bD (fun x=>decide (x=y)) (s.drop i) with
     |some k=>some (.ret,⟨[(4,.pv (vI (i+k:Nat)))],[],[],[]⟩)
     |none=>some (.exit 0,⟨[(0,.pv (.az (s.map .str))),(1,.pv (.str y)),(5,.pv (vI s.length)),(9,.pv (.bool false))],[],[],[]⟩)
 |0,i,hn,hi=>by
   have:i=s.length:=by omega
   subst this;rw[g216L0e];simp[g216B0,bD]
 |n+1,i,hn,hi=>by
   have hi:i<s.length:=(by omega);obtain⟨x,hx⟩:=bl hi;unfold Sm at hS;have ih:=Md hS y n (i+1) (by omega) (by omega);simp at ih;rw[g216L0e,aX hx];by_cases e:x=y
   ·simp (disch:=omega) [-getElem?_pos,g216B0,hx,hi,e,bD]
   · simp (disch:=omega) [-getElem?_pos,g216B0,hx,hi,e,bD,aw,ih];cases bD (fun x=>decide (x=y)) (s.drop (i+1)) with
     |none=>rfl
     |some k=>simp;omega
def Gl(s:List bM)(y:bM):Int:=iK (bD (fun x=>decide (x=y)) s)
theorem c216{s:List bM}(hS:Sm s){y:bM}:(aC AP).p 216 [.az (s.map .str),.str y]=some [vI (Gl s y)]:=by
 unfold Gl;have h:=Md hS y _ 0 rfl (by omega);simp at h;rw[ah (af:=g216) rfl rfl (by decide)];cases hi:bD (fun x=>decide (x=y)) s with
 |none=>rw[hi]at h;simp at h;simp[g216,h,iK]
 |some k=>rw[hi]at h;simp at h;simp[g216,h,iK]
theorem Gm{s:List bM}{y:bM}:Gl s y<0↔y∉s:=by
 unfold Gl;have h:=qb (p:=fun x=>decide (x=y)) (s:=s);have e:s.any (fun x=>decide (x=y))=decide (y∈s):=by rw[Bool.eq_iff_iff];simp
 rw[e]at h;by_cases hy:y∈s
 ·rw[decide_eq_true hy]at h;have h:=of_decide_eq_true h;exact⟨fun h'=>absurd h (Int.not_le.2 h'),fun h'=>absurd hy h'⟩
 ·rw[decide_eq_false hy]at h;have h:=of_decide_eq_false h;exact⟨fun _=>hy,fun _=>Int.not_le.1 h⟩
def DU:List Dt→bM→Option Dt
 |[],_=>none
 |d::r,s=>if d.name=s then some d else DU r s
def zC(ds:List Dt)(s:bM):Option Nat:=if s=[73,110,116] then some 0 else if s=[45,62] then some 2 else (DU ds s).map (·.params.length)
def rA:Option Nat→List PV
 |some n=>[vI n,.bool true]
 |none=>[vI 0,.bool false]
theorem Me{ds:List Dt}(hS:Sm ds)(s:bM):∀(n i:Nat),ds.length-i=n→i≤ds.length →
   cl AP g215L0 ⟨[(1,.pv (.str s)),(13,.pv (.az (ds.map Dt.pv))),(14,.pv (vI ds.length)),(15,.pv (vI i))],[],[],[]⟩ =
     match DU (ds.drop i) s with
     |some d=>some (.ret,⟨[(4,.pv (vI d.params.length)),(5,.pv (.bool true))],[],[],[]⟩)
     |none=>some (.exit 1,⟨[(1,.pv (.str s)),(13,.pv (.az (ds.map Dt.pv))),(14,.pv (vI ds.length)),(15,.pv (vI ds.length)),(16,.pv (.bool false))],[],[],[]⟩)
 |0,i,hn,hi=>by
   have:i=ds.length:=by omega
   subst this;rw[g215L0e];simp[g215B0,DU]
 |n+1,i,hn,hi=>by
   have hi:i<ds.length:=(by omega);obtain⟨x,hx⟩:=bl hi;unfold Sm at hS;have ih:=Me hS s n (i+1) (by omega) (by omega);rw[g215L0e]at ih⊢;rw[aX hx];simp at ih;by_cases e:x.name=s
   ·simp (disch:=omega) [-getElem?_pos,g215B0,hx,hi,e,DU]
   ·simp (disch:=omega) [-getElem?_pos,g215B0,hx,hi,e,DU,aw];rw[g215L0e];simp[ih]
theorem c215{ds:List Dt}(hS:Sm ds){s:bM}:(aC AP).p 215 [.az (ds.map Dt.pv),.str s]=some (rA (zC ds s)):=by
 have h:=Me hS s _ 0 rfl (by omega);rw[ah (af:=g215) rfl rfl (by decide)];rw[g215L0e]at h;simp at h;unfold zC;by_cases e1:s=[73,110,116]
 ·simp[g215,e1,rA]
 · by_cases e2:s=[45,62]
   ·simp[g215,e2,rA]
   · cases hl:DU ds s with
     |none=>rw[hl]at h;simp at h;simp[g215,e1,e2,g215L0e,h,rA]
     |some d=>rw[hl]at h;simp at h;simp[g215,e1,e2,g215L0e,h,rA]
theorem Mf{ds:List Dt}(hS:Sm ds)(s:bM):∀(n i:Nat),ds.length-i=n→i≤ds.length →
   cl AP g217L0 ⟨[(0,.pv (.az (ds.map Dt.pv))),(1,.pv (.str s)),(6,.pv (vI i))],[],[],[]⟩ =
     match DU (ds.drop i) s with
     |some d=>some (.ret,⟨[(4,.pv (vI d.params.length)),(5,.pv (.bool true))],[],[],[]⟩)
     |none=>some (.exit 1,⟨[(0,.pv (.az (ds.map Dt.pv))),(1,.pv (.str s)),(6,.pv (vI ds.length)),(15,.pv (.bool false))],[],[],[]⟩)
 |0,i,hn,hi=>by
   have:i=ds.length:=by omega
   subst this;rw[g217L0e];simp[g217B0,DU]
 |n+1,i,hn,hi=>by
   have hi:i<ds.length:=(by omega);obtain⟨x,hx⟩:=bl hi;unfold Sm at hS;have ih:=Mf hS s n (i+1) (by omega) (by omega);rw[g217L0e]at ih⊢;rw[aX hx];simp at ih;by_cases e:x.name=s
   ·simp (disch:=omega) [-getElem?_pos,g217B0,hx,hi,e,DU]
   ·simp (disch:=omega) [-getElem?_pos,g217B0,hx,hi,e,DU,aw];rw[g217L0e];simp[ih]
theorem c217{ds:List Dt}(hS:Sm ds){s:bM}:(aC AP).p 217 [.az (ds.map Dt.pv),.str s]=some (rA (zC ds s)):=by
 have h:=Mf hS s _ 0 rfl (by omega);rw[ah (af:=g217) rfl rfl (by decide)];rw[g217L0e]at h;simp at h;unfold zC;by_cases e1:s=[73,110,116]
 ·simp[g217,e1,rA]
 · by_cases e2:s=[45,62]
   ·simp[g217,e2,rA]
   · cases hl:DU ds s with
     |none=>rw[hl]at h;simp at h;simp[g217,e1,e2,g217L0e,h,rA]
     |some d=>rw[hl]at h;simp at h;simp[g217,e1,e2,g217L0e,h,rA]
def eT(ds:List Dt)(l:List bM)(t:Ty):Int:=
 if t.kind=5 then (if t.name∈l then 0 else 7)
 else if t.kind=4 then (match zC ds t.name with|none=>7|some n=>if n=t.args.length then 0 else 8) else 0
mutual
def Ty.formed(ds:List Dt)(l:List bM):Ty→Int
 |⟨k,n,i,h,as⟩=>if eT ds l ⟨k,n,i,h,as⟩≠0 then eT ds l ⟨k,n,i,h,as⟩ else Ty.cZ ds l as
def Ty.cZ(ds:List Dt)(l:List bM):List Ty→Int
 |[]=>0
 |a::r=>if a.formed ds l≠0 then a.formed ds l else Ty.cZ ds l r
end
theorem Ty.rI(ds:List Dt)(l:List bM)(t:Ty):t.formed ds l=if eT ds l t≠0 then eT ds l t else Ty.cZ ds l t.args:=by
 cases t;simp only[Ty.formed]
theorem Mg{ds:List Dt}{l:List bM}{t:Ty}(hS:Sm t.args)(h:∀x∈t.args,(aC AP).p 185 [.az (ds.map Dt.pv),x.pv,.az (l.map .str)]=some [vI (x.formed ds l)]):∀(n i:Nat),t.args.length-i=n→i≤t.args.length →
   cl AP g185L0 ⟨[(0,.pv (.az (ds.map Dt.pv))),(2,.pv (.az (l.map .str))),(38,.pv (.az (t.args.map Ty.pv))),(39,.pv (vI t.args.length)),(40,.pv (vI i))],[],[],[]⟩ =
     if Ty.cZ ds l (t.args.drop i)≠0 then some (.ret,⟨[(6,.pv (vI (Ty.cZ ds l (t.args.drop i))))],[],[],[]⟩)
     else some (.exit 1,⟨[(0,.pv (.az (ds.map Dt.pv))),(2,.pv (.az (l.map .str))),(38,.pv (.az (t.args.map Ty.pv))),(39,.pv (vI t.args.length)),(40,.pv (vI t.args.length)),(41,.pv (.bool false))],[],[],[]⟩)
 |0,i,hn,hi=>by
   have:i=t.args.length:=by omega
   subst this;rw[g185L0e];simp[g185B0,Ty.cZ]
 |n+1,i,hn,hi=>by
   have hi:i<t.args.length:=(by omega);obtain⟨x,hx⟩:=bl hi;unfold Sm at hS;have k:=h x (bE hx);have ih:=Mg hS h n (i+1) (by omega) (by omega);rw[g185L0e]at ih⊢;rw[aX hx];simp at ih k;by_cases e:x.formed ds l=0
   ·rw[e]at k;simp (disch:=omega) [-getElem?_pos,g185B0,hx,hi,k,Ty.cZ,e,aw];rw[g185L0e];simp[ih]
   ·simp (disch:=omega) [-getElem?_pos,g185B0,hx,hi,k,Ty.cZ,e,aw]
theorem c185{ds:List Dt}(hd:Sm ds){l:List bM}(hl:Sm l){t:Ty}(hO:t.Ok):(aC AP).p 185 [.az (ds.map Dt.pv),t.pv,.az (l.map .str)]=some [vI (t.formed ds l)]:=by
 revert hO
 refine Ty.l3 (p:=fun t=>t.Ok→(aC AP).p 185 [.az (ds.map Dt.pv),t.pv,.az (l.map .str)]=some [vI (t.formed ds l)]) ?_ t;intro t ih hO;have h:=Mg (ds:=ds) (l:=l) hO.sm (fun x hx=>ih x hx (hO.F_ x hx)) _ 0 rfl (by omega);have k1:=c214 hl (y:=t.name);have k2:=c215 hd (s:=t.name);rw[ah (af:=g185) rfl rfl (by decide),Ty.rI];rw[g185L0e]at h;simp at h;by_cases e1:t.kind=5
 · by_cases e2:t.name∈l
   · rw[decide_eq_true e2]at k1;by_cases e3:Ty.cZ ds l t.args=0
     ·simp[e3]at h;simp[g185,e1,e2,e3,k1,eT,g185L0e,h]
     ·simp[e3]at h;simp[g185,e1,e2,e3,k1,eT,g185L0e,h]
   ·rw[decide_eq_false e2]at k1;simp[g185,e1,e2,k1,eT]
 · by_cases e4:t.kind=4
   · cases hc:zC ds t.name with
     |none=>
       rw[hc]at k2;simp[rA]at k2;simp[g185,e1,e4,k2,eT,hc]
     |some m=>
       rw[hc]at k2;simp[rA]at k2;by_cases e5:m=t.args.length
       · by_cases e3:Ty.cZ ds l t.args=0
         ·simp[e3]at h;simp[g185,e4,e5,e3,k2,eT,hc,g185L0e,h]
         ·simp[e3]at h;simp[g185,e4,e5,e3,k2,eT,hc,g185L0e,h]
       ·have e5':¬(m:Int)=t.args.length:=(by omega);simp[g185,e4,e5,e5',k2,eT,hc]
   · by_cases e3:Ty.cZ ds l t.args=0
     ·simp[e3]at h;simp[g185,e1,e4,e3,eT,g185L0e,h]
     ·simp[e3]at h;simp[g185,e1,e4,e3,eT,g185L0e,h]
def NC(t:Ty):List AV:=[.pv (vI t.kind),.pv (.str t.name),.pv (vI t.id),.pv (vI t.home),.pv (.az (t.args.map Ty.pv))]
@[simp] theorem ND(t:Ty):NC t=[.pv (vI t.kind),.pv (.str t.name),.pv (vI t.id),.pv (vI t.home),.pv (.az (t.args.map Ty.pv))]:=rfl
theorem Mh{ds:List Dt}{l:List bM}{t:Ty}(hS:Sm t.args)(h:∀x∈t.args,(aC AP).p 186 [.az (ds.map Dt.pv),x.pv,.az (l.map .str)]=some [vI (x.formed ds l)]):∀(n i:Nat),t.args.length-i=n→i≤t.args.length →
   cl AP g186L0 ⟨[(0,.pv (.az (ds.map Dt.pv))),(2,.pv (.az (l.map .str))),(4,.aK 4 0),(9,.pv (vI i))],[(4,NC t)],[],[]⟩ =
     if Ty.cZ ds l (t.args.drop i)≠0 then some (.ret,⟨[(6,.pv (vI (Ty.cZ ds l (t.args.drop i))))],[],[],[]⟩)
     else some (.exit 1,⟨[(0,.pv (.az (ds.map Dt.pv))),(2,.pv (.az (l.map .str))),(4,.aK 4 0),(9,.pv (vI t.args.length)),(40,.pv (.bool false))],[(4,NC t)],[],[]⟩)
 |0,i,hn,hi=>by
   have:i=t.args.length:=by omega
   subst this;rw[g186L0e];simp[g186B0,Ty.cZ]
 |n+1,i,hn,hi=>by
   have hi:i<t.args.length:=(by omega);obtain⟨x,hx⟩:=bl hi;unfold Sm at hS;have k:=h x (bE hx);have ih:=Mh hS h n (i+1) (by omega) (by omega);rw[g186L0e]at ih⊢;rw[aX hx];simp at ih k;by_cases e:x.formed ds l=0
   ·rw[e]at k;simp (disch:=omega) [-getElem?_pos,g186B0,hx,hi,k,Ty.cZ,e,aw];rw[g186L0e];simp[ih]
   ·simp (disch:=omega) [-getElem?_pos,g186B0,hx,hi,k,Ty.cZ,e,aw]
inductive Ty.Cw:Ty→Prop
 |mk {t:Ty}:(t.kind≠4→t.args=[])→(∀x∈t.args,Ty.Cw x)→Ty.Cw t
theorem Ty.Cw.bare{t:Ty}(h:t.Cw):t.kind≠4→t.args=[]:=by cases h;assumption
theorem Ty.Cw.F_{t:Ty}(h:t.Cw):∀x∈t.args,x.Cw:=by cases h;assumption
theorem c186{ds:List Dt}(hd:Sm ds){l:List bM}(hl:Sm l){t:Ty}(hO:t.Ok)(hC:t.Cw):(aC AP).p 186 [.az (ds.map Dt.pv),t.pv,.az (l.map .str)]=some [vI (t.formed ds l)]:=by
 revert hO hC
 refine Ty.l3 (p:=fun t=>t.Ok→t.Cw→(aC AP).p 186 [.az (ds.map Dt.pv),t.pv,.az (l.map .str)]=some [vI (t.formed ds l)]) ?_ t;intro t ih hO hC;have h:=Mh (ds:=ds) (l:=l) hO.sm (fun x hx=>ih x hx (hO.F_ x hx) (hC.F_ x hx)) _ 0 rfl (by omega);have k1:=c216 hl (y:=t.name);have k2:=c217 hd (s:=t.name);have k3:=Gm (s:=l) (y:=t.name);rw[ah (af:=g186) rfl rfl (by decide),Ty.rI];rw[g186L0e]at h;simp at h;by_cases e1:t.kind=5
 · by_cases e2:t.name∈l
   · simp[e2]at k3;have k3':¬Gl l t.name<0:=by omega
     have ea:=hC.bare (by rw[e1];decide);simp[g186,e1,e2,k1,k3',eT,ea,Ty.cZ]
   ·simp[e2]at k3;simp[g186,e1,e2,k1,k3,eT]
 · by_cases e4:t.kind=4
   · cases hc:zC ds t.name with
     |none=>
       rw[hc]at k2;simp[rA]at k2;simp[g186,e1,e4,k2,eT,hc]
     |some m=>
       rw[hc]at k2;simp[rA]at k2;by_cases e5:m=t.args.length
       · by_cases e3:Ty.cZ ds l t.args=0
         ·simp[e3,e4]at h;simp[g186,e4,e5,e3,k2,eT,hc,g186L0e,h]
         ·simp[e3,e4]at h;simp[g186,e4,e5,e3,k2,eT,hc,g186L0e,h]
       ·have e5':¬(m:Int)=t.args.length:=(by omega);simp[g186,e4,e5,e5',k2,eT,hc]
   ·have ea:=hC.bare e4;simp[g186,e1,e4,eT,ea,Ty.cZ]
theorem c109p{c:Int}:(aC AP).p 109 [vC c]=some [.bool (wj c)]:=by
 rw[ah (af:=g109) rfl rfl (by decide)];by_cases h:97≤c<;>simp[g109,wj,h]
theorem c111p{c:Int}:(aC AP).p 111 [vC c]=some [.bool (Gb c)]:=by
 rw[ah (af:=g111) rfl rfl (by decide)];by_cases h:65≤c<;>simp[g111,Gb,h]
theorem c124p{c:Int}:(aC AP).p 124 [vC c]=some [.bool (wk c)]:=by
 rw[ah (af:=g124) rfl rfl (by decide)];by_cases h:48≤c<;>simp[g124,wk,h]
theorem c117p{c:Int}:(aC AP).p 117 [vC c]=some [.bool (im c)]:=by
 have h1:=c109p (c:=c);have h2:=c111p (c:=c);have h3:=c124p (c:=c);rw[ah (af:=g117) rfl rfl (by decide)];cases e1:wj c
 · cases e2:Gb c
   · cases e3:wk c
     ·simp[e1,e2,e3]at h1 h2 h3;simp[g117,h1,h2,h3,im,e1,e2,e3]
     ·simp[e1,e2,e3]at h1 h2 h3;simp[g117,h1,h2,h3,im,e1,e2,e3]
   ·simp[e1,e2]at h1 h2;simp[g117,h1,h2,im,e1,e2]
 ·simp[e1]at h1;simp[g117,h1,im,e1]
theorem N6{s:List UInt8}{k k':IntKind}{l h:Int}(h0:0≤l)(h1:l≤h)(h2:h≤s.length):bH true 0 true true false [.pv (.str s),.pv (.int k l),.pv (.int k' h)]=some (.pv (.str ((s.take h.toNat).drop l.toNat))):=by
 simp[bH,cH,h0,h1,h2]
structure cO where
 kind:Int
 text:bM
 pos:Int
def cO.pv(t:cO):PV:=.agg [vI t.kind,.str t.text,vI t.pos]
@[simp] theorem cO.dR(t:cO):t.pv=.agg [vI t.kind,.str t.text,vI t.pos]:=rfl
theorem Gn(l:List cO):a0 3 (l.map cO.pv)=true:=by cases l<;>simp[a0]
def qo(src:bM)(i:Nat)(acc:List cO):St:=⟨[(0,.pv (.str src)),(3,.aK 3 0),(4,.own (acc.map cO.pv) 0),(5,.pv (vI i))],[(3,[.pv (vI 0),.pv (vI 0)])],[],[acc.length]⟩
theorem Gp{src:bM}(hS:src.length≤4000){i:Nat}{acc:List cO}(hc:src[i]?=some 32){R:Option (aU×St)}(ih:cl AP g118L0 (qo src (i+1) acc)=R):cl AP g118L0 (qo src i acc)=R:=by
 have hi:=(List.getElem?_eq_some_iff.1 hc).1;unfold qo at *;rw[g118L0e]at ih⊢;simp at ih;simp (disch:=omega) [-getElem?_pos,g118B0,hc,hi,aw];rw[g118L0e];simp[ih]
theorem Is{src:bM}(hS:src.length≤4000){i:Nat}{acc:List cO}(hA:acc.length≤i){c:UInt8}(hc:src[i]?=some c){k:Int}(hk:(aC AP).p 125 [.str [c]]=some [vI k])(h0:k≠0)(hn:im c.toNat=false)
   (hx:(c.toNat:Int)≠32∧(c.toNat:Int)≠9∧(c.toNat:Int)≠13∧(c.toNat:Int)≠10∧(c.toNat:Int)≠35∧(c.toNat:Int)≠45) {R:Option (aU×St)} (ih:cl AP g118L0 (qo src (i+1) (acc++[⟨k,[c],i⟩]))=R):cl AP g118L0 (qo src i acc)=R:=by
 have hi:=(List.getElem?_eq_some_iff.1 hc).1;obtain⟨x1,x2,x3,x4,x5,x6⟩:=hx;have c1:=c117p (c:=c.toNat);rw[hn]at c1;have hz:(acc.length+1)*32≤140737488355328:=by omega
 have sl:∀k k':IntKind,bH true 0 true true false [.pv (.str src),.pv (.int k (i:Int)),.pv (.int k' ((i:Int)+1))]=some (.pv (.str [c])):=by
   intro k k';rw[N6 (by omega) (by omega) (by omega),Int.toNat_natCast,show ((i:Int)+1).toNat=i+1 by omega,List.drop_take,aX hc];simp
 unfold qo at *;rw[g118L0e]at ih⊢;simp at ih;simp (disch:=omega) [-getElem?_pos,g118B0,hc,hi,aw,c1,x1,x2,x3,x4,x5,x6,sl,hk,h0,Gn,hz];rw[g118L0e];simp[ih]
theorem wq{src:bM}(hS:src.length≤4000){i:Nat}{acc:List cO}:∀(n k:Nat) (t r:bM),src.drop k=t++r→t.length=n→ix t=true→(∀c,r.head?=some c→im c.toNat=false) →
   cl AP g118L2 ⟨[(0,.pv (.str src)),(3,.aK 3 0),(4,.own (acc.map cO.pv) 0),(5,.pv (vI i)),(7,.pv (vI k))],[(3,[.pv (vI 0),.pv (vI 0)])],[],[acc.length]⟩ =
     some (.exit 5,⟨[(0,.pv (.str src)),(3,.aK 3 0),(4,.own (acc.map cO.pv) 0),(5,.pv (vI i)),(7,.pv (vI (k+n:Nat))),(66,.pv (.bool false))],[(3,[.pv (vI 0),.pv (vI 0)])],[],[acc.length]⟩)
 |0,k,t,r,hd,hl,hi,hr=>by
   have:t=[]:=List.length_eq_zero_iff.1 hl;subst this;rw[List.nil_append]at hd;rw[g118L2e];cases r with
   |nil=>
     have hk:src.length≤k:=List.drop_eq_nil_iff.1 hd;have:¬(k:Int)<src.length:=(by omega);simp[-getElem?_pos,g118B2,this]
   |cons c r=>
     have hc:src[k]?=some c:=by have:=congrArg List.head? hd;rw[List.head?_drop]at this;simpa using this
     have hk:=(List.getElem?_eq_some_iff.1 hc).1;have c1:=c117p (c:=c.toNat);rw[hr c rfl]at c1;simp (disch:=omega) [-getElem?_pos,g118B2,hc,hk,c1]
 |n+1,k,c::t,r,hd,hl,hi,hr=>by
   have hc:src[k]?=some c:=by have:=congrArg List.head? hd;rw[List.head?_drop]at this;simpa using this
   have hk:=(List.getElem?_eq_some_iff.1 hc).1;rw[jW,Bool.and_eq_true]at hi;have c1:=c117p (c:=c.toNat);rw[hi.1]at c1;have ih:=wq hS (acc:=acc) (i:=i) n (k+1) t r (by rw[aX hc,List.cons_append]at hd;exact (List.cons.inj hd).2) (by simpa using hl) hi.2 hr;have e:k+1+n=k+(n+1):=(by omega);rw[e]at ih;rw[g118L2e]at ih⊢;simp at ih;simp (disch:=omega) [-getElem?_pos,g118B2,hc,hk,aw,c1];rw[g118L2e];simp[ih]
theorem Iu{src:bM}(hS:src.length≤4000){i:Nat}{acc:List cO}(hA:acc.length≤i){c:UInt8}{t r:bM}(hd:src.drop i=c::t++r)(hi:ix (c::t)=true)(hr:∀x,r.head?=some x→im x.toNat=false)
   {k:Int} (hk:(aC AP).p 125 [.str (c::t)]=some [vI k]) (h0:k≠0) {R:Option (aU×St)} (ih:cl AP g118L0 (qo src (i+(t.length+1)) (acc++[⟨k,c::t,i⟩]))=R):cl AP g118L0 (qo src i acc)=R:=by
 have hc:src[i]?=some c:=by have:=congrArg List.head? hd;rw[List.head?_drop]at this;simpa using this
 have hil:=(List.getElem?_eq_some_iff.1 hc).1;have hin:=hi;rw[jW,Bool.and_eq_true]at hi;have w:=wq hS (acc:=acc) (i:=i) t.length (i+1) t r (by rw[aX hc,List.cons_append]at hd;exact (List.cons.inj hd).2) rfl hi.2 hr;have c1:=c117p (c:=c.toNat);rw[hi.1]at c1
 have hle:i+(t.length+1)≤src.length:=by
   have:=congrArg List.length hd;simp at this;omega
 have e:i+1+t.length=i+(t.length+1):=by omega
 rw[e]at w;have hz:(acc.length+1)*32≤140737488355328:=by omega
 have x:(c.toNat:Int)≠32∧(c.toNat:Int)≠9∧(c.toNat:Int)≠13∧(c.toNat:Int)≠10∧(c.toNat:Int)≠35:=by
   have:=hi.1;simp only[im,wj,Gb,wk,Bool.or_eq_true,Bool.and_eq_true,decide_eq_true_eq,beq_iff_eq]at this;omega
 obtain⟨x1,x2,x3,x4,x5⟩:=x
 have sl:∀k k':IntKind,bH true 0 true true false [.pv (.str src),.pv (.int k (i:Int)),.pv (.int k' ((i:Int)+((t.length:Int)+1)))]=some (.pv (.str (c::t))):=by
   intro k k';rw[N6 (by omega) (by omega) (by omega),Int.toNat_natCast,show ((i:Int)+((t.length:Int)+1)).toNat=i+(t.length+1) by omega,List.drop_take,hd];simp
 unfold qo at *;rw[g118L0e]at ih⊢;rw[g118L2e]at w;simp at ih w;simp (disch:=omega) [-getElem?_pos,g118B0,hc,hil,aw,c1,x1,x2,x3,x4,x5,g118L2e,w,sl,hk,h0,Gn,hz];rw[g118L0e];simp[ih]
theorem Kq{src:bM}{acc:List cO}{R:Option (aU×St)}(h:some (.exit 0,⟨[(0,.pv (.str src)),(3,.aK 3 0),(4,.own (acc.map cO.pv) 0),(5,.pv (vI src.length)),(16,.pv (.bool false))],[(3,[.pv (vI 0),.pv (vI 0)])],[],[acc.length]⟩)=R):cl AP g118L0 (qo src src.length acc)=R:=by
 subst h;unfold qo;rw[g118L0e];simp[g118B0]
theorem c118{src:bM}(hS:src.length≤4000){T:List cO}(h:∀R,some (.exit 0,⟨[(0,.pv (.str src)),(3,.aK 3 0),(4,.own (T.map cO.pv) 0),(5,.pv (vI src.length)),(16,.pv (.bool false))],[(3,[.pv (vI 0),.pv (vI 0)])],[],[T.length]⟩)=R→cl AP g118L0 (qo src 0 [])=R) :
   (aC AP).p 118 [.str src]=some [.az (T.map cO.pv),.agg [vI 0,vI 0]]:=by
 have k:=h _ rfl;have hn:¬(4000:Int)<src.length:=by omega
 unfold qo at k;rw[g118L0e]at k;simp at k;rw[ah (af:=g118) rfl rfl (by decide)];simp[g118,hn,g118L0e,k]
def rd(L:List cO)(I:Nat):Sh:=[some [.pv (.az (L.map cO.pv)),.pv (vI I),.pv (.bool false),.pv (vI 0)]]
@[simp] theorem N7(L:List cO)(I:Nat):rd L I=[some [.pv (.az (L.map cO.pv)),.pv (vI I),.pv (.bool false),.pv (vI 0)]]:=rfl
theorem c126r{L:List cO}{I:Nat}{t:cO}(h:L[I]?=some t):(aC AP).i 126 [.a_ 0 0] (rd L I) []=some ([.pv (vI t.pos)],rd L I,[]):=by
 have hi:=(List.getElem?_eq_some_iff.1 h).1;rw[aH (af:=g126) rfl (by simp[g126])];simp (disch:=omega) [-getElem?_pos,g126,h,hi]
theorem c129r{L:List cO}{I:Nat}{t:cO}(h:L[I]?=some t){k:Int}:(aC AP).i 129 [.a_ 0 0,.pv (vI k)] (rd L I) []=some ([.pv (.bool (decide (t.kind=k)))],rd L I,[]):=by
 have hi:=(List.getElem?_eq_some_iff.1 h).1;rw[aH (af:=g129) rfl (by simp[g129])];by_cases q:t.kind=k
 ·simp (disch:=omega) [-getElem?_pos,g129,h,hi,q]
 ·simp (disch:=omega) [-getElem?_pos,g129,h,hi,q]
def cO.jV(t:cO)(s:bM):Bool:=(decide (t.kind=5) || decide (t.kind=4)) && decide (t.text=s)
theorem c120r{L:List cO}{I:Nat}{t:cO}(h:L[I]?=some t){s:bM}:(aC AP).i 120 [.a_ 0 0,.pv (.str s)] (rd L I) []=some ([.pv (.bool (t.jV s))],rd L I,[]):=by
 have hi:=(List.getElem?_eq_some_iff.1 h).1;rw[aH (af:=g120) rfl (by simp[g120])];by_cases q:t.kind=5
 · by_cases p:t.text=s
   ·simp (disch:=omega) [-getElem?_pos,g120,h,hi,q,p,cO.jV]
   ·simp (disch:=omega) [-getElem?_pos,g120,h,hi,q,p,cO.jV]
 · by_cases q4:t.kind=4
   · by_cases p:t.text=s
     ·simp (disch:=omega) [-getElem?_pos,g120,h,hi,q4,p,cO.jV]
     ·simp (disch:=omega) [-getElem?_pos,g120,h,hi,q4,p,cO.jV]
   ·simp (disch:=omega) [-getElem?_pos,g120,h,hi,q,q4,cO.jV]
theorem c132f{L:List cO}{I:Nat}{t:cO}(h:L[I]?=some t){s:bM}(hs:t.jV s=false):(aC AP).i 132 [.a_ 0 0,.pv (.str s)] (rd L I) []=some ([.pv (.bool false)],rd L I,[]):=by
 have k:=c120r h (s:=s);rw[hs]at k;rw[aH (af:=g132) rfl (by simp[g132])];simp at k;simp[g132,k]
theorem c132t{L:List cO}{I:Nat}{t:cO}(h:L[I]?=some t)(hL:L.length≤4000){s:bM}(hs:t.jV s=true):(aC AP).i 132 [.a_ 0 0,.pv (.str s)] (rd L I) []=some ([.pv (.bool true)],rd L (I+1),[]):=by
 have hi:=(List.getElem?_eq_some_iff.1 h).1;have k:=c120r h (s:=s);rw[hs]at k;rw[aH (af:=g132) rfl (by simp[g132])];simp at k;simp (disch:=omega) [g132,k,aw]
theorem c127r{L:List cO}{I:Nat}{t:cO}(h:L[I]?=some t)(hL:L.length≤4000){s:bM}(hs:t.jV s=true):(aC AP).i 127 [.a_ 0 0,.pv (.str s)] (rd L I) []=some ([],rd L (I+1),[]):=by
 have k:=c132t h hL hs;rw[aH (af:=g127) rfl (by simp[g127])];simp at k;simp[g127,k]
theorem c128r{L:List cO}{I:Nat}{t:cO}(h:L[I]?=some t)(hL:L.length≤4000){k:Int}(hk:t.kind=k):(aC AP).i 128 [.a_ 0 0,.pv (vI k)] (rd L I) []=some ([.pv (.str t.text)],rd L (I+1),[]):=by
 have hi:=(List.getElem?_eq_some_iff.1 h).1;have e:=c129r h (k:=k);rw[decide_eq_true hk]at e;rw[aH (af:=g128) rfl (by simp[g128])];simp at e;simp (disch:=omega) [-getElem?_pos,g128,e,h,hi,aw]
structure cz(E:Type) where
 pos:Int
 dx:List UInt8
 vars:List (List UInt8)
 body:E
structure Ex where
 kind:Int
 pos:Int
 name:List UInt8
 num:Int
 kids:List Ex
 aB:List (cz Ex)
 ty:Ty
abbrev Ar:=cz Ex
def d9:Ty:=⟨0,[],0,0,[]⟩
instance:Inhabited Ex:=⟨⟨0,0,[],0,[],[],d9⟩⟩
instance:Inhabited Ar:=⟨⟨0,[],[],default⟩⟩
def Ty.cells(t:Ty):List PV:=[.int .i64 t.kind,.str t.name,.int .i64 t.id,.int .i64 t.home,.az (t.args.map Ty.pv)]
mutual
def Ex.cells:Ex→List PV
 |⟨k,p,n,m,ks,as,t⟩=>.int .i64 k::.int .i64 p::.str n::.int .i64 m::.az (Ex.cI ks)::.az (Ex.Mi as)::t.cells
def Ex.cI:List Ex→List PV
 |[]=>[]
 |e::r=>.agg (Ex.cells e)::Ex.cI r
def Ex.Mi:List (cz Ex)→List PV
 |[]=>[]
 |⟨p,c,v,b⟩::r=>.agg (.int .i64 p::.str c::.az (v.map .str)::Ex.cells b)::Ex.Mi r
end
def Ex.pv(e:Ex):PV:=.agg e.cells
def Ar.pv(a:Ar):PV:=.agg (.int .i64 a.pos::.str a.dx::.az (a.vars.map .str)::a.body.cells)
theorem Ex.l0:∀l:List Ex,Ex.cI l=l.map Ex.pv
 |[]=>by simp[Ex.cI]
 |e::r=>by simp[Ex.cI,Ex.l0 r,Ex.pv]
theorem Ex.AD:∀l:List Ar,Ex.Mi l=l.map Ar.pv
 |[]=>by simp[Ex.Mi]
 |⟨p,c,v,b⟩::r=>by simp[Ex.Mi,Ex.AD r,Ar.pv]
theorem Ex.bX(e:Ex):e.cells=[.int .i64 e.kind,.int .i64 e.pos,.str e.name,.int .i64 e.num,.az (e.kids.map Ex.pv),.az (e.aB.map Ar.pv),.int .i64 e.ty.kind,.str e.ty.name,.int .i64 e.ty.id,.int .i64 e.ty.home,.az (e.ty.args.map Ty.pv)]:=by
 cases e;simp only[Ex.cells,Ex.l0,Ex.AD,Ty.cells]
@[simp] theorem Ex.dR(e:Ex):e.pv=.agg [.int .i64 e.kind,.int .i64 e.pos,.str e.name,.int .i64 e.num,.az (e.kids.map Ex.pv),.az (e.aB.map Ar.pv),.int .i64 e.ty.kind,.str e.ty.name,.int .i64 e.ty.id,.int .i64 e.ty.home,.az (e.ty.args.map Ty.pv)]:=by
 rw[Ex.pv,Ex.bX]
@[simp] theorem Ar.dR(a:Ar):a.pv=.agg [.int .i64 a.pos,.str a.dx,.az (a.vars.map .str),.int .i64 a.body.kind,.int .i64 a.body.pos,.str a.body.name,.int .i64 a.body.num,.az (a.body.kids.map Ex.pv),.az (a.body.aB.map Ar.pv),.int .i64 a.body.ty.kind,.str a.body.ty.name,.int .i64 a.body.ty.id,.int .i64 a.body.ty.home,.az (a.body.ty.args.map Ty.pv)]:=by
 rw[Ar.pv,Ex.bX]
theorem AE:El Ex.pv 11 true:=⟨fun x=>by simp,fun x=>by simp⟩
theorem Kr:El Ar.pv 14 true:=⟨fun x=>by simp,fun x=>by simp⟩
@[simp] theorem Lh{l:List Ex}:a0 11 (l.map Ex.pv)=true:=AE.head l
@[simp] theorem Li{l:List Ar}:a0 14 (l.map Ar.pv)=true:=Kr.head l
@[simp] theorem Ks{l:List (List UInt8)}:a0 1 (l.map PV.str)=true:=jg.head l
@[simp] theorem Lj{l:List Int}:a0 1 (l.map vI)=true:=qa.head l
def Ex.ch(e:Ex):List Ex:=e.kids++e.aB.map cz.body
theorem cz.mT(a:Ar):SizeOf.sizeOf a.body<SizeOf.sizeOf a:=by cases a;simp;omega
theorem Ex.l3{p:Ex→Prop}(h:∀e:Ex,(∀x∈e.kids,p x)→(∀a∈e.aB,p a.body)→p e):∀e,p e
 |⟨k,ps,n,m,ks,as,t⟩=>h _ (fun x _hx=>Ex.l3 h x) (fun a _ha=>Ex.l3 h a.body)
termination_by e=>SizeOf.sizeOf e
decreasing_by
 ·have:=_root_.List.sizeOf_lt_of_mem _hx;simp at *;omega
 ·have:=_root_.List.sizeOf_lt_of_mem _ha;have:=cz.mT a;simp at *;omega
theorem Ex.recC{p:Ex→Prop}(h:∀e:Ex,(∀x∈e.ch,p x)→p e):∀e,p e:=Ex.l3 fun e h1 h2=>h e fun x hx=>by
 rw[Ex.ch,List.mem_append,List.mem_map]at hx;rcases hx with hx|⟨a,ha,rfl⟩
 ·exact h1 x hx
 ·exact h2 a ha
structure Om(e:Ex)(C:List AV):Prop where
 len:C.length=11
 leaf:C.all aP=true
 iC:∀sh,bJ sh C=some e.cells
 flat:bm.dI C=true
 N8:ew C=true
def tV(f:Bool)(l:List PV):AV:=if f then .di l else .pv (.az l)
def rJ(fk fa fg:Bool)(e:Ex):List AV:=[.pv (vI e.kind),.pv (vI e.pos),.pv (.str e.name),.pv (vI e.num),tV fk (e.kids.map Ex.pv),tV fa (e.aB.map Ar.pv),.pv (vI e.ty.kind),.pv (.str e.ty.name),.pv (vI e.ty.id),.pv (vI e.ty.home),tV fg (e.ty.args.map Ty.pv)]
theorem Gq(fk fa fg:Bool)(e:Ex):Om e (rJ fk fa fg e):=by
 refine⟨rfl,?_,?_,?_,?_⟩
 ·cases fk<;>cases fa<;>cases fg<;>rfl
 ·intro sh;rw[Ex.bX];cases fk<;>cases fa<;>cases fg<;>simp[rJ,tV]
 ·cases fk<;>cases fa<;>cases fg<;>simp[rJ,tV]
 ·cases fk<;>cases fa<;>cases fg<;>simp[rJ,tV]
def tx(l:List (List UInt8)):List AV:=l.map fun s=>AV.pv (.str s)
def SA(X:Sh)(l:List (List UInt8))(t:List UInt8):Sh:=X++[some (tx l),some [.pv (.str t)]]
theorem jX{l:List (List UInt8)}:∀v∈tx l,∃p,v=AV.pv p:=by
 intro v hv;simp only[tx,List.mem_map]at hv;obtain⟨s,_,rfl⟩:=hv;exact⟨_,rfl⟩
theorem ej{X:Sh}(hX:aJ X){l:List (List UInt8)}{t:List UInt8}:aJ (SA X l t):=by
 refine hX.app fun cs hc=>?_;simp at hc;rcases hc with rfl|rfl
 ·exact jX
 ·intro v hv;simp at hv;exact⟨_,hv⟩
theorem zD{X:Sh}{l:List (List UInt8)}{t:List UInt8}:(SA X l t)[X.length]?=some (some (tx l)):=by simp[SA]
theorem Gr{X:Sh}{l:List (List UInt8)}{t:List UInt8}:(SA X l t)[X.length+1]?=some (some [.pv (.str t)]):=by simp[SA]
theorem Gs{X:Sh}{l l':List (List UInt8)}{t:List UInt8}:(SA X l t).set X.length (some (tx l'))=SA X l' t:=by simp[SA]
theorem tt{X:Sh}{l:List (List UInt8)}{t:List UInt8}:(SA X l t).length=X.length+2:=by simp[SA]
theorem Gt{l:List (List UInt8)}{i:Nat}{s:List UInt8}(h:l[i]?=some s):(tx l)[i]?=some (.pv (.str s)):=by simp[tx,h]
theorem lg{l:List (List UInt8)}:(tx l).length=l.length:=by simp[tx]
theorem Kt{l:List (List UInt8)}{i:Nat}(h:i<l.length){s:List UInt8}:aQ (tx l) i [.pv (.str s)]=tx (l.set i s):=by
 rw[List.set_eq_take_append_cons_drop,if_pos h];simp[eR,tx,List.map_take,List.map_drop]
theorem c413{SH:Sh}(hn:∀aF ts,aW aF ts SH=(SH,aF,ts)){c:Nat}{t x:List UInt8}(hb:SH[c]?=some (some [.pv (.str t)]))(hc:c<SH.length) :
   (aC AP).i 413 [.pv (.str x),.a_ c 0] SH []=some ([.pv (.bool (decide (x=t)))],SH,[]):=by
 rw[aH (af:=g413) rfl (by simp[g413])];simp[-getElem?_pos,g413,hb,hn];by_cases e:x=t<;>simp[e]
theorem Gu{SH:Sh}(hn:∀aF ts,aW aF ts SH=(SH,aF,ts))(hs:∀n,dS n SH=SH){c:Nat}{t x:List UInt8}(hb:SH[c]?=some (some [.pv (.str t)]))(hc:c<SH.length) :
   exec (aC AP) .et [.fn 413 [.a_ c 0],.pv (.str x)] none SH []=some ⟨.pv (.bool (decide (x=t))),none,SH,[]⟩:=by
 have k:=c413 hn hb hc (x:=x);simp[hn,k,hs]
theorem Mj{SH:Sh}(hn:∀aF ts,aW aF ts SH=(SH,aF,ts))(hs:∀n,dS n SH=SH){b c:Nat}{t:List UInt8}{l:List (List UInt8)}(hS:Sm l)(ha:SH[b]?=some (some (tx l)))(hb:SH[c]?=some (some [.pv (.str t)]))(hc:c<SH.length) :
   ∀(n i:Nat),l.length-i=n→i≤l.length →
   cl AP (Ge 1 false) ⟨[(0,.aM b 1 l.length false),(1,.fn 413 [.a_ c 0]),(7,.pv (vI l.length)),(8,.pv (vI i))],[],SH,[]⟩ =
     match bD (fun x=>decide (x=t)) (l.drop i) with
     |some k=>some (.ret,⟨[(4,.pv (vI (i+k:Nat)))],[],SH,[]⟩)
     |none=>some (.exit 0,⟨[(0,.aM b 1 l.length false),(1,.fn 413 [.a_ c 0]),(7,.pv (vI l.length)),(8,.pv (vI l.length)),(9,.pv (.bool false))],[],SH,[]⟩)
 |0,i,hk,hi=>by
   have:i=l.length:=by omega
   subst this;rw[l7];simp[tm,bD,hn]
 |n+1,i,hk,hi=>by
   have hi:i<l.length:=(by omega);obtain⟨x,hx⟩:=bl hi;unfold Sm at hS;have ih:=Mj hn hs hS ha hb hc n (i+1) (by omega) (by omega);have hg:=Gt hx;have hB:bU (tx l)=false:=bT jX;have hle:i+1≤(tx l).length:=(by rw[lg];omega);have q:=Gu hn hs hb hc (x:=x);simp at ih;rw[l7,aX hx];by_cases e:x=t
   ·rw[decide_eq_true e]at q;subst e;simp (disch:=omega) [-getElem?_pos,-dU,tm,hx,hi,ha,hg,hB,hle,bD,hn,q]
   · rw[decide_eq_false e]at q;simp (disch:=omega) [-getElem?_pos,-dU,tm,hx,hi,ha,hg,hB,hle,e,bD,aw,hn,q,ih];cases bD (fun x=>decide (x=t)) (l.drop (i+1)) with
     |none=>rfl
     |some k=>simp;omega
structure Row{α:Type}(f:α→List PV)(sz:Nat):Prop where
 pos:0<sz
 len:∀x,(f x).length=sz
section
variable {α:Type} {f:α→List PV} {sz:Nat}
def aI(f:α→List PV)(l:List α):List AV:=l.flatMap fun x=>(f x).map .pv
theorem tu:aI f []=[]:=rfl
theorem iL{x:α}{l:List α}:aI f (x::l)=(f x).map .pv++aI f l:=rfl
theorem l8{l m:List α}:aI f (l++m)=aI f l++aI f m:=by simp[aI]
theorem bc(h:Row f sz):∀{l:List α},(aI f l).length=l.length*sz
 |[]=>by simp[aI]
 |x::r=>by rw[iL,List.length_append,List.length_map,h.len,bc h,List.length_cons,Nat.add_mul];omega
theorem aO{l:List α}:∀v∈aI f l,∃p,v=AV.pv p:=by
 intro v hv;simp only[aI,List.mem_flatMap,List.mem_map]at hv;obtain⟨x,_,p,_,rfl⟩:=hv;exact⟨p,rfl⟩
theorem l9(h:Row f sz):∀{l:List α} {i:Nat} {x:α},l[i]?=some x→(aI f l).drop (i*sz)=(f x).map .pv++aI f (l.drop (i+1))
 |x::r,0,y,e=>by simp at e;subst e;simp[aI]
 |x::r,i+1,y,e=>by
   have ih:=l9 h (l:=r) (i:=i) (x:=y) (by simpa using e);rw[iL,List.drop_append,List.drop_eq_nil_of_le (by rw[List.length_map,h.len,Nat.add_mul];omega),List.length_map,h.len,show (i+1)*sz-sz=i*sz from by rw[Nat.add_mul];omega,ih];simp
 |[],_,_,e=>by simp at e
theorem wt(h:Row f sz):∀{l:List α} {i:Nat},i≤l.length→(aI f l).take (i*sz)=aI f (l.take i)
 |l,0,_=>by simp[aI]
 |x::r,i+1,e=>by
   have ih:=wt h (l:=r) (i:=i) (by simpa using e);rw[iL,List.take_append,List.take_of_length_le (by rw[List.length_map,h.len,Nat.add_mul];omega),List.length_map,h.len,show (i+1)*sz-sz=i*sz from by rw[Nat.add_mul];omega,ih];simp[iL]
 |[],i+1,e=>by simp at e
theorem jh(h:Row f sz){l:List α}{i:Nat}{x:α}(e:l[i]?=some x){o k:Nat}(hk:o+k≤sz):((aI f l).drop (i*sz+o)).take k=(((f x).drop o).take k).map .pv:=by
 rw[←List.drop_drop,l9 h e,List.drop_append,List.take_append,List.length_drop,List.length_map,h.len];have e1:k-(sz-o)=0:=by omega
 rw[e1,List.take_zero,List.append_nil,←List.map_drop,←List.map_take]
theorem Iv(h:Row f sz){l:List α}{i:Nat}{x:α}(e:l[i]?=some x){o:Nat}(hk:o<sz){p:PV}(hp:(f x)[o]?=some p):(aI f l)[i*sz+o]?=some (.pv p):=by
 have e1:=l9 h e;rw[←List.getElem?_drop,e1,List.getElem?_append_left (by rw[List.length_map,h.len];exact hk),List.getElem?_map,hp];rfl
theorem iq(h:Row f sz){l:List α}{i:Nat}{x y:α}(e:l[i]?=some x){o:Nat}{vs:List PV}(hk:o+vs.length≤sz)(hy:f y=(f x).take o++vs++(f x).drop (o+vs.length)):aQ (aI f l) (i*sz+o) (vs.map .pv)=aI f (l.set i y):=by
 have hi:=(List.getElem?_eq_some_iff.1 e).1;have e3:l.set i y=l.take i++y::l.drop (i+1):=by rw[List.set_eq_take_append_cons_drop,if_pos hi]
 have e1:=l9 h e;have e2:=wt h (l:=l) (i:=i) (by omega);rw[e3,eR,l8,iL,←e2,hy]
 have e4:(aI f l).drop (i*sz+o+(vs.map AV.pv).length)=((f x).drop (o+vs.length)).map .pv++aI f (l.drop (i+1)):=by
   rw[List.length_map,Nat.add_assoc,←List.drop_drop,e1,List.drop_append,List.length_map,h.len,show o+vs.length-sz=0 from by omega];simp
 have e5:(aI f l).take (i*sz+o)=(aI f l).take (i*sz)++((f x).take o).map .pv:=by
   rw[List.take_add,e1,List.take_append,List.length_map,h.len,show o-sz=0 from by omega];simp
 rw[e4,e5];simp
theorem l_(h:Row f sz){l:List α}{i:Nat}{x y:α}(e:l[i]?=some x){o:Nat}{p:PV}(hk:o+1≤sz)(hy:f y=(f x).take o++[p]++(f x).drop (o+1)):aQ (aI f l) (i*sz+o) [.pv p]=aI f (l.set i y):=
 iq h e (vs:=[p]) (by simpa using hk) hy
theorem AF(h:Row f sz):∀{l:List α},∃ps,eV (aI f l)=some ps∧(chunk sz l.length ps).map PV.agg=l.map fun x=>.agg (f x)
 |[]=>⟨[],rfl,rfl⟩
 |x::r=>by
   obtain⟨ps,h1,h2⟩:=AF h (l:=r)
   have key:∀(a:List PV) (b:List AV),eV b=some ps→eV (a.map AV.pv++b)=some (a++ps):=by
     intro a b hb;induction a with
     |nil=>simpa using hb
     |cons c a ih=>simp only[List.map_cons,List.cons_append,eV,jC,ih]
   refine⟨f x++ps,key _ _ h1,?_⟩;simp only[List.length_cons,chunk,List.map_cons];rw[List.take_left' (h.len x),List.drop_left' (h.len x),h2]
theorem ma(h:Row f sz){l:List α}:((eV (aI f l)).bind (dy sz true l.length)).map PV.az=some (.az (l.map fun x=>.agg (f x))):=by
 obtain⟨ps,h1,h2⟩:=AF h (l:=l);rw[h1];simp only[Option.bind_some,dy,if_true,Option.map_some,h2]
theorem mb(h:Row f sz){l:List α}:((l.map fun x=>PV.agg (f x)).flatMap aS).map AV.pv=aI f l:=by
 induction l with
 |nil=>rfl
 |cons x r ih=>simp only[List.map_cons,List.flatMap_cons,List.map_append,ih,iL,aS]
end
abbrev nn(k:Nat):Sh:=List.replicate k none
theorem bt(k:Nat):aJ (nn k):=by
 intro cs hc;simp[nn,List.mem_replicate]at hc
end Go.Ab.Lw
namespace Go.Ab.Lw
open Ev
inductive Ex.Ok:Ex→Prop
 |mk {e:Ex}:e.kids.length≤1000→e.aB.length≤1000→(∀a∈e.aB,a.vars.length≤1000)→e.ty.Ok→(∀x∈e.ch,x.Ok)→e.Ok
theorem Ex.Ok.k{e:Ex}(h:e.Ok):e.kids.length≤1000:=by cases h;assumption
theorem Ex.Ok.a{e:Ex}(h:e.Ok):e.aB.length≤1000:=by cases h;assumption
theorem Ex.Ok.v{e:Ex}(h:e.Ok):∀a∈e.aB,a.vars.length≤1000:=by cases h;assumption
theorem Ex.Ok.t{e:Ex}(h:e.Ok):e.ty.Ok:=by cases h;assumption
theorem Ex.Ok.c{e:Ex}(h:e.Ok):∀x∈e.ch,x.Ok:=by cases h;assumption
theorem Ex.c_{e:Ex}:e.ch.length=e.kids.length+e.aB.length:=by simp[Ex.ch]
@[simp] def Ex.cl(e:Ex):List AV:=[.pv (vI e.kind),.pv (vI e.pos),.pv (.str e.name),.pv (vI e.num),.pv (.az (e.kids.map Ex.pv)),.pv (.az (e.aB.map Ar.pv)),.pv (vI e.ty.kind),.pv (.str e.ty.name),.pv (vI e.ty.id),.pv (vI e.ty.home),.pv (.az (e.ty.args.map Ty.pv))]
theorem bg:Row Ex.cells 11:=⟨by omega,fun x=>by rw[Ex.bX];rfl⟩
def Ar.cells(a:Ar):List PV:=.int .i64 a.pos::.str a.dx::.az (a.vars.map .str)::a.body.cells
theorem dW:Row Ar.cells 14:=⟨by omega,fun x=>by simp[Ar.cells,Ex.bX]⟩
theorem Ex.ir(e:Ex):e.cells.map AV.pv=e.cl:=by rw[Ex.bX];rfl
@[simp] def Ex.Hg(e:Ex)(A:AV):List AV:=[.pv (vI e.kind),.pv (vI e.pos),.pv (.str e.name),.pv (vI e.num),.pv (.az (e.kids.map Ex.pv)),A,.pv (vI e.ty.kind),.pv (.str e.ty.name),.pv (vI e.ty.id),.pv (vI e.ty.home),.pv (.az (e.ty.args.map Ty.pv))]
def Mk(A:AV)(as:List Ar)(X:Sh):Prop:=A=.pv (.az (as.map Ar.pv))∨∃b,b<X.length∧A=.aM b 14 as.length true∧X[b]?=some (some (aI Ar.cells as))
theorem Mk.app{A:AV}{as:List Ar}{X Y:Sh}(h:Mk A as X):Mk A as (X++Y):=by
 rcases h with h|⟨b,h1,h2,h3⟩
 ·exact .inl h
 ·exact .inr ⟨b,by rw[List.length_append];omega,h2,by rw[List.getElem?_append_left h1];exact h3⟩
def hV(X:Sh)(l:List Ex):AV:=if l=[] then .own [] 0 else .aM X.length 11 l.length true
def hS(X:Sh)(l:List Ex):Sh:=if l=[] then X else X++[some (aI Ex.cells l)]
def hT(l:List Ex):aD:=if l=[] then [0] else []
theorem wu{X:Sh}(h:aJ X)(l:List Ex):aJ (hS X l):=by
 unfold hS;by_cases h0:l=[]
 ·rw[if_pos h0];exact h
 ·rw[if_neg h0];exact h.app (aJ.one aO)
theorem Iw{e:Ex}{A:AV}(ha:e.aB.length≤1000):∀(n i:Nat),e.aB.length-i=n→i≤e.aB.length→∀(X:Sh) (acc:List Ex),aJ X→Mk A e.aB X→acc.length+n≤1000000→∃k,
   cl AP g145L0 ⟨[(1,.aK 1 0),(3,hV X acc),(4,.pv (vI i))],[(1,e.Hg A)],hS X acc,hT acc⟩ =
     some (.exit 0,⟨[(1,.aK 1 0),(3,hV (X++nn k) (acc++(e.aB.drop i).map cz.body)),(4,.pv (vI e.aB.length)),(12,.pv (.bool false))],[(1,e.Hg A)],hS (X++nn k) (acc++(e.aB.drop i).map cz.body),hT (acc++(e.aB.drop i).map cz.body)⟩)
 |0,i,hn,hi,X,acc,hX,hA,hl=>by
   have:i=e.aB.length:=by omega
   subst this;refine⟨0,?_⟩;rw[List.drop_length,List.map_nil,List.append_nil,show nn 0=[] from rfl,List.append_nil];have hn:=(wu hX acc).norm
   have vc:(hV X acc=.own [] 0∧hT acc=[0])∨(∃b z k g,hV X acc=.aM b z k g∧hT acc=[]):=by
     unfold hV hT;by_cases h0:acc=[]
     ·left;simp[h0]
     ·right;exact⟨X.length,11,acc.length,true,by simp[h0],by simp[h0]⟩
   rw[g145L0e]
   rcases vc with⟨v1,t1⟩|⟨b1,z1,k1,f1,v1,t1⟩<;>rw[v1,t1]<;>generalize hS X acc=S0 at hn⊢ <;>
     rcases hA with rfl|⟨b,hb,rfl,hx⟩<;>simp[g145B0,hn]
 |n+1,i,hn,hi,X,acc,hX,hA,hl=>by
   have hi:i<e.aB.length:=(by omega);obtain⟨x,hx⟩:=bl hi;have hnX:=hX.norm;have hB11:∀m:Nat,m≤1000000→m*152≤140737488355328:=(by omega);have hcl:=Ex.bX x.body;rw[aX hx,List.map_cons]
   have step:∃k,cl AP g145L0 ⟨[(1,.aK 1 0),(3,hV (if acc=[] then X else X++[none]) (acc++[x.body])),(4,.pv (vI (i+1:Nat)))],[(1,e.Hg A)],hS (if acc=[] then X else X++[none]) (acc++[x.body]),hT (acc++[x.body])⟩ =
     some (.exit 0,⟨[(1,.aK 1 0),(3,hV (X++nn k) (acc++(x.body::(e.aB.drop (i+1)).map cz.body))),(4,.pv (vI e.aB.length)),(12,.pv (.bool false))],[(1,e.Hg A)],hS (X++nn k) (acc++(x.body::(e.aB.drop (i+1)).map cz.body)),hT (acc++(x.body::(e.aB.drop (i+1)).map cz.body))⟩):=by
     by_cases h0:acc=[]
     ·rw[if_pos h0];obtain⟨k,ih⟩:=Iw ha n (i+1) (by omega) (by omega) X (acc++[x.body]) hX hA (by simp;omega);refine⟨k,?_⟩;rw[ih];simp only[List.append_assoc,List.singleton_append]
     · rw[if_neg h0];obtain⟨k,ih⟩:=Iw ha n (i+1) (by omega) (by omega) (X++[none]) (acc++[x.body]) (hX.app (bt 1)) hA.app (by simp;omega);refine⟨k+1,?_⟩;have e1:X++[none]++nn k=X++nn (k+1):=by simp[nn,List.replicate_succ]
       rw[ih,e1];simp only[List.append_assoc,List.singleton_append]
   obtain⟨k,ih⟩:=step;refine⟨k,?_⟩;generalize hV (X++nn k) (acc++(x.body::(e.aB.drop (i+1)).map cz.body))=V2 at ih⊢;generalize hS (X++nn k) (acc++(x.body::(e.aB.drop (i+1)).map cz.body))=S2 at ih⊢;generalize hT (acc++(x.body::(e.aB.drop (i+1)).map cz.body))=T2 at ih⊢;have hne:acc++[x.body]≠[]:=by simp
   have hn1:∀Y,aJ Y→∀aF ts,aW aF ts (Y++[some (aI Ex.cells (acc++[x.body]))])=(Y++[some (aI Ex.cells (acc++[x.body]))],aF,ts):=fun Y hY=>(hY.app (aJ.one aO)).norm;have hfl:aI Ex.cells (acc++[x.body])=aI Ex.cells acc++x.body.cl:=by rw[l8,←Ex.ir];simp[aI]
   by_cases h0:acc=[]
   · subst h0;rw[if_pos rfl]at ih;have hn2:=hn1 X hX;simp only[List.nil_append]at hne hn2 hfl ih;simp only[hV,hS,hT,if_neg hne,if_true]at ih⊢;rw[hfl]at hn2 ih;simp only[tu,List.nil_append]at hn2 ih;simp only[Ex.cl]at hn2;rw[g145L0e]at ih⊢;rcases hA with rfl|⟨b,hb,rfl,hxb⟩
     ·simp[hn2]at ih;simp (disch:=omega) [-getElem?_pos,g145B0,hx,hi,aw,hnX];rw[g145L0e];simp[hn2,ih]
     ·have q1:=jh dW hx (o:=3) (k:=11) (by omega);have q2:i*14+3+11≤e.aB.length*14:=(by omega);have q3:(aI Ar.cells e.aB).length=e.aB.length*14:=bc dW;have q4:bU (aI Ar.cells e.aB)=false:=bT aO;have q5:(((Ar.cells x).drop 3).take 11).map AV.pv=x.body.cl:=(by simp[Ar.cells,hcl]);rw[q5]at q1;generalize aI Ar.cells e.aB=T at *;simp[hn2]at ih q1;simp (disch:=omega) [-getElem?_pos,g145B0,hx,hi,aw,hnX,hxb,q1,q2,q3,q4];rw[g145L0e];simp[hn2,ih]
   · rw[if_neg h0]at ih;have hn2:=hn1 (X++[none]) (hX.app (bt 1));have hn3:∀aF ts,aW aF ts (X++[some (aI Ex.cells acc)])=(X++[some (aI Ex.cells acc)],aF,ts):=(hX.app (aJ.one aO)).norm;simp only[hV,hS,hT,if_neg hne,if_neg h0]at ih⊢;have r1:(aI Ex.cells acc).length=acc.length*11:=bc bg;have r2:bU (aI Ex.cells acc)=false:=bT aO;have r3:(aI Ex.cells acc).take (acc.length*11)=aI Ex.cells acc:=List.take_of_length_le (by omega);have hb2:(acc.length+1)*152≤140737488355328:=by omega
     rw[hfl]at hn2 ih;rw[List.length_append,List.length_singleton,List.length_append,List.length_singleton]at ih;have s1:∀u w:Option (List AV),(X++[u]).set X.length w=X++[w]:=fun u w=>by simp
     have s2:∀u:Option (List AV),(X++[u])[X.length]?=some u:=fun u=>by simp
     simp only[Ex.cl]at hn2;rw[g145L0e]at ih⊢;rcases hA with rfl|⟨b,hb,rfl,hxb⟩
     ·generalize aI Ex.cells acc=F at *;simp[hn2]at ih;simp (disch:=omega) [-getElem?_pos,g145B0,hx,hi,aw,hn3,r1,r2,r3,s1,s2,hb2];rw[g145L0e];simp[hn2,ih]
     · have q1:=jh dW hx (o:=3) (k:=11) (by omega);have q2:i*14+3+11≤e.aB.length*14:=(by omega);have q3:(aI Ar.cells e.aB).length=e.aB.length*14:=bc dW;have q4:bU (aI Ar.cells e.aB)=false:=bT aO;have q5:(((Ar.cells x).drop 3).take 11).map AV.pv=x.body.cl:=(by simp[Ar.cells,hcl]);have q6:∀u:Option (List AV),(X++[u])[b]?=X[b]?:=fun u=>List.getElem?_append_left hb
       rw[q5]at q1;generalize aI Ar.cells e.aB=T at *;generalize aI Ex.cells acc=F at *;simp[hn2]at ih q1;simp (disch:=omega) [-getElem?_pos,g145B0,hx,hi,aw,hn3,r1,r2,r3,s1,s2,hb2,hxb,q1,q2,q3,q4,q6];rw[g145L0e];simp[hn2,ih]
theorem jY{l:List Ex}:((eV (aI Ex.cells l)).bind (dy 11 true l.length)).map PV.az=some (.az (l.map Ex.pv)):=ma bg
theorem mU{l:List Ex}:((l.map Ex.pv).flatMap aS).map AV.pv=aI Ex.cells l:=mb bg
theorem c145i{e:Ex}{A:AV}(h:e.kids.length≤1000)(ha:e.aB.length≤1000){X:Sh}(hX:aJ X)(hA:Mk A e.aB X):∃k,(aC AP).i 145 [.agg (e.Hg A)] X []=some (if e.ch=[] then ([.own [] 0],X,[0]) else ([.aM (X.length+k) 11 e.ch.length true],X++nn k++[some (aI Ex.cells e.ch)],[])):=by
 obtain⟨k,h2⟩:=Iw (A:=A) ha _ 0 rfl (by omega) X e.kids hX hA (by omega);rw[List.drop_zero]at h2
 change cl AP g145L0 _=some (.exit 0,⟨[(1,.aK 1 0),(3,hV (X++nn k) e.ch),(4,.pv (vI e.aB.length)),(12,.pv (.bool false))],[(1,e.Hg A)],hS (X++nn k) e.ch,hT e.ch⟩)at h2
 refine⟨k,?_⟩;rw[aH (af:=g145) rfl (by simp[g145])];have hb:e.kids.length*152≤140737488355328:=by omega
 have hm:=mU (l:=e.kids);have hq:=hX.norm;have hq0:∀aF ts,aW aF ts (X++[some (aI Ex.cells e.kids)])=(X++[some (aI Ex.cells e.kids)],aF,ts):=(hX.app (aJ.one aO)).norm;have hq1:∀aF ts,aW aF ts (X++nn k)=(X++nn k,aF,ts):=(hX.app (bt k)).norm;have hq2:∀aF ts,aW aF ts (X++(nn k++[some (aI Ex.cells e.ch)]))=(X++(nn k++[some (aI Ex.cells e.ch)]),aF,ts):=(hX.app ((bt k).app (aJ.one aO))).norm;have hlt:¬X.length+k<X.length:=by omega
 have hln:(X++nn k).length=X.length+k:=by simp
 have hlf:aP A=true∧bm A=true:=by rcases hA with rfl|⟨b,_,rfl,_⟩<;>exact⟨rfl,rfl⟩
 have hkt:(X++nn k).take X.length=X:=by simp
 have e1:∀(V:AV) (T:aD) (S:Sh),(V=hV X e.kids∧T=hT e.kids∨e.kids=[]∧V=.di []∧T=[])→S=hS X e.kids→after (cl AP g145L0) (cl AP g145B0 (norm (restrict [1,3,4] ⟨[(1,.aK 1 0),(3,V),(4,.pv (vI 0))],[(1,e.Hg A)],S,T⟩))) =
     some (.exit 0,⟨[(1,.aK 1 0),(3,hV (X++nn k) e.ch),(4,.pv (vI e.aB.length)),(12,.pv (.bool false))],[(1,e.Hg A)],hS (X++nn k) e.ch,hT e.ch⟩):=by
   rintro V T S hV' rfl
   rw[←h2,g145L0e];rcases hV' with⟨rfl,rfl⟩|⟨h0,rfl,rfl⟩
   ·rfl
   ·simp only[hV,hS,hT,h0,if_true];rcases hA with rfl|⟨b,_,rfl,_⟩<;>simp[hq]
 clear h2;by_cases hc:e.ch=[]
 · have h0:e.kids=[]:=by have:=hc;simp only[Ex.ch,List.append_eq_nil_iff]at this;exact this.1
   have f:=e1 (.di []) [] X (.inr ⟨h0,rfl,rfl⟩) (by simp[hS,h0]);simp only[hc,hV,hS,hT,if_true]at f⊢;rcases hA with rfl|⟨b,_,rfl,_⟩<;>simp[hq,h0]at f<;>simp[g145,h0,hq,hq1,g145L0e,f,hln,hkt]
 · by_cases h0:e.kids=[]
   ·have f:=e1 (.di []) [] X (.inr ⟨h0,rfl,rfl⟩) (by simp[hS,h0]);simp only[hV,hS,hT,if_neg hc,List.append_assoc,hln]at f⊢;generalize X++(nn k++[some (aI Ex.cells e.ch)])=S2 at *;rcases hA with rfl|⟨b,_,rfl,_⟩<;>simp[hq,h0]at f<;>simp[g145,h0,hq,hq2,g145L0e,f,hlt]
   ·have f:=e1 (.aM X.length 11 e.kids.length true) [] (X++[some (aI Ex.cells e.kids)]) (.inl ⟨by simp[hV,h0],by simp[hT,h0]⟩) (by simp[hS,h0]);simp only[hV,hS,hT,if_neg hc,List.append_assoc,hln]at f⊢;generalize X++(nn k++[some (aI Ex.cells e.ch)])=S2 at *;have hb2:e.kids.length*152≤140737488355328:=(by omega);generalize aI Ex.cells e.kids=F at *;rcases hA with rfl|⟨b,_,rfl,_⟩<;>simp[hq,hq0,h0]at f<;>simp[g145,h0,hb2,hm,hq,hq0,hq2,g145L0e,f,hlt]
theorem c145{e:Ex}(h:e.Ok):(aC AP).p 145 [e.pv]=some [.az (e.ch.map Ex.pv)]:=by
 have hk:=h.k;have ha:=h.a;obtain⟨k,h2⟩:=Iw (A:=.pv (.az (e.aB.map Ar.pv))) ha _ 0 rfl (by omega) [] e.kids (by intro cs h;simp at h) (.inl rfl) (by omega);rw[List.drop_zero]at h2
 change cl AP g145L0 _=some (.exit 0,⟨[(1,.aK 1 0),(3,hV ([]++nn k) e.ch),(4,.pv (vI e.aB.length)),(12,.pv (.bool false))],[(1,e.Hg (.pv (.az (e.aB.map Ar.pv))))],hS ([]++nn k) e.ch,hT e.ch⟩)at h2
 have hb2:e.kids.length*152≤140737488355328:=by omega
 have hm:=mU (l:=e.kids);have hl:=jY (l:=e.ch);have hlen:(aI Ex.cells e.ch).length=e.ch.length*11:=bc bg;have hq0:∀aF ts,aW aF ts ([some (aI Ex.cells e.kids)])=([some (aI Ex.cells e.kids)],aF,ts):=(aJ.one aO).norm;rw[ah (af:=g145) rfl rfl (by decide)];by_cases hc:e.ch=[]
 · have h0:e.kids=[]∧e.aB=[]:=by have:=hc;simpa[Ex.ch] using this
   simp only[hc,hV,hS,hT,if_true,h0.1]at h2⊢;rw[g145L0e]at h2;simp[h0.1,h0.2]at h2;simp[g145,h0.1,h0.2,g145L0e,h2]
 · have hg:∀Z:Option (List AV),([]++nn k++[Z])[k]?=some Z:=fun Z=>by simp
   by_cases h0:e.kids=[]
   ·simp only[hV,hS,hT,if_neg hc,h0,if_true]at h2⊢;have hg1:=hg (some (aI Ex.cells e.ch));generalize []++nn k++[some (aI Ex.cells e.ch)]=S2 at *;generalize aI Ex.cells e.ch=F at *;rw[g145L0e]at h2;simp[h0]at h2;simp at hl;simp[-getElem?_pos,g145,h0,g145L0e,h2,hg1,hlen,hl]
   ·simp only[hV,hS,hT,if_neg hc,if_neg h0]at h2⊢;have hg1:=hg (some (aI Ex.cells e.ch));generalize []++nn k++[some (aI Ex.cells e.ch)]=S2 at *;generalize aI Ex.cells e.ch=F at *;generalize aI Ex.cells e.kids=F0 at *;rw[g145L0e]at h2;simp[hq0]at h2 hl;simp[-getElem?_pos,g145,h0,hb2,hm,hq0,g145L0e,h2,hg1,hlen,hl]
theorem Ix{e:Ex}(ha:e.aB.length≤1000):∀(n i:Nat),e.aB.length-i=n→i≤e.aB.length→∀(X:Sh) (acc:List Ex),aJ X→acc.length+n≤1000000→∃k,
   cl AP g414L0 ⟨[(3,hV X acc),(10,.pv (.az (e.aB.map Ar.pv))),(11,.pv (vI e.aB.length)),(12,.pv (vI i))],[],hS X acc,hT acc⟩ =
     some (.exit 0,⟨[(3,hV (X++nn k) (acc++(e.aB.drop i).map cz.body)),(10,.pv (.az (e.aB.map Ar.pv))),(11,.pv (vI e.aB.length)),(12,.pv (vI e.aB.length)),(13,.pv (.bool false))],[],hS (X++nn k) (acc++(e.aB.drop i).map cz.body),hT (acc++(e.aB.drop i).map cz.body)⟩)
 |0,i,hn,hi,X,acc,hX,hl=>by
   have:i=e.aB.length:=by omega
   subst this;refine⟨0,?_⟩;rw[List.drop_length,List.map_nil,List.append_nil,show nn 0=[] from rfl,List.append_nil];have hn:=(wu hX acc).norm
   have vc:(hV X acc=.own [] 0∧hT acc=[0])∨(∃b z k g,hV X acc=.aM b z k g∧hT acc=[]):=by
     unfold hV hT;by_cases h0:acc=[]
     ·left;simp[h0]
     ·right;exact⟨X.length,11,acc.length,true,by simp[h0],by simp[h0]⟩
   rw[g414L0e];rcases vc with⟨v1,t1⟩|⟨b1,z1,k1,f1,v1,t1⟩<;>rw[v1,t1]<;>generalize hS X acc=S0 at hn⊢<;>simp[g414B0,hn]
 |n+1,i,hn,hi,X,acc,hX,hl=>by
   have hi:i<e.aB.length:=(by omega);obtain⟨x,hx⟩:=bl hi;have hnX:=hX.norm;have hcl:=Ex.bX x.body;rw[aX hx,List.map_cons]
   have step:∃k,cl AP g414L0 ⟨[(3,hV (if acc=[] then X else X++[none]) (acc++[x.body])),(10,.pv (.az (e.aB.map Ar.pv))),(11,.pv (vI e.aB.length)),(12,.pv (vI (i+1:Nat)))],[],hS (if acc=[] then X else X++[none]) (acc++[x.body]),hT (acc++[x.body])⟩ =
     some (.exit 0,⟨[(3,hV (X++nn k) (acc++(x.body::(e.aB.drop (i+1)).map cz.body))),(10,.pv (.az (e.aB.map Ar.pv))),(11,.pv (vI e.aB.length)),(12,.pv (vI e.aB.length)),(13,.pv (.bool false))],[],hS (X++nn k) (acc++(x.body::(e.aB.drop (i+1)).map cz.body)),hT (acc++(x.body::(e.aB.drop (i+1)).map cz.body))⟩):=by
     by_cases h0:acc=[]
     ·rw[if_pos h0];obtain⟨k,ih⟩:=Ix ha n (i+1) (by omega) (by omega) X (acc++[x.body]) hX (by simp;omega);refine⟨k,?_⟩;rw[ih];simp only[List.append_assoc,List.singleton_append]
     · rw[if_neg h0];obtain⟨k,ih⟩:=Ix ha n (i+1) (by omega) (by omega) (X++[none]) (acc++[x.body]) (hX.app (bt 1)) (by simp;omega);refine⟨k+1,?_⟩;have e1:X++[none]++nn k=X++nn (k+1):=by simp[nn,List.replicate_succ]
       rw[ih,e1];simp only[List.append_assoc,List.singleton_append]
   obtain⟨k,ih⟩:=step;refine⟨k,?_⟩;generalize hV (X++nn k) (acc++(x.body::(e.aB.drop (i+1)).map cz.body))=V2 at ih⊢;generalize hS (X++nn k) (acc++(x.body::(e.aB.drop (i+1)).map cz.body))=S2 at ih⊢;generalize hT (acc++(x.body::(e.aB.drop (i+1)).map cz.body))=T2 at ih⊢;have hne:acc++[x.body]≠[]:=by simp
   have hn1:∀Y,aJ Y→∀aF ts,aW aF ts (Y++[some (aI Ex.cells (acc++[x.body]))])=(Y++[some (aI Ex.cells (acc++[x.body]))],aF,ts):=fun Y hY=>(hY.app (aJ.one aO)).norm;have hfl:aI Ex.cells (acc++[x.body])=aI Ex.cells acc++x.body.cl:=by rw[l8,←Ex.ir];simp[aI]
   by_cases h0:acc=[]
   ·subst h0;rw[if_pos rfl]at ih;have hn2:=hn1 X hX;simp only[List.nil_append]at hne hn2 hfl ih;simp only[hV,hS,hT,if_neg hne,if_true]at ih⊢;rw[hfl]at hn2 ih;simp only[tu,List.nil_append]at hn2 ih;simp only[Ex.cl]at hn2;rw[g414L0e]at ih⊢;simp[hn2]at ih;simp (disch:=omega) [-getElem?_pos,g414B0,hx,hi,aw,hnX];rw[g414L0e];simp[hn2,ih]
   · rw[if_neg h0]at ih;have hn2:=hn1 (X++[none]) (hX.app (bt 1));have hn3:∀aF ts,aW aF ts (X++[some (aI Ex.cells acc)])=(X++[some (aI Ex.cells acc)],aF,ts):=(hX.app (aJ.one aO)).norm;simp only[hV,hS,hT,if_neg hne,if_neg h0]at ih⊢;have r1:(aI Ex.cells acc).length=acc.length*11:=bc bg;have r2:bU (aI Ex.cells acc)=false:=bT aO;have r3:(aI Ex.cells acc).take (acc.length*11)=aI Ex.cells acc:=List.take_of_length_le (by omega);have hb2:(acc.length+1)*152≤140737488355328:=by omega
     rw[hfl]at hn2 ih;rw[List.length_append,List.length_singleton,List.length_append,List.length_singleton]at ih;have s1:∀u w:Option (List AV),(X++[u]).set X.length w=X++[w]:=fun u w=>by simp
     have s2:∀u:Option (List AV),(X++[u])[X.length]?=some u:=fun u=>by simp
     simp only[Ex.cl]at hn2;rw[g414L0e]at ih⊢;generalize aI Ex.cells acc=F at *;simp[hn2]at ih;simp (disch:=omega) [-getElem?_pos,g414B0,hx,hi,aw,hn3,r1,r2,r3,s1,s2,hb2];rw[g414L0e];simp[hn2,ih]
theorem c414{e:Ex}(h:e.Ok):(aC AP).p 414 [e.pv]=some [.az (e.ch.map Ex.pv)]:=by
 have hk:=h.k;have ha:=h.a;obtain⟨k,h2⟩:=Ix ha _ 0 rfl (by omega) [] e.kids (by intro cs h;simp at h) (by omega);rw[List.drop_zero]at h2
 change cl AP g414L0 _=some (.exit 0,⟨[(3,hV ([]++nn k) e.ch),(10,.pv (.az (e.aB.map Ar.pv))),(11,.pv (vI e.aB.length)),(12,.pv (vI e.aB.length)),(13,.pv (.bool false))],[],hS ([]++nn k) e.ch,hT e.ch⟩)at h2
 have hb2:e.kids.length*152≤140737488355328:=by omega
 have hm:=mU (l:=e.kids);have hl:=jY (l:=e.ch);have hlen:(aI Ex.cells e.ch).length=e.ch.length*11:=bc bg;have hq0:∀aF ts,aW aF ts ([some (aI Ex.cells e.kids)])=([some (aI Ex.cells e.kids)],aF,ts):=(aJ.one aO).norm;rw[ah (af:=g414) rfl rfl (by decide)];by_cases hc:e.ch=[]
 · have h0:e.kids=[]∧e.aB=[]:=by have:=hc;simpa[Ex.ch] using this
   simp only[hc,hV,hS,hT,if_true,h0.1]at h2⊢;rw[g414L0e]at h2;simp[h0.1,h0.2]at h2;simp[g414,h0.1,h0.2,g414L0e,h2]
 · have hg:∀Z:Option (List AV),([]++nn k++[Z])[k]?=some Z:=fun Z=>by simp
   by_cases h0:e.kids=[]
   ·simp only[hV,hS,hT,if_neg hc,h0,if_true]at h2⊢;have hg1:=hg (some (aI Ex.cells e.ch));generalize []++nn k++[some (aI Ex.cells e.ch)]=S2 at *;generalize aI Ex.cells e.ch=F at *;rw[g414L0e]at h2;simp[h0]at h2;simp at hl;simp[-getElem?_pos,g414,h0,g414L0e,h2,hg1,hlen,hl]
   ·simp only[hV,hS,hT,if_neg hc,if_neg h0]at h2⊢;have hg1:=hg (some (aI Ex.cells e.ch));generalize []++nn k++[some (aI Ex.cells e.ch)]=S2 at *;generalize aI Ex.cells e.ch=F at *;generalize aI Ex.cells e.kids=F0 at *;rw[g414L0e]at h2;simp[hq0]at h2 hl;simp[-getElem?_pos,g414,h0,hb2,hm,hq0,g414L0e,h2,hg1,hlen,hl]
def Ku:Ex:=⟨0,0,[],0,[],[],d9⟩
def Ex.at:Ex→List Int→Option Ex
 |e,[]=>some e
 |e,i::r=>if 0≤i∧i<e.ch.length then match e.ch[i.toNat]? with|some x=>x.at r|none=>none else none
def zO:List AV:=[.pv (vI 0),.pv (vI 0),.pv (.str []),.pv (vI 0),.own [] 0,.own [] 1,.pv (vI 0),.pv (.str []),.pv (vI 0),.pv (vI 0),.own [] 2]
def zK:List AV:=[.pv (vI 0),.pv (vI 0),.pv (.str []),.pv (vI 0),.di [],.di [],.pv (vI 0),.pv (.str []),.pv (vI 0),.pv (vI 0),.di []]
def atR:Option Ex→List PV
 |some x=>[x.pv,.bool true]
 |none=>[Ku.pv,.bool false]
def DH(p:List Int):Option Ex→Option (aU×St)
 |some x=>some (.exit 0,⟨[(1,.pv (.az (p.map vI))),(2,.aK 2 0),(4,.aK 4 0),(6,.pv (vI p.length)),(11,.pv (.bool false))],[(2,x.cl),(4,zO)],[],[0,0,0]⟩)
 |none=>some (.ret,⟨[(4,.aK 4 0),(5,.pv (.bool false))],[(4,zK)],[],[0,0,0]⟩)
theorem Ml{p:List Int}(hp:Sm p):∀(n i:Nat),p.length-i=n→i≤p.length→∀e:Ex,e.Ok →
   cl AP g439L0 ⟨[(1,.pv (.az (p.map vI))),(2,.aK 2 0),(4,.aK 4 0),(6,.pv (vI i))],[(2,e.cl),(4,zO)],[],[0,0,0]⟩=DH p (e.at (p.drop i))
 |0,i,hn,hi,e,he=>by
   have:i=p.length:=by omega
   subst this;rw[g439L0e];simp[g439B0,Ex.at,DH,zO]
 |n+1,i,hn,hi,e,he=>by
   have hi:i<p.length:=(by omega);obtain⟨k,hk⟩:=bl hi;unfold Sm at hp;have c:=c145 he;simp at c;rw[aX hk,g439L0e];simp only[Ex.at];by_cases h1:0≤k∧k<e.ch.length
   · rw[if_pos h1];obtain⟨m,rfl,hm⟩:=Ko h1.1 h1.2;obtain⟨x,hx⟩:=bl hm;have ih:=Ml hp n (i+1) (by omega) (by omega) x (he.c x (bE hx));have hm':¬e.ch.length≤m:=by omega
     simp[hx,zO]at ih⊢;generalize e.ch=C at *;simp (disch:=omega) [-getElem?_pos,g439B0,hk,hi,aw,c,hx,hm,hm',ih]
   · rw[if_neg h1];by_cases h2:0≤k
     · have h3:¬k<e.ch.length:=fun h=>h1 ⟨h2,h⟩;have h3':¬k<0:=by omega
       have h4:(e.ch.length:Int)≤k:=(by omega);generalize e.ch=C at *;simp (disch:=omega) [-getElem?_pos,g439B0,hk,hi,aw,c,DH,zO,zK,h3,h3',h4]
     ·have h3':k<0:=(by omega);generalize e.ch=C at *;simp (disch:=omega) [-getElem?_pos,g439B0,hk,hi,aw,c,DH,zO,zK,h3']
theorem c439{e:Ex}(h:e.Ok){p:List Int}(hp:Sm p):(aC AP).p 439 [e.pv,.az (p.map vI)]=some (atR (e.at p)):=by
 have h2:=Ml hp _ 0 rfl (by omega) e h;simp at h2;rw[ah (af:=g439) rfl rfl (by decide)];rw[g439L0e]at h2;cases hx:e.at p with
 |none=>rw[hx]at h2;simp[DH,zO,zK]at h2;simp[g439,g439L0e,h2,atR,Ku,d9]
 |some x=>rw[hx]at h2;simp[DH,zO,zK]at h2;simp[g439,g439L0e,h2,atR,Ku,d9]
def DI(p:List Int):Option Ex→Option (aU×St)
 |some x=>some (.exit 0,⟨[(2,.aK 2 0),(4,.aK 4 0),(9,.pv (.az (p.map vI))),(10,.pv (vI p.length)),(11,.pv (vI p.length)),(12,.pv (.bool false))],[(2,x.cl),(4,zO)],[],[0,0,0]⟩)
 |none=>some (.ret,⟨[(4,.aK 4 0),(5,.pv (.bool false))],[(4,zK)],[],[0,0,0]⟩)
theorem Mm{p:List Int}(hp:Sm p):∀(n i:Nat),p.length-i=n→i≤p.length→∀e:Ex,e.Ok →
   cl AP g410L0 ⟨[(2,.aK 2 0),(4,.aK 4 0),(9,.pv (.az (p.map vI))),(10,.pv (vI p.length)),(11,.pv (vI i))],[(2,e.cl),(4,zO)],[],[0,0,0]⟩=DI p (e.at (p.drop i))
 |0,i,hn,hi,e,he=>by
   have:i=p.length:=by omega
   subst this;rw[g410L0e];simp[g410B0,Ex.at,DI,zO]
 |n+1,i,hn,hi,e,he=>by
   have hi:i<p.length:=(by omega);obtain⟨k,hk⟩:=bl hi;unfold Sm at hp;have c:=c414 he;simp at c;rw[aX hk,g410L0e];simp only[Ex.at];by_cases h1:0≤k∧k<e.ch.length
   · rw[if_pos h1];obtain⟨m,rfl,hm⟩:=Ko h1.1 h1.2;obtain⟨x,hx⟩:=bl hm;have ih:=Mm hp n (i+1) (by omega) (by omega) x (he.c x (bE hx));have hm':¬e.ch.length≤m:=by omega
     simp[hx,zO]at ih⊢;generalize e.ch=C at *;simp (disch:=omega) [-getElem?_pos,g410B0,hk,hi,aw,c,hx,hm,hm',ih]
   · rw[if_neg h1];by_cases h2:0≤k
     · have h3:¬k<e.ch.length:=fun h=>h1 ⟨h2,h⟩;have h3':¬k<0:=by omega
       have h4:(e.ch.length:Int)≤k:=(by omega);generalize e.ch=C at *;simp (disch:=omega) [-getElem?_pos,g410B0,hk,hi,aw,c,DI,zO,zK,h3,h3',h4]
     ·have h3':k<0:=(by omega);generalize e.ch=C at *;simp (disch:=omega) [-getElem?_pos,g410B0,hk,hi,aw,c,DI,zO,zK,h3']
theorem c410{e:Ex}(h:e.Ok){p:List Int}(hp:Sm p):(aC AP).p 410 [e.pv,.az (p.map vI)]=some (atR (e.at p)):=by
 have h2:=Mm hp _ 0 rfl (by omega) e h;simp at h2;rw[ah (af:=g410) rfl rfl (by decide)];rw[g410L0e]at h2;cases hx:e.at p with
 |none=>rw[hx]at h2;simp[DI,zO,zK]at h2;simp[g410,g410L0e,h2,atR,Ku,d9]
 |some x=>rw[hx]at h2;simp[DI,zO,zK]at h2;simp[g410,g410L0e,h2,atR,Ku,d9]
def cN(e:Ex)(i:Nat):List (List UInt8):=
 if e.kind=4∨e.kind=7∨(e.kind=6∧i=1) then [e.name]
 else if e.kind=8∧0<i then match e.aB[i-1]? with|some a=>a.vars|none=>[]
 else []
theorem c380{e:Ex}{i:Nat}(hi:i<e.ch.length)(h8:e.kind=8→e.kids.length=1)(hO:e.Ok):(aC AP).p 380 [e.pv,vI i]=some [.az ((cN e i).map .str)]:=by
 have ha:=hO.a;rw[Ex.c_]at hi;rw[ah (af:=g380) rfl rfl (by decide)];unfold cN;by_cases h1:e.kind=4
 ·simp[g380,h1]
 · by_cases h2:e.kind=7
   ·simp[g380,h1,h2]
   · by_cases h3:e.kind=6
     · by_cases h4:i=1
       ·simp[g380,h1,h2,h3,h4]
       ·have h4':¬(i:Int)=1:=(by omega);simp[g380,h1,h2,h3,h4,h4']
     · by_cases h5:e.kind=8
       · by_cases h6:0<i
         ·have h6':(0:Int)<i:=(by omega);have hk:=h8 h5;obtain⟨a,hx⟩:=bl (l:=e.aB) (i:=i-1) (by omega);obtain⟨m,rfl⟩:∃m:Nat,i=m+1:=⟨i-1,by omega⟩;have hm:((m+1:Nat):Int)-1=m:=(by omega);have hm':((m:Int)+1)-1=m:=(by omega);simp at hx hi;have hlt:m<e.aB.length:=(by omega);simp (disch:=omega) [-getElem?_pos,g380,h1,h2,h3,h5,h6,h6',aw,hm,hm',hx,hlt]
         · have:i=0:=by omega
           subst this;simp[g380,h1,h2,h3,h5]
       ·simp[g380,h1,h2,h3,h5]
theorem c411{e:Ex}{i:Nat}(hi:i<e.ch.length)(h8:e.kind=8→e.kids.length=1)(hO:e.Ok):(aC AP).p 411 [e.pv,vI i]=some [.az ((cN e i).map .str)]:=by
 have ha:=hO.a;rw[Ex.c_]at hi;rw[ah (af:=g411) rfl rfl (by decide)];unfold cN;by_cases h1:e.kind=4
 ·simp[g411,h1]
 · by_cases h2:e.kind=7
   ·simp[g411,h1,h2]
   · by_cases h3:e.kind=6
     · by_cases h4:i=1
       ·simp[g411,h1,h2,h3,h4]
       ·have h4':¬(i:Int)=1:=(by omega);simp[g411,h1,h2,h3,h4,h4']
     · by_cases h5:e.kind=8
       · have hk:=h8 h5;by_cases h6:0<i
         ·have h6':(1:Int)≤i:=(by omega);obtain⟨a,hx⟩:=bl (l:=e.aB) (i:=i-1) (by omega);obtain⟨m,rfl⟩:∃m:Nat,i=m+1:=⟨i-1,by omega⟩;have hm:((m+1:Nat):Int)-1=m:=(by omega);have hm':((m:Int)+1)-1=m:=(by omega);simp at hx hi;have hlt:m<e.aB.length:=(by omega);have h6'':(1:Int)≤(m:Int)+1:=(by omega);simp (disch:=omega) [-getElem?_pos,g411,h1,h2,h3,h5,hk,h6,h6',h6'',aw,hm,hm',hx,hlt]
         · have:i=0:=by omega
           subst this;simp[g411,h1,h2,h3,h5,hk]
       ·simp[g411,h1,h2,h3,h5]
inductive Ty.Kn (K:Int→Prop):Ty→Prop
 |mk {t:Ty}:(t.kind≠4→K t.kind∧t.args=[])→t.name.length≤100→(∀x∈t.args,x.Kn K)→t.Kn K
theorem Ex.ji{e x:Ex}(h:x∈e.ch):SizeOf.sizeOf x<SizeOf.sizeOf e:=by
 rw[Ex.ch,List.mem_append,List.mem_map]at h;cases e;rcases h with h|⟨a,ha,rfl⟩
 ·have:=_root_.List.sizeOf_lt_of_mem h;simp at *;omega
 ·have:=_root_.List.sizeOf_lt_of_mem ha;have:=cz.mT a;simp at *;omega
def Ex.sz(e:Ex):Nat:=1+(e.ch.attach.map fun x=>x.1.sz).sum
termination_by SizeOf.sizeOf e
decreasing_by exact Ex.ji x.2
theorem Ex.gW(e:Ex):e.sz=1+(e.ch.map Ex.sz).sum:=by
 rw[Ex.sz,List.map_attach_eq_pmap,List.pmap_eq_map]
theorem Ex.jZ(e:Ex):1≤e.sz:=by rw[Ex.gW];omega
theorem lh{α:Type}{l:List α}{f:α→Nat}{x:α}(h:x∈l):f x≤(l.map f).sum:=by
 induction l with
 |nil=>cases h
 |cons a r ih=>
   simp only[List.map_cons,List.sum_cons];rcases List.mem_cons.1 h with rfl|h
   ·omega
   ·have:=ih h;omega
theorem Ex.jj{e x:Ex}(h:x∈e.ch):x.sz<e.sz:=by
 have:=lh (f:=Ex.sz) h;rw[e.gW];omega
@[simp] def KT(k:Int):Prop:=k=0∨k=5
inductive mm:Ex→Prop
 |leaf {e:Ex}:(e.kind=1∨e.kind=2)∧e.name.length≤100∨e.kind=3∧0≤e.num∧e.num<4∨e.kind=10∧e.name=[]∧e.num=0∧e.ty=d9→e.kids=[]→e.aB=[]→mm e
 |lam {e a:Ex}:e.kind=4→e.name.length≤100→e.kids=[a]→e.aB=[]→mm a→mm e
 |app {e a b:Ex}:e.kind=5→e.kids=[a,b]→e.aB=[]→mm a→mm b→mm e
 |Kv {e a b:Ex}:e.kind=6∨e.kind=7→e.name.length≤100→e.kids=[a,b]→e.aB=[]→mm a→mm b→mm e
 |Gv {e a:Ex}:e.kind=8→e.kids=[a]→mm a→e.aB.length≤10 →
     (∀x∈e.aB,x.dx.length≤100∧x.vars.length≤10∧∀v∈x.vars,v.length≤100)→(∀x∈e.aB,mm x.body)→mm e
 |NF {e a:Ex}:e.kind=9→e.kids=[a]→e.aB=[]→e.ty.Kn KT→e.ty.nodes.length≤10000→mm a→mm e
 |held {e a:Ex}:e.kind=11→e.kids=[a]→e.aB=[]→mm a→mm e
theorem mm.c{e:Ex}(h:mm e):∀x∈e.ch,mm x:=by
 intro x hx;rw[Ex.ch,List.mem_append,List.mem_map]at hx;cases h with
 |leaf _ h2 h3=>rw[h2,h3]at hx;simp at hx
 |lam _ _ h2 h3 h=>rw[h2,h3]at hx;simp at hx;subst hx;exact h
 |app _ h2 h3 h h'=>rw[h2,h3]at hx;simp at hx;rcases hx with rfl|rfl<;>assumption
 |Kv _ _ h2 h3 h h'=>rw[h2,h3]at hx;simp at hx;rcases hx with rfl|rfl<;>assumption
 |NF _ h2 h3 _ _ h=>rw[h2,h3]at hx;simp at hx;subst hx;exact h
 |held _ h2 h3 h=>rw[h2,h3]at hx;simp at hx;subst hx;exact h
 |Gv _ h2 h _ _ h6=>
   rw[h2]at hx;simp at hx;rcases hx with rfl|⟨a,ha,rfl⟩
   ·exact h
   ·exact h6 a ha
theorem qH{α:Type}{l:List α}{i:Nat}{x:α}(h:i<l.length):(l.set i x).take (i+1)=l.take i++[x]:=by
 rw[List.set_eq_take_append_cons_drop,if_pos h,List.take_append,List.take_of_length_le (by simp;omega)];have:i+1-(l.take i).length=1:=by simp;omega
 rw[this];rfl
theorem wv{α:Type}{l:List α}{i j:Nat}{x:α}(h:i<j):(l.set i x).drop j=l.drop j:=by
 rw[List.drop_set_of_lt h]
theorem Kw{X:Sh}(hX:aJ X){t:List UInt8}{N:Nat}(hN:N<1099511627776):∀(n j:Nat),N-j=n→j≤N→∀(a:List (List UInt8)) (i:Nat),a.length=N→i<j→∃(a':List (List UInt8)) (i':Nat),
   cl AP g412L0 ⟨[(0,.aM X.length 1 N false),(1,.fn 413 [.a_ (X.length+1) 0]),(5,.pv (vI i)),(6,.pv (vI j))],[],SA X a t,[]⟩ =
     some (.exit 0,⟨[(0,.aM X.length 1 N false),(1,.fn 413 [.a_ (X.length+1) 0]),(5,.pv (vI i')),(6,.pv (vI N)),(19,.pv (.bool false))],[],SA X a' t,[]⟩) ∧
     a'.length=N∧i'≤N∧a'.take i'=a.take i++(a.drop j).filter (fun x=>!decide (x=t))
 |0,j,hk,hj,a,i,ha,hi=>by
   have:j=N:=by omega
   subst this;have hn:=(ej hX (l:=a) (t:=t)).norm;refine⟨a,i,?_,ha,by omega,by rw[List.drop_of_length_le (by omega)];simp⟩;generalize SA X a t=SH at hn⊢;rw[g412L0e];simp[g412B0,hn]
 |n+1,j,hk,hj,a,i,ha,hi=>by
   have hj:j<N:=(by omega);obtain⟨x,hx⟩:=bl (l:=a) (i:=j) (by omega);have hn:=(ej hX (l:=a) (t:=t)).norm;have hs:=(ej hX (l:=a) (t:=t)).shift;have hg:=Gt hx;have hB:bU (tx a)=false:=bT jX;have hle:j+1≤(tx a).length:=(by rw[lg];omega);have hle2:i+1≤(tx a).length:=(by rw[lg];omega);have hA:=zD (X:=X) (l:=a) (t:=t);have q:=Gu hn hs Gr (by rw[tt];omega) (x:=x) (t:=t) (c:=X.length+1);by_cases e:x=t
   ·obtain⟨a',i',e1,e2,e3,e4⟩:=Kw hX (t:=t) hN n (j+1) (by omega) (by omega) a i ha (by omega);refine⟨a',i',?_,e2,e3,by rw[e4,aX hx];simp[e]⟩;rw[decide_eq_true e]at q;generalize SA X a' t=SR at e1⊢;generalize SA X a t=SH at hn hs hA q e1⊢;rw[g412L0e]at e1⊢;simp[hn]at e1;simp (disch:=omega) [-getElem?_pos,-dU,g412B0,hj,hn,hA,hg,hB,hle,q,aw];rw[g412L0e];simp[hn,e1]
   · obtain⟨a',i',e1,e2,e3,e4⟩:=Kw hX (t:=t) hN n (j+1) (by omega) (by omega) (a.set i x) (i+1) (by simpa using ha) (by omega);refine⟨a',i',?_,e2,e3,by rw[e4,aX hx,qH (by omega),wv (by omega)];simp[e]⟩;rw[decide_eq_false e]at q;have hiN:i<N:=by omega
     have htx:=Kt (l:=a) (i:=i) (by omega) (s:=x);have hset:=Gs (X:=X) (l:=a) (l':=a.set i x) (t:=t);have hn1:=(ej hX (l:=a.set i x) (t:=t)).norm;generalize SA X a' t=SR at e1⊢;generalize SA X (a.set i x) t=S1 at hset hn1 e1;generalize SA X a t=SH at hn hs hA q hset⊢;generalize tx (a.set i x)=T1 at htx hset;rw[g412L0e]at e1⊢;simp[hn1]at e1 htx;simp (disch:=omega) [-getElem?_pos,-dU,g412B0,hj,hn,hA,hg,hB,hle,hle2,hiN,q,aw,htx,hset];rw[g412L0e];simp[hn1,e1]
theorem c421{SH:Sh}(hn:∀aF ts,aW aF ts SH=(SH,aF,ts))(hs:∀n,dS n SH=SH){b c:Nat}{t:List UInt8}{l:List (List UInt8)}(hS:Sm l)(ha:SH[b]?=some (some (tx l)))(hb:SH[c]?=some (some [.pv (.str t)]))(hc:c<SH.length) :
   (aC AP).i 421 [.aM b 1 l.length false,.fn 413 [.a_ c 0]] SH []=some ([.pv (vI (iK (bD (fun x=>decide (x=t)) l)))],SH,[]):=by
 have h:=Mj hn hs hS ha hb hc _ 0 rfl (by omega);simp at h;rw[aH (af:=n_ 1 false) rfl (by simp[n_])];cases hi:bD (fun x=>decide (x=t)) l with
 |none=>rw[hi]at h;simp at h;simp[n_,h,hn,iK]
 |some k=>rw[hi]at h;simp at h;simp[n_,h,hn,iK]
theorem AG{α:Type}{p:α→Bool}:∀{l:List α},bD p l=none→l.filter (fun x=>!p x)=l
 |[],_=>rfl
 |x::r,h=>by
   simp only[bD]at h;split at h
   ·simp at h
   · rename_i e;cases h':bD p r with
     |none=>simp[e,AG h']
     |some k=>rw[h']at h;simp at h
theorem AH{α:Type}{p:α→Bool}:∀{l:List α} {k:Nat},bD p l=some k→k<l.length∧l.filter (fun x=>!p x)=l.take k++(l.drop (k+1)).filter (fun x=>!p x)
 |[],_,h=>by simp[bD]at h
 |x::r,k,h=>by
   simp only[bD]at h;split at h
   ·rename_i e;simp at h;subst h;simp[e]
   · rename_i e;cases h':bD p r with
     |none=>rw[h']at h;simp at h
     |some k'=>
       rw[h']at h;simp at h;subst h;obtain⟨h1,h2⟩:=AH h';exact⟨by simpa using h1,by simp[e,h2]⟩
theorem Gw{a:List (List UInt8)}{i N:Nat}(hN:a.length=N)(h:i≤N):aQ (tx a) i ((List.replicate (N-i) [AV.pv (.str [])]).flatten)=tx (a.take i++List.replicate (N-i) []):=by
 have e:∀k,(List.replicate k [AV.pv (.str [])]).flatten=List.replicate k (AV.pv (.str [])):=by
   intro k;induction k with
   |zero=>rfl
   |succ k ih=>simp only[List.replicate_succ,List.flatten_cons,ih];rfl
 rw[e,eR,List.drop_eq_nil_of_le (by rw[lg];simp;omega)];simp[tx,List.map_take]
theorem c412{X:Sh}(hX:aJ X){t:List UInt8}{l:List (List UInt8)}(hS:Sm l):∃a:List (List UInt8),a.length=l.length∧a.take (l.filter fun x=>!decide (x=t)).length=l.filter (fun x=>!decide (x=t)) ∧
   (aC AP).i 412 [.aM X.length 1 l.length false,.fn 413 [.a_ (X.length+1) 0]] (SA X l t) []=some ([.aM X.length 1 (l.filter fun x=>!decide (x=t)).length false],SA X a t,[]):=by
 have hS':=hS;unfold Sm at hS';have hn:=(ej hX (l:=l) (t:=t)).norm;have hs:=(ej hX (l:=l) (t:=t)).shift;have k:=c421 hn hs (b:=X.length) (c:=X.length+1) hS zD Gr (by rw[tt];omega);have hlen:=tt (X:=X) (l:=l) (t:=t);cases hi:bD (fun x=>decide (x=t)) l with
 |none=>
   rw[hi]at k;have hf:=AG hi;refine⟨l,rfl,by rw[hf];simp,?_⟩;rw[hf,aH (af:=g412) rfl (by simp[g412])];generalize SA X l t=SH at hn hs k hlen⊢;simp[iK]at k;have ht:SH.take SH.length=SH:=List.take_length;simp[-getElem?_pos,g412,hn,hs,k,iK,hlen];rw[←hlen,ht];simp[hn]
 |some i0=>
   rw[hi]at k;obtain⟨h0,hf⟩:=AH hi;obtain⟨a',i',e1,e2,e3,e4⟩:=Kw hX (t:=t) (N:=l.length) (by omega) _ (i0+1) rfl (by omega) l i0 rfl (by omega);rw[←hf]at e4;have hi':(l.filter fun x=>!decide (x=t)).length=i':=by rw[←e4];simp;omega
   refine⟨a'.take i'++List.replicate (l.length-i') [],by simp;omega,?_,?_⟩
   ·rw[hi',←e4,List.take_append_of_le_length (by simp;omega),List.take_take];simp
   · rw[hi',aH (af:=g412) rfl (by simp[g412])];have hn1:=(ej hX (l:=a') (t:=t)).norm;have hn2:=(ej hX (l:=a'.take i'++List.replicate (l.length-i') []) (t:=t)).norm;have hB:bU (tx a')=false:=bT jX;have hA:=zD (X:=X) (l:=a') (t:=t);have htl:(tx a').length=l.length:=by rw[lg,e2]
     have hcl:=Gw e2 e3;have hset:=Gs (X:=X) (l:=a') (l':=a'.take i'++List.replicate (l.length-i') []) (t:=t);have hl2:=tt (X:=X) (l:=a'.take i'++List.replicate (l.length-i') []) (t:=t);generalize SA X (a'.take i'++List.replicate (l.length-i') []) t=S2 at hn2 hset hl2⊢;generalize SA X a' t=S1 at hn1 hA hset e1;generalize SA X l t=SH at hn hs k hlen e1⊢;generalize tx (a'.take i'++List.replicate (l.length-i') [])=T2 at hcl hset;have ht:S2.take S2.length=S2:=List.take_length;rw[g412L0e]at e1;simp[hn]at e1;have hi0:¬((i0:Int)=-1):=(by omega);have hle:i'+(l.length-i')≤l.length:=(by omega);rcases Nat.eq_zero_or_pos i' with hz|hz
     ·subst hz;simp at hcl;simp (disch:=omega) [-getElem?_pos,g412,hn,hs,k,iK,hi0,aw,g412L0e,e1,iD,cH,hA,hB,htl,hcl,hset,hlen];rw[←hl2,ht];simp[hn2]
     ·have hz':¬((i':Int)=0):=(by omega);have hz2:¬i'=0:=(by omega);simp[e3]at hcl;simp (disch:=omega) [-getElem?_pos,g412,hn,hs,k,iK,hi0,aw,g412L0e,e1,iD,cH,hz',hz2,e3,hA,hB,htl,hle,hcl,hset,hlen];rw[←hl2,ht];simp[hn2]
def ki(l:List (List UInt8))(t:List UInt8):List (List UInt8):=(l.filter fun x=>!decide (x=t))++[t]
theorem c412e{SH:Sh}(hn:∀aF ts,aW aF ts SH=(SH,aF,ts))(hs:∀n,dS n SH=SH){c:Nat} :
   (aC AP).i 412 [.own [] 0,.fn 413 [.a_ c 0]] SH [0]=some ([.own [] 0],SH,[0]):=by
 have k:(aC AP).i 421 [.pv (.az []),.fn 413 [.a_ c 0]] SH []=some ([.pv (vI (-1))],SH,[]):=by
   rw[aH (af:=n_ 1 false) rfl (by simp[n_])];simp[n_,hn,l7,tm]
 rw[aH (af:=g412) rfl (by simp[g412])];have ht:SH.take SH.length=SH:=List.take_length;simp[-getElem?_pos,g412,hn,hs,k,ht]
def wO(X:Sh)(l:List (List UInt8)):AV:=if l=[] then .own [] 0 else .aM X.length 1 l.length false
def tW(X:Sh)(l:List (List UInt8)):Sh:=if l=[] then X else X++[some (tx l)]
def wP(l:List (List UInt8)):aD:=if l=[] then [0] else []
theorem Gx{e:List AV}(he:∀v∈e,∃p,v=AV.pv p){i9 i22:Int}{p20:PV}{n21:Int}{V:List (List UInt8)}(hV:V.length<1000000):∀(n j:Nat),V.length-j=n→j≤V.length→∀(X:Sh) (l:List (List UInt8)),aJ X→l.length+n<1000000000→∃X',aJ X' ∧
   cl AP g404L1 ⟨[(2,.aK 2 0),(7,wO X l),(9,.pv (vI i9)),(20,.pv p20),(21,.pv (vI n21)),(22,.pv (vI i22)),(28,.pv (.az (V.map .str))),(29,.pv (vI V.length)),(30,.pv (vI j))],[(2,e)],tW X l,wP l⟩ =
     some (.exit 2,⟨[(2,.aK 2 0),(7,wO X' ((V.drop j).foldl ki l)),(9,.pv (vI i9)),(20,.pv p20),(21,.pv (vI n21)),(22,.pv (vI i22)),(28,.pv (.az (V.map .str))),(29,.pv (vI V.length)),(30,.pv (vI V.length)),(31,.pv (.bool false))],[(2,e)],tW X' ((V.drop j).foldl ki l),wP ((V.drop j).foldl ki l)⟩)
 |0,j,hk,hj,X,l,hX,hl=>by
   have:j=V.length:=by omega
   subst this;refine⟨X,hX,?_⟩;rw[List.drop_length];simp only[List.foldl_nil];have hn:=hX.norm;have he':∀aF ts,aZ aF ts e=(e,aF,ts):=fun aF ts=>l4 he
   by_cases h0:l=[]
   ·rw[g404L1e];simp[g404B1,wO,tW,wP,h0,hn,he']
   ·have hn1:∀aF ts,aW aF ts (X++[some (tx l)])=(X++[some (tx l)],aF,ts):=(hX.app (aJ.one jX)).norm;rw[g404L1e];simp only[wO,tW,wP,if_neg h0];generalize X++[some (tx l)]=S1 at hn1;simp[g404B1,hn1,he']
 |n+1,j,hk,hj,X,l,hX,hl=>by
   have hj:j<V.length:=(by omega);obtain⟨t,ht⟩:=bl hj;have he':∀aF ts,aZ aF ts e=(e,aF,ts):=fun aF ts=>l4 he
   have hn:=hX.norm;have hs:=hX.shift;have huf:(l.filter fun x=>!decide (x=t)).length≤l.length:=List.length_filter_le _ _;have hul:(ki l t).length≤l.length+1:=(by simp[ki,huf]);rw[aX ht,List.foldl_cons];by_cases h0:l=[]
   · subst h0;have hXB:aJ (X++[some [.pv (.str t)]]):=hX.app (aJ.one (by intro v hv;simp at hv;exact⟨_,hv⟩));have k:=c412e hXB.norm hXB.shift (c:=X.length);obtain⟨X',hX',ih⟩:=Gx he (i9:=i9) (i22:=i22) (p20:=p20) (n21:=n21) hV n (j+1) (by omega) (by omega) (X++[some [.pv (.str t)]]) [t] hXB (by simp at hl⊢;omega);refine⟨X',hX',?_⟩;have eu:ki [] t=[t]:=by simp[ki]
     rw[eu]
     have hn2:∀aF ts,aW aF ts (X++[some [.pv (.str t)],some [.pv (.str t)]])=(X++[some [.pv (.str t)],some [.pv (.str t)]],aF,ts):=by
       have:=(hXB.app (aJ.one (cs:=[AV.pv (.str t)]) (by intro v hv;simp at hv;exact⟨_,hv⟩))).norm;simpa using this
     have hn1:=hXB.norm;have hs1:=hXB.shift;generalize (V.drop (j+1)).foldl ki [t]=r at ih⊢;rw[g404L1e]at ih⊢;simp[wO,tW,wP,he',tx,hn2]at ih⊢;simp (disch:=omega) [-getElem?_pos,g404B1,ht,hj,hn,hn1,hs1,he',k,aw];rw[g404L1e];simp[he',hn2,ih]
   · obtain⟨a,a1,a2,k⟩:=c412 hX (t:=t) (l:=l) (by unfold Sm;omega);have hXN:aJ (X++[none,some [.pv (.str t)]]):=hX.app (by intro cs hc v hv;simp at hc;subst hc;simp at hv;exact⟨_,hv⟩);obtain⟨X',hX',ih⟩:=Gx he (i9:=i9) (i22:=i22) (p20:=p20) (n21:=n21) hV n (j+1) (by omega) (by omega) (X++[none,some [.pv (.str t)]]) (ki l t) hXN (by omega);refine⟨X',hX',?_⟩;have hup:ki l t≠[]:=by simp[ki]
     have hn0:∀aF ts,aW aF ts (X++[some (tx l)])=(X++[some (tx l)],aF,ts):=(hX.app (aJ.one jX)).norm;have hn1:=(ej hX (l:=l) (t:=t)).norm;have hn2:=(ej hX (l:=a) (t:=t)).norm;have hs2:=(ej hX (l:=a) (t:=t)).shift
     have hn3:∀aF ts,aW aF ts (X++[none,some [.pv (.str t)],some (tx (ki l t))])=(X++[none,some [.pv (.str t)],some (tx (ki l t))],aF,ts):=by
       have:=(hXN.app (aJ.one (cs:=tx (ki l t)) jX)).norm;simpa using this
     have hB:bU (tx a)=false:=bT jX;have htl:(tx a).length=l.length:=(by rw[lg,a1]);have hul2:(ki l t).length=(l.filter fun x=>!decide (x=t)).length+1:=by simp[ki]
     have htx:tx (ki l t)=(tx a).take (l.filter fun x=>!decide (x=t)).length++[.pv (.str t)]:=by
       have:(tx a).take (l.filter fun x=>!decide (x=t)).length=tx (l.filter fun x=>!decide (x=t)):=by
         conv=>rhs;rw[←a2]
         simp[tx,List.map_take]
       rw[this];simp[tx,ki]
     have g0:∀u v:Option (List AV),(X++[u,v])[X.length]?=some u:=fun u v=>by simp
     have g1:∀u v:Option (List AV),(X++[u,v])[X.length+1]?=some v:=fun u v=>by simp
     have s0:∀u v w:Option (List AV),(X++[u,v]).set X.length w=X++[w,v]:=fun u v w=>by simp
     have s1:∀u v w:Option (List AV),(X++[u,v]).set (X.length+1) w=X++[u,w]:=fun u v w=>by simp
     unfold SA at k hn1 hn2 hs2;simp only[wO,tW,wP,if_neg h0,if_neg hup]at ih⊢;generalize (V.drop (j+1)).foldl ki (ki l t)=r at ih⊢;rw[hul2]at ih;generalize (l.filter fun x=>!decide (x=t)).length=K at k htx ih huf;have hb1:(K+1)*16≤140737488355328:=by omega
     have hb2:K≤l.length:=huf;generalize tx (ki l t)=TU at htx hn3 ih;generalize tx a=TA at k hn2 hs2 hB htl htx;generalize tx l=TL at k hn0 hn1⊢;generalize (if r=[] then AV.own [] 0 else AV.aM X'.length 1 r.length false)=VR at ih⊢;generalize (if r=[] then X' else X'++[some (tx r)])=SR at ih⊢;generalize (if r=[] then ([0]:aD) else [])=TR at ih⊢;rw[g404L1e]at ih⊢;simp[he',hn3]at ih;simp (disch:=omega) [-getElem?_pos,g404B1,ht,hj,hn0,hn1,hn2,hs2,he',k,aw,hB,htl,hb1,hb2,g0,g1,s0,s1,←htx];rw[g404L1e];simp[he',hn3,ih]
theorem Mn{s:List bM}(hS:Sm s){y:bM}:∀(n i:Nat),s.length-i=n→i≤s.length →
   cl AP g364L0 ⟨[(0,.pv (.az (s.map .str))),(1,.pv (.str y)),(5,.pv (vI i))],[],[],[]⟩ =
     if y∈s.drop i then some (.ret,⟨[(4,.pv (.bool true))],[],[],[]⟩)
     else some (.exit 0,⟨[(0,.pv (.az (s.map .str))),(1,.pv (.str y)),(5,.pv (vI s.length)),(9,.pv (.bool false))],[],[],[]⟩)
 |0,i,hn,hi=>by
   have:i=s.length:=by omega
   subst this;rw[g364L0e];simp[g364B0]
 |n+1,i,hn,hi=>by
   have hi:i<s.length:=(by omega);obtain⟨x,hx⟩:=bl hi;unfold Sm at hS;have ih:=Mn hS (y:=y) n (i+1) (by omega) (by omega);simp at ih;rw[g364L0e,aX hx];by_cases e:x=y
   ·subst e;simp (disch:=omega) [-getElem?_pos,g364B0,hx,hi]
   ·have e':¬y=x:=fun h=>e h.symm;simp (disch:=omega) [-getElem?_pos,g364B0,hx,hi,e,e',aw,ih]
theorem c364{s:List bM}(hS:Sm s){y:bM}:(aC AP).p 364 [.az (s.map .str),.str y]=some [.bool (decide (y∈s))]:=by
 have h:=Mn hS (y:=y) _ 0 rfl (by omega);simp at h;rw[ah (af:=g364) rfl rfl (by decide)];by_cases e:y∈s<;>simp[e]at h<;>simp[g364,h,e]
noncomputable def cU:List bM→List bM
 |[]=>[]
 |x::r=>if x∈r then cU r else x::cU r
theorem Kx{s:List bM}(hS:s.length<1000000000):∀(n i:Nat),s.length-i=n→i≤s.length→∀acc:List bM,acc.length≤i →
   cl AP g440L0 ⟨[(0,.pv (.az (s.map .str))),(3,.own (acc.map .str) 0),(4,.pv (vI i))],[],[],[acc.length]⟩ =
     some (.exit 0,⟨[(0,.pv (.az (s.map .str))),(3,.own ((acc++cU (s.drop i)).map .str) 0),(4,.pv (vI s.length)),(8,.pv (.bool false))],[],[],[(acc++cU (s.drop i)).length]⟩)
 |0,i,hn,hi,acc,hl=>by
   have:i=s.length:=by omega
   subst this;rw[g440L0e];simp[g440B0,cU]
 |n+1,i,hn,hi,acc,hl=>by
   have hi:i<s.length:=(by omega);obtain⟨x,hx⟩:=bl hi;have c:=c364 (s:=s.drop (i+1)) (by unfold Sm;simp;omega) (y:=x);rw[List.map_drop]at c;have hb:(acc.length+1)*16≤140737488355328:=(by omega);have hle:(i:Int)+1≤s.length:=by omega
   have hsl:bH false 1 true false false [.pv (.az (s.map .str)),.pv (.int .i64 ((i:Int)+1))]=some (.pv (.az ((s.map PV.str).drop (i+1)))):=by
     have h0:(0:Int)≤(i:Int)+1:=(by omega);have h1:((i:Int)+1).toNat=i+1:=(by omega);have h2:a0 1 (s.map PV.str)=true:=jg.head s;simp[bH,cH,cr,hle,h0,h1,h2];rw[List.take_of_length_le (by simp)]
   rw[aX hx,g440L0e];by_cases e:x∈s.drop (i+1)
   ·have ih:=Kx hS n (i+1) (by omega) (by omega) acc (by omega);simp only[cU,if_pos e];rw[decide_eq_true e]at c;simp at ih;simp (disch:=omega) [-getElem?_pos,g440B0,hx,hi,aw,hsl,c,ih]
   ·have ih:=Kx hS n (i+1) (by omega) (by omega) (acc++[x]) (by simp;omega);simp only[cU,if_neg e];rw[decide_eq_false e]at c;simp at ih;simp (disch:=omega) [-getElem?_pos,g440B0,hx,hi,aw,hsl,c,hb,ih]
theorem c440{s:List bM}(hS:s.length<1000000000):(aC AP).p 440 [.az (s.map .str)]=some [.az ((cU s).map .str)]:=by
 have h:=Kx hS _ 0 rfl (by omega) [] (by simp);simp at h;rw[ah (af:=g440) rfl rfl (by decide)];rw[g440L0e]at h;simp at h;simp[g440,g440L0e,h]
inductive Ex.One:Ex→Prop
 |mk {e:Ex}:(e.kind=8→e.kids.length=1)→(∀x∈e.ch,x.One)→e.One
theorem Ex.One.h{e:Ex}(h:e.One):e.kind=8→e.kids.length=1:=by cases h;assumption
theorem Ex.One.c{e:Ex}(h:e.One):∀x∈e.ch,x.One:=by cases h;assumption
def Ex.tv:Ex→List Int→List bM
 |_,[]=>[]
 |e,i::r=>cN e i.toNat++match e.ch[i.toNat]? with|some x=>x.tv r|none=>[]
theorem gX{e:Ex}{i:Nat}(h:e.Ok):(cN e i).length≤1000:=by
 unfold cN;split
 ·simp
 · split
   · cases hx:e.aB[i-1]? with
     |none=>simp
     |some a=>exact h.v a (bE hx)
   ·simp
theorem tw{e:Ex}{k:Int}{r:List Int}{y:Ex}(h:e.at (k::r)=some y):∃(m:Nat) (x:Ex),k=m∧m<e.ch.length∧e.ch[m]?=some x∧x.at r=some y:=by
 simp only[Ex.at]at h;split at h
 ·rename_i h1;obtain⟨m,rfl,hm⟩:=Ko h1.1 h1.2;obtain⟨x,hx⟩:=bl hm;simp[hx]at h;exact⟨m,x,rfl,hm,hx,h⟩
 ·cases h
theorem Mo{p:List Int}(hp:p.length<1000000){y:Ex}:∀(n i:Nat),p.length-i=n→i≤p.length→∀(e:Ex) (acc:List bM),e.Ok→e.One→e.at (p.drop i)=some y→acc.length≤i*1000→∃q:List AV,
   cl AP g432L0 ⟨[(1,.pv (.az (p.map vI))),(2,.aK 2 0),(7,.own (acc.map .str) 0),(8,.pv (vI i))],[(2,e.cl)],[],[acc.length]⟩ =
     some (.exit 0,⟨[(1,.pv (.az (p.map vI))),(2,.aK 2 0),(7,.own ((acc++e.tv (p.drop i)).map .str) 0),(8,.pv (vI p.length)),(20,.pv (.bool false))],[(2,q)],[],[(acc++e.tv (p.drop i)).length]⟩)
 |0,i,hn,hi,e,acc,he,h1,ha,hl=>by
   have:i=p.length:=by omega
   subst this;refine⟨e.cl,?_⟩;rw[g432L0e];simp[g432B0,Ex.tv]
 |n+1,i,hn,hi,e,acc,he,h1,ha,hl=>by
   have hi:i<p.length:=(by omega);obtain⟨k,hk⟩:=bl hi;rw[aX hk]at ha⊢;obtain⟨m,x,rfl,hm,hx,hy⟩:=tw ha;have hbl:=gX he (i:=m);obtain⟨q,ih⟩:=Mo hp n (i+1) (by omega) (by omega) x (acc++cN e m) (he.c x (bE hx)) (h1.c x (bE hx)) hy (by simp;omega);refine⟨q,?_⟩;have c:=c145 he;have c2:=c380 hm h1.h he;simp at c c2;rw[g432L0e];simp only[Ex.tv,Int.toNat_natCast,hx];simp at ih;have hb:(acc.length+(cN e m).length)*16≤140737488355328:=(by omega);have hb0:acc.length*16≤140737488355328:=(by omega);generalize e.ch=C at *;generalize hB:cN e m=B at *;by_cases h0:B=[]
   ·subst h0;simp at ih;simp (disch:=omega) [-getElem?_pos,g432B0,hk,hi,aw,c,c2,hx,hm,hb0,ih]
   ·simp (disch:=omega) [-getElem?_pos,g432B0,hk,hi,aw,c,c2,hx,hm,hb,h0,ih]
theorem tz{y:Ex}:∀{p:List Int} {e:Ex},e.Ok→e.at p=some y→(e.tv p).length≤p.length*1000
 |[],_,_,_=>by simp[Ex.tv]
 |k::r,e,h,ha=>by
   obtain⟨m,x,rfl,hm,hx,hy⟩:=tw ha;have:=tz (h.c x (bE hx)) hy;have:=gX h (i:=m);simp only[Ex.tv,Int.toNat_natCast,hx,List.length_append,List.length_cons];omega
noncomputable def tB(e:Ex)(p:List Int):List bM:=match e.at p with|some _=>cU (e.tv p)|none=>[]
theorem c432{e:Ex}(he:e.Ok)(h1:e.One){p:List Int}(hp:p.length<1000000):(aC AP).p 432 [e.pv,.az (p.map vI)]=some [.az ((tB e p).map .str)]:=by
 have c:=c439 he (p:=p) (by unfold Sm;omega);rw[ah (af:=g432) rfl rfl (by decide)];unfold tB;cases hx:e.at p with
 |none=>
   rw[hx]at c;simp[atR,Ku,d9]at c;simp[g432,c]
 |some y=>
   rw[hx]at c;simp[atR]at c;obtain⟨q,h⟩:=Mo hp _ 0 rfl (by omega) e [] he h1 hx (by simp);have hl:=tz he hx;have c2:=c440 (s:=e.tv p) (by omega);simp at h c2;rw[g432L0e]at h;simp at h;simp[g432,c,g432L0e,h,c2]
theorem Ja{p:List Int}(hp:p.length<100000){y:Ex}:∀(n i:Nat),p.length-i=n→i≤p.length→∀(e:Ex) (X:Sh) (l:List bM),e.Ok→e.One→aJ X→e.at (p.drop i)=some y→l.length≤i*1000→∃(X':Sh) (q:List AV),aJ X' ∧
   cl AP g404L0 ⟨[(2,.aK 2 0),(7,wO X l),(20,.pv (.az (p.map vI))),(21,.pv (vI p.length)),(22,.pv (vI i))],[(2,e.cl)],tW X l,wP l⟩ =
     some (.exit 0,⟨[(2,.aK 2 0),(7,wO X' ((e.tv (p.drop i)).foldl ki l)),(20,.pv (.az (p.map vI))),(21,.pv (vI p.length)),(22,.pv (vI p.length)),(23,.pv (.bool false))],[(2,q)],tW X' ((e.tv (p.drop i)).foldl ki l),wP ((e.tv (p.drop i)).foldl ki l)⟩)
 |0,i,hn,hi,e,X,l,he,h1,hX,ha,hl=>by
   have:i=p.length:=by omega
   subst this;refine⟨X,e.cl,hX,?_⟩;have hnX:=hX.norm;have hn1:∀aF ts,aW aF ts (X++[some (tx l)])=(X++[some (tx l)],aF,ts):=(hX.app (aJ.one jX)).norm;rw[g404L0e];by_cases h0:l=[]
   ·subst h0;simp[g404B0,Ex.tv,wO,tW,wP,hnX]
   ·simp only[List.drop_length,Ex.tv,List.foldl_nil,wO,tW,wP,if_neg h0];generalize X++[some (tx l)]=S1 at *;simp[g404B0,hn1]
 |n+1,i,hn,hi,e,X,l,he,h1,hX,ha,hl=>by
   have hi:i<p.length:=(by omega);obtain⟨k,hk⟩:=bl hi;rw[aX hk]at ha⊢;obtain⟨m,x,rfl,hm,hx,hy⟩:=tw ha;have hbl:=gX he (i:=m);have hep:∀v∈e.cl,∃p,v=AV.pv p:=by intro v hv;simp at hv;rcases hv with rfl|rfl|rfl|rfl|rfl|rfl|rfl|rfl|rfl|rfl|rfl<;>exact⟨_,rfl⟩
   obtain⟨X1,hX1,e1⟩:=Gx hep (i9:=m) (i22:=i) (p20:=.az (p.map vI)) (n21:=p.length) (V:=cN e m) (by omega) _ 0 rfl (by omega) X l hX (by omega)
   have hul:∀(V l:List bM),(V.foldl ki l).length≤l.length+V.length:=by
     intro V;induction V with
     |nil=>intro l;simp
     |cons t r ih=>
       intro l;have:=ih (ki l t);have hf:(l.filter fun x=>!decide (x=t)).length≤l.length:=List.length_filter_le _ _;have:(ki l t).length≤l.length+1:=by simp[ki,hf]
       simp only[List.foldl_cons,List.length_cons];omega
   have hl1:=hul (cN e m) l;obtain⟨X',q,hX',ih⟩:=Ja hp n (i+1) (by omega) (by omega) x X1 ((cN e m).foldl ki l) (he.c x (bE hx)) (h1.c x (bE hx)) hX1 hy (by omega);refine⟨X',q,hX',?_⟩;have c:=c414 he;have c2:=c411 hm h1.h he;simp only[Ex.tv,Int.toNat_natCast,hx,List.foldl_append];rw[List.drop_zero]at e1;generalize hL:(x.tv (p.drop (i+1))).foldl ki ((cN e m).foldl ki l)=r at ih⊢;generalize (cN e m).foldl ki l=l1 at e1 ih hl1
   have hnv:∀{X:Sh} {l:List bM},aJ X→∀aF ts,aW aF ts (tW X l)=(tW X l,aF,ts):=by
     intro X l hX aF ts;unfold tW;by_cases h0:l=[]
     ·rw[if_pos h0];exact hX.norm aF ts
     ·rw[if_neg h0];exact (hX.app (aJ.one jX)).norm aF ts
   have hn1:=hnv hX (l:=l);have hn2:=hnv hX1 (l:=l1)
   have vcase:∀(X:Sh) (l:List bM),(wO X l=.own [] 0∧wP l=[0])∨(∃b z k g,wO X l=.aM b z k g∧wP l=[]):=by
     intro X l;unfold wO wP;by_cases h0:l=[]
     ·left;simp[h0]
     ·right;exact⟨X.length,1,l.length,false,by simp[h0],by simp[h0]⟩
   rw[g404L0e]at ih⊢;rw[g404L1e]at e1;generalize e.ch=C at *;generalize cN e m=B at *;simp at c c2
   rcases vcase X l with⟨v1,t1⟩|⟨b1,z1,k1,f1,v1,t1⟩<;>rcases vcase X1 l1 with⟨v2,t2⟩|⟨b2,z2,k2,f2,v2,t2⟩<;>simp only[v1,t1,v2,t2]at e1 ih⊢<;>generalize tW X l=S0 at*<;> generalize tW X1 l1=S1 at*<;> generalize tW X' r=S2 at*<;> generalize wO X' r=V2 at*<;> generalize wP r=T2 at*<;>
     simp[hn1,hn2]at e1 ih⊢ <;>
     simp (disch:=omega) [-getElem?_pos,g404B0,hk,hi,aw,c,c2,hx,hm,hn1,hn2,g404L1e,e1]<;>rw[g404L0e]<;>simp[hn2,ih]
theorem jk(t:bM):∀l:List bM,cU (l++[t])=(cU l).filter (fun x=>!decide (x=t))++[t]
 |[]=>by simp[cU]
 |x::r=>by
   simp only[List.cons_append,cU,List.mem_append,List.mem_singleton];by_cases e:x∈r
   ·simp[e,jk t r]
   · by_cases e2:x=t
     ·subst e2;simp[e,jk x r]
     ·simp[e,e2,jk t r]
theorem DJ(l:List bM):l.foldl ki []=cU l:=by
 have:∀k,∀l:List bM,l.length=k→l.foldl ki []=cU l:=by
   intro k;induction k with
   |zero=>intro l h;have:=List.length_eq_zero_iff.1 h;subst this;simp[cU]
   |succ k ih=>
     intro l h;have hne:l≠[]:=by intro e;subst e;simp at h
     obtain⟨r,t,rfl⟩:∃r t,l=r++[t]:=⟨l.dropLast,l.getLast hne,(List.dropLast_concat_getLast hne).symm⟩;rw[List.foldl_append,ih r (by simpa using h),jk];rfl
 exact this _ l rfl
theorem Gy:∀r:List bM,eV (tx r)=some (r.map .str)
 |[]=>rfl
 |t::r=>by
   have ih:=Gy r;unfold tx at ih⊢;simp only[List.map_cons,eV,jC,ih]
theorem c404{e:Ex}(he:e.Ok)(h1:e.One){p:List Int}(hp:p.length<100000):(aC AP).p 404 [e.pv,.az (p.map vI)]=some [.az ((tB e p).map .str)]:=by
 have c:=c410 he (p:=p) (by unfold Sm;omega);rw[ah (af:=g404) rfl rfl (by decide)];unfold tB;cases hx:e.at p with
 |none=>
   rw[hx]at c;simp[atR,Ku,d9]at c;simp[g404,c]
 |some y=>
   rw[hx]at c;simp[atR]at c;obtain⟨X',q,hX',h⟩:=Ja hp _ 0 rfl (by omega) e [] [] he h1 (by intro cs h;simp at h) hx (by simp);rw[List.drop_zero,DJ]at h;generalize cU (e.tv p)=r at *;have hn:=hX'.norm;have hn1:∀aF ts,aW aF ts (X'++[some (tx r)])=(X'++[some (tx r)],aF,ts):=(hX'.app (aJ.one jX)).norm;have hfr:=Gy r;have hlen:=lg (l:=r);rw[g404L0e]at h;by_cases h0:r=[]
   ·subst h0;simp[wO,tW,wP]at h;simp[g404,c,g404L0e,h]
   ·simp[wO,tW,wP,h0]at h;generalize tx r=T at *;simp[g404,c,g404L0e,h,hfr,hlen,dy]
def mV:Nat→List Nat→Nat
 |m,[]=>m
 |m,d::r=>mV (max m (1+d)) r
theorem zF{B:Nat}:∀{l:List Nat} {m:Nat},m≤B→(∀d∈l,1+d≤B)→mV m l≤B
 |[],_,h,_=>h
 |d::r,m,h,hl=>zF (l:=r) (m:=max m (1+d)) (Nat.max_le.2 ⟨h,hl d (by simp)⟩) fun x hx=>hl x (by simp[hx])
def Ex.dp(e:Ex):Nat:=mV 0 (e.ch.attach.map fun x=>x.1.dp)
termination_by SizeOf.sizeOf e
decreasing_by exact Ex.ji x.2
theorem Ex.ju(e:Ex):e.dp=mV 0 (e.ch.map Ex.dp):=by
 rw[Ex.dp,List.map_attach_eq_pmap,List.pmap_eq_map]
theorem Ex.AI(e:Ex):e.dp<e.sz:=by
 refine Ex.recC (p:=fun e=>e.dp<e.sz) ?_ e;intro e ih;rw[Ex.ju];have hp:=e.jZ
 have:mV 0 (e.ch.map Ex.dp)≤e.sz-1:=zF (by omega) (by
   intro d hd;rw[List.mem_map]at hd;obtain⟨x,hx,rfl⟩:=hd;have h1:=ih x hx;have h2:=Ex.jj hx;omega)
 omega
theorem Mp{ch:List Ex}(hN:ch.length≤1000000)(hB:∀x∈ch,x.dp≤100000000)(ih:∀x∈ch,(aC AP).p 547 [x.pv]=some [vI x.dp]):∀(n i:Nat),ch.length-i=n→i≤ch.length→∀m:Nat,m≤100000001 →
   cl AP g547L0 ⟨[(3,.pv (vI m)),(7,.pv (.az (ch.map Ex.pv))),(8,.pv (vI ch.length)),(9,.pv (vI i))],[],[],[]⟩ =
     some (.exit 0,⟨[(3,.pv (vI (mV m ((ch.drop i).map Ex.dp):Nat))),(7,.pv (.az (ch.map Ex.pv))),(8,.pv (vI ch.length)),(9,.pv (vI ch.length)),(10,.pv (.bool false))],[],[],[]⟩)
 |0,i,hn,hi,m,hm=>by
   have:i=ch.length:=by omega
   subst this;rw[g547L0e];simp[g547B0,mV]
 |n+1,i,hn,hi,m,hm=>by
   have hi:i<ch.length:=(by omega);obtain⟨x,hx⟩:=bl hi;have k:=ih x (bE hx);have hb:=hB x (bE hx);have e:=Mp hN hB ih n (i+1) (by omega) (by omega) (max m (1+x.dp)) (by omega);rw[aX hx,List.map_cons];simp only[mV];generalize mV (max m (1+x.dp)) ((ch.drop (i+1)).map Ex.dp)=M at *;generalize hd:x.dp=d at *;rw[g547L0e]at e⊢;simp at k e;by_cases q:m<1+d
   ·have q1:(m:Int)<1+d:=(by omega);rw[Nat.max_eq_right (by omega)]at e;simp at e;simp (disch:=omega) [-getElem?_pos,g547B0,hx,hi,k,aw,q1];rw[g547L0e];simp[e]
   ·have q1:¬(m:Int)<1+d:=(by omega);rw[Nat.max_eq_left (by omega)]at e;simp (disch:=omega) [-getElem?_pos,g547B0,hx,hi,k,aw,q1];rw[g547L0e];simp[e]
theorem c547(e:Ex):e.Ok→e.sz≤100000000→(aC AP).p 547 [e.pv]=some [vI e.dp]:=by
 refine Ex.recC (p:=fun e=>e.Ok→e.sz≤100000000→(aC AP).p 547 [e.pv]=some [vI e.dp]) ?_ e;intro e ih ho hs;have k:=c414 ho;have hN:e.ch.length≤1000000:=by rw[Ex.c_];have:=ho.k;have:=ho.a;omega
 rw[ah (af:=g547) rfl rfl (by decide)];rw[Ex.ju];have e1:=Mp hN (fun x hx=>by have:=x.AI;have:=Ex.jj hx;omega) (fun x hx=>ih x hx (ho.c x hx) (by have:=Ex.jj hx;omega)) _ 0 rfl (by omega) 0 (by omega);rw[List.drop_zero]at e1;generalize mV 0 (e.ch.map Ex.dp)=M at *;rw[g547L0e]at e1;simp at k e1;simp[g547,k,g547L0e,e1]
theorem Mq{ch:List Ex}(hN:ch.length≤1000000)(hB:∀x∈ch,x.dp≤100000000)(ih:∀x∈ch,(aC AP).p 143 [x.pv]=some [vI x.dp]):∀(n i:Nat),ch.length-i=n→i≤ch.length→∀m:Nat,m≤100000001 →
   cl AP g143L0 ⟨[(3,.pv (vI m)),(4,.pv (.az (ch.map Ex.pv))),(5,.pv (vI i))],[],[],[]⟩ =
     some (.exit 0,⟨[(3,.pv (vI (mV m ((ch.drop i).map Ex.dp):Nat))),(4,.pv (.az (ch.map Ex.pv))),(5,.pv (vI ch.length)),(11,.pv (.bool false))],[],[],[]⟩)
 |0,i,hn,hi,m,hm=>by
   have:i=ch.length:=by omega
   subst this;rw[g143L0e];simp[g143B0,mV]
 |n+1,i,hn,hi,m,hm=>by
   have hi:i<ch.length:=(by omega);obtain⟨x,hx⟩:=bl hi;have k:=ih x (bE hx);have hb:=hB x (bE hx);have e:=Mq hN hB ih n (i+1) (by omega) (by omega) (max m (1+x.dp)) (by omega);rw[aX hx,List.map_cons];simp only[mV];generalize mV (max m (1+x.dp)) ((ch.drop (i+1)).map Ex.dp)=M at *;generalize hd:x.dp=d at *;rw[g143L0e]at e⊢;simp at k e;by_cases q:m<1+d
   ·have q1:(m:Int)<1+d:=(by omega);rw[Nat.max_eq_right (by omega)]at e;simp at e;simp (disch:=omega) [-getElem?_pos,g143B0,hx,hi,k,aw,q1];rw[g143L0e];simp[e]
   ·have q1:¬(m:Int)<1+d:=(by omega);rw[Nat.max_eq_left (by omega)]at e;simp (disch:=omega) [-getElem?_pos,g143B0,hx,hi,k,aw,q1];rw[g143L0e];simp[e]
theorem c143(e:Ex):e.Ok→e.sz≤100000000→(aC AP).p 143 [e.pv]=some [vI e.dp]:=by
 refine Ex.recC (p:=fun e=>e.Ok→e.sz≤100000000→(aC AP).p 143 [e.pv]=some [vI e.dp]) ?_ e;intro e ih ho hs;have k:=c145 ho;have hN:e.ch.length≤1000000:=by rw[Ex.c_];have:=ho.k;have:=ho.a;omega
 rw[ah (af:=g143) rfl rfl (by decide)];rw[Ex.ju];have e1:=Mq hN (fun x hx=>by have:=x.AI;have:=Ex.jj hx;omega) (fun x hx=>ih x hx (ho.c x hx) (by have:=Ex.jj hx;omega)) _ 0 rfl (by omega) 0 (by omega);rw[List.drop_zero]at e1;generalize mV 0 (e.ch.map Ex.dp)=M at *;rw[g143L0e]at e1;simp at k e1;simp[g143,k,g143L0e,e1]
def Ty.dp(t:Ty):Nat:=mV 0 (t.args.attach.map fun x=>x.1.dp)
termination_by SizeOf.sizeOf t
decreasing_by
 have:=_root_.List.sizeOf_lt_of_mem x.2;cases t;simp at *;omega
theorem Ty.ju(t:Ty):t.dp=mV 0 (t.args.map Ty.dp):=by
 rw[Ty.dp,List.map_attach_eq_pmap,List.pmap_eq_map]
theorem Iy{sz:Nat}{l:List PV}{k:IntKind}{h:Int}(h0:0≤h)(h1:h≤l.length):bH false sz false true false [.pv (.az l),.pv (.int k h)]=some (.pv (.az (l.take h.toNat))):=by
 simp[bH,cr,cH,h0,h1]
def cV:List Ar→List Ex→List Ar
 |a::as,x::xs=>⟨a.pos,a.dx,a.vars,x⟩::cV as xs
 |as,_=>as
theorem gg:∀{as:List Ar} {xs:List Ex},(cV as xs).length=as.length
 |[],xs=>by cases xs<;>rfl
 |a::as,[]=>rfl
 |a::as,x::xs=>by simp[cV,gg (as:=as) (xs:=xs)]
def Ex.jA(e:Ex)(c:List Ex):Ex:=if c.length=e.kids.length+e.aB.length then ⟨e.kind,e.pos,e.name,e.num,c.take e.kids.length,cV e.aB (c.drop e.kids.length),e.ty⟩ else e
theorem tD{l:List Ar}:((eV (aI Ar.cells l)).bind (dy 14 true l.length)).map PV.az=some (.az (l.map Ar.pv)):=ma dW
theorem zG{l:List Ar}:((l.map Ar.pv).flatMap aS).map AV.pv=aI Ar.cells l:=mb dW
theorem Iz{c:List Ex}{n:Nat}(h:n≤c.length):bH false 11 false true false [.pv (.az (c.map Ex.pv)),.pv (.int .i64 (n:Int))]=some (.pv (.az ((c.map Ex.pv).take n))):=by
 have:=Iy (sz:=11) (l:=c.map Ex.pv) (k:=.i64) (h:=n) (by omega) (by simp;omega);simpa using this
theorem Jb{sz:Nat}{l:List PV}:bH false sz false true false [.pv (.az l),.pv (.int .i64 0)]=some (.pv (.az [])):=by
 simp[bH,cr,cH]
def Lk(e:Ex)(K:List Ex)(A:AV):List AV:=[.pv (vI e.kind),.pv (vI e.pos),.pv (.str e.name),.pv (vI e.num),.own (K.map Ex.pv) 3,A,.pv (vI e.ty.kind),.pv (.str e.ty.name),.pv (vI e.ty.id),.pv (vI e.ty.home),.pv (.az (e.ty.args.map Ty.pv))]
theorem Mr{e:Ex}{c K:List Ex}{n0 N:Nat}(hN:N≤1000)(hc:c.length=n0+N)(hn0:n0≤1000):∀(n i:Nat),N-i=n→i≤N→∀as:List Ar,as.length=N →
   cl AP g374L0 ⟨[(1,.pv (.az (c.map Ex.pv))),(4,.aK 4 0),(5,.pv (vI n0)),(6,.aK 6 0),(7,.pv (vI i))],[(4,zO),(6,Lk e K (.aM 0 14 N true))],[some (aI Ar.cells as)],[0,0,0,K.length]⟩ =
     some (.exit 0,⟨[(1,.pv (.az (c.map Ex.pv))),(4,.aK 4 0),(5,.pv (vI n0)),(6,.aK 6 0),(7,.pv (vI N)),(34,.pv (.bool false))],[(4,zO),(6,Lk e K (.aM 0 14 N true))],[some (aI Ar.cells (as.take i++cV (as.drop i) (c.drop (n0+i))))],[0,0,0,K.length]⟩)
 |0,i,hn,hi,as,ha=>by
   have:i=N:=by omega
   subst this;have hq:∀aF ts,aW aF ts [some (aI Ar.cells as)]=([some (aI Ar.cells as)],aF,ts):=(aJ.one aO).norm;rw[il (l:=as) (by omega),List.take_of_length_le (by omega)];simp only[cV,List.append_nil];generalize aI Ar.cells as=T at *;rw[g374L0e];simp[g374B0,Lk,zO,hq]
 |n+1,i,hn,hi,as,ha=>by
   have hi:i<N:=(by omega);obtain⟨a,hx⟩:=bl (l:=as) (i:=i) (by omega);obtain⟨x,hy⟩:=bl (l:=c) (i:=n0+i) (by omega);have hci:n0+i<c.length:=(by omega);have ih:=Mr (e:=e) (K:=K) hN hc hn0 n (i+1) (by omega) (by omega) (as.set i ⟨a.pos,a.dx,a.vars,x⟩) (by simpa using ha)
   have hset:=iq dW hx (y:=⟨a.pos,a.dx,a.vars,x⟩) (o:=3) (vs:=x.cells) (by rw[bg.len];omega) (by
     have h1:=bg.len a.body;have h2:=bg.len x;simp only[Ar.cells,List.take_succ_cons,List.take_zero,List.cons_append,List.nil_append,List.drop_succ_cons,List.drop_zero,h2];rw[List.drop_eq_nil_of_le (by simp[h1]),List.append_nil])
   rw[Ex.ir]at hset
   have hfin:as.take i++cV (as.drop i) (c.drop (n0+i))=(as.set i ⟨a.pos,a.dx,a.vars,x⟩).take (i+1)++cV ((as.set i ⟨a.pos,a.dx,a.vars,x⟩).drop (i+1)) (c.drop (n0+(i+1))):=by
     have h1:(as.set i ⟨a.pos,a.dx,a.vars,x⟩).take (i+1)=as.take i++[⟨a.pos,a.dx,a.vars,x⟩]:=by
       rw[List.set_eq_take_append_cons_drop,if_pos (by omega),List.take_append,List.take_of_length_le (by simp;omega)];have:i+1-(as.take i).length=1:=by simp;omega
       rw[this];rfl
     rw[h1,List.drop_set_of_lt (by omega),aX hx,aX hy];simp[cV,Nat.add_assoc]
   rw[hfin];generalize (as.set i ⟨a.pos,a.dx,a.vars,x⟩).take (i+1)++cV ((as.set i ⟨a.pos,a.dx,a.vars,x⟩).drop (i+1)) (c.drop (n0+(i+1)))=R at ih⊢;have hq:∀aF ts,aW aF ts [some (aI Ar.cells as)]=([some (aI Ar.cells as)],aF,ts):=(aJ.one aO).norm;have hq1:∀aF ts,aW aF ts [some (aI Ar.cells (as.set i ⟨a.pos,a.dx,a.vars,x⟩))]=([some (aI Ar.cells (as.set i ⟨a.pos,a.dx,a.vars,x⟩))],aF,ts):=(aJ.one aO).norm;have hB:bU (aI Ar.cells as)=false:=bT aO;have hlen:(aI Ar.cells as).length=N*14:=by rw[bc dW,ha]
   have hle:i*14+3+11≤N*14:=(by omega);generalize aI Ar.cells (as.set i ⟨a.pos,a.dx,a.vars,x⟩)=T1 at *;generalize aI Ar.cells as=T at *;have hil:((n0:Int)+i).toNat=n0+i:=(by omega);have hpos:¬((n0:Int)+i<0):=(by omega);rw[g374L0e]at ih⊢;simp[Lk,zO,hq1]at ih hset;simp (disch:=omega) [-getElem?_pos,g374B0,Lk,zO,hq,hi,hy,hci,hB,hlen,hle,hset,aw,hil,hpos];rw[g374L0e];simp[hq1,ih]
theorem mc{xs:List Ex}:cV [] xs=[]:=by cases xs<;>rfl
theorem c374{e:Ex}(hk:e.kids.length≤1000)(ha:e.aB.length≤1000){c:List Ex}:(aC AP).p 374 [e.pv,.az (c.map Ex.pv)]=some [(e.jA c).pv]:=by
 rw[ah (af:=g374) rfl rfl (by decide)];unfold Ex.jA;have hw:((e.kids.length:Int)+e.aB.length).toNat=e.kids.length+e.aB.length:=by omega
 by_cases hc:c.length=e.kids.length+e.aB.length
 · rw[if_pos hc];have hci:(c.length:Int)=(e.kids.length:Int)+e.aB.length:=by omega
   have hle:e.kids.length≤c.length:=(by omega);have hsl:=Iz hle;have hsl2:(c.take e.kids.length).length=e.kids.length:=(by simp;omega);have hb1:e.kids.length*152≤140737488355328:=(by omega);have hb2:e.aB.length*200≤140737488355328:=(by omega);have hz:e.kids.length=0↔c.take e.kids.length=[]:=(by rw[←List.length_eq_zero_iff,hsl2]);rw[←List.map_take]at hsl;by_cases hA:e.aB=[]
   · have hn:e.aB.length=0:=(by rw[hA];rfl);rw[hn]at hci;simp at hci;generalize hK:c.take e.kids.length=K at *;rw[hA,mc];by_cases hK0:K=[]
     ·subst hK0;have h0:=hz.2 rfl;simp[h0]at hci;simp (disch:=omega) [g374,g374L0e,g374B0,hA,hci,Jb,aw,h0]
     ·simp (disch:=omega) [g374,g374L0e,g374B0,hA,hci,hsl,aw,hK0,hsl2,hb1]
   · have h:=Mr (e:=e) (c:=c) (K:=c.take e.kids.length) ha hc hk _ 0 rfl (by omega) e.aB rfl;simp only[List.take_zero,List.drop_zero,List.nil_append,Nat.add_zero]at h;have hm:=zG (l:=e.aB);have hl:=tD (l:=cV e.aB (c.drop e.kids.length));have hlen:(aI Ar.cells (cV e.aB (c.drop e.kids.length))).length=e.aB.length*14:=(by rw[bc dW,gg]);rw[gg]at hl;have hq:∀aF ts,aW aF ts [some (aI Ar.cells e.aB)]=([some (aI Ar.cells e.aB)],aF,ts):=(aJ.one aO).norm;generalize cV e.aB (c.drop e.kids.length)=R at *;generalize aI Ar.cells R=TR at *;generalize hK:c.take e.kids.length=K at *;rw[g374L0e]at h;generalize aI Ar.cells e.aB=T at *;simp[Lk,zO,hq]at h;simp at hl;by_cases hK0:K=[]
     ·subst hK0;have h0:=hz.2 rfl;simp[h0]at h hci;simp (disch:=omega) [-getElem?_pos,g374,hA,hci,Jb,aw,h0,hb2,hm,hq,g374L0e,h,hlen,hl]
     ·simp only[hsl2]at h;simp (disch:=omega) [-getElem?_pos,g374,hA,hci,hsl,aw,hK0,hsl2,hb1,hb2,hm,hq,g374L0e,h,hlen,hl]
 · rw[if_neg hc];have hci:¬(c.length:Int)=(e.kids.length:Int)+e.aB.length:=by omega
   simp (disch:=omega) [g374,hci,aw]
theorem kj:aJ []:=by intro cs h;simp at h
theorem c414i{e:Ex}(h:e.Ok):∃k,(aC AP).i 414 [.pv e.pv] [] []=some (if e.ch=[] then ([.own [] 0],[],[0]) else ([.aM k 11 e.ch.length true],nn k++[some (aI Ex.cells e.ch)],[])):=by
 have hk:=h.k;have ha:=h.a;obtain⟨k,h2⟩:=Ix ha _ 0 rfl (by omega) [] e.kids kj (by omega);rw[List.drop_zero]at h2
 change cl AP g414L0 _=some (.exit 0,⟨[(3,hV ([]++nn k) e.ch),(10,.pv (.az (e.aB.map Ar.pv))),(11,.pv (vI e.aB.length)),(12,.pv (vI e.aB.length)),(13,.pv (.bool false))],[],hS ([]++nn k) e.ch,hT e.ch⟩)at h2
 rw[List.nil_append]at h2;have hb2:e.kids.length*152≤140737488355328:=by omega
 have hm:=mU (l:=e.kids);have hq0:∀aF ts,aW aF ts ([some (aI Ex.cells e.kids)])=([some (aI Ex.cells e.kids)],aF,ts):=(aJ.one aO).norm;have hq1:∀aF ts,aW aF ts (nn k)=(nn k,aF,ts):=(bt k).norm;have hq2:∀aF ts,aW aF ts (nn k++[some (aI Ex.cells e.ch)])=(nn k++[some (aI Ex.cells e.ch)],aF,ts):=((bt k).app (aJ.one aO)).norm;have hln:(nn k).length=k:=by simp
 refine⟨k,?_⟩;rw[aH (af:=g414) rfl (by simp[g414])];by_cases hc:e.ch=[]
 · have h0:e.kids=[]∧e.aB=[]:=by have:=hc;simpa[Ex.ch] using this
   simp only[hc,hV,hS,hT,if_true,h0.1]at h2⊢;rw[g414L0e]at h2;simp[h0.1,h0.2]at h2;simp[g414,h0.1,h0.2,g414L0e,h2,hq1]
 · by_cases h0:e.kids=[]
   ·simp only[hV,hS,hT,if_neg hc,h0,if_true,hln]at h2⊢;generalize nn k++[some (aI Ex.cells e.ch)]=S2 at *;generalize aI Ex.cells e.ch=F at *;rw[g414L0e]at h2;simp[h0]at h2;simp[-getElem?_pos,g414,h0,g414L0e,h2,hq2]
   ·simp only[hV,hS,hT,if_neg hc,if_neg h0,hln]at h2⊢;generalize nn k++[some (aI Ex.cells e.ch)]=S2 at *;generalize aI Ex.cells e.ch=F at *;generalize aI Ex.cells e.kids=F0 at *;rw[g414L0e]at h2;simp[hq0]at h2;simp[-getElem?_pos,g414,h0,hb2,hm,hq0,g414L0e,h2,hq2]
theorem Ky{e:Ex}{c:List Ex}{n0 N B0 B:Nat}(hN:N≤1000)(hc:c.length=n0+N)(hn0:n0≤1000){SA:List Ar→Sh}(h1:∀c,(SA c)[B]?=some (some (aI Ar.cells c)))(h2:∀c c',(SA c).set B (some (aI Ar.cells c'))=SA c')(h3:∀c,aJ (SA c)) :
   ∀(n i:Nat),N-i=n→i≤N→∀as:List Ar,as.length=N →
   cl AP g556L0 ⟨[(1,.pv (.az (c.map Ex.pv))),(2,.aK 2 0),(4,.aK 4 0),(5,.pv (vI n0)),(6,.aM B0 11 n0 true),(7,.aM B 14 N true),(35,.pv (vI N)),(36,.pv (vI i))],[(2,e.cl),(4,zO)],SA as,[0,0,0]⟩ =
     some (.exit 0,⟨[(1,.pv (.az (c.map Ex.pv))),(2,.aK 2 0),(4,.aK 4 0),(5,.pv (vI n0)),(6,.aM B0 11 n0 true),(7,.aM B 14 N true),(35,.pv (vI N)),(36,.pv (vI N)),(37,.pv (.bool false))],[(2,e.cl),(4,zO)],SA (as.take i++cV (as.drop i) (c.drop (n0+i))),[0,0,0]⟩)
 |0,i,hn,hi,as,ha=>by
   have:i=N:=by omega
   subst this;have hq:=(h3 as).norm;rw[il (l:=as) (by omega),List.take_of_length_le (by omega)];simp only[cV,List.append_nil];generalize SA as=S at *;rw[g556L0e];simp[g556B0,zO,hq]
 |n+1,i,hn,hi,as,ha=>by
   have hi:i<N:=(by omega);obtain⟨a,hx⟩:=bl (l:=as) (i:=i) (by omega);obtain⟨x,hy⟩:=bl (l:=c) (i:=n0+i) (by omega);have hci:n0+i<c.length:=(by omega);have ih:=Ky (e:=e) (B0:=B0) hN hc hn0 h1 h2 h3 n (i+1) (by omega) (by omega) (as.set i ⟨a.pos,a.dx,a.vars,x⟩) (by simpa using ha)
   have hset:=iq dW hx (y:=⟨a.pos,a.dx,a.vars,x⟩) (o:=3) (vs:=x.cells) (by rw[bg.len];omega) (by
     have h1:=bg.len a.body;have h2:=bg.len x;simp only[Ar.cells,List.take_succ_cons,List.take_zero,List.cons_append,List.nil_append,List.drop_succ_cons,List.drop_zero,h2];rw[List.drop_eq_nil_of_le (by simp[h1]),List.append_nil])
   rw[Ex.ir]at hset
   have hfin:as.take i++cV (as.drop i) (c.drop (n0+i))=(as.set i ⟨a.pos,a.dx,a.vars,x⟩).take (i+1)++cV ((as.set i ⟨a.pos,a.dx,a.vars,x⟩).drop (i+1)) (c.drop (n0+(i+1))):=by
     have h1:(as.set i ⟨a.pos,a.dx,a.vars,x⟩).take (i+1)=as.take i++[⟨a.pos,a.dx,a.vars,x⟩]:=by
       rw[List.set_eq_take_append_cons_drop,if_pos (by omega),List.take_append,List.take_of_length_le (by simp;omega)];have:i+1-(as.take i).length=1:=by simp;omega
       rw[this];rfl
     rw[h1,List.drop_set_of_lt (by omega),aX hx,aX hy];simp[cV,Nat.add_assoc]
   rw[hfin];generalize (as.set i ⟨a.pos,a.dx,a.vars,x⟩).take (i+1)++cV ((as.set i ⟨a.pos,a.dx,a.vars,x⟩).drop (i+1)) (c.drop (n0+(i+1)))=R at ih⊢;have hs1:=h1 as;have hs2:=h2 as (as.set i ⟨a.pos,a.dx,a.vars,x⟩);have hq:=(h3 as).norm;have hq1:=(h3 (as.set i ⟨a.pos,a.dx,a.vars,x⟩)).norm;have hB:bU (aI Ar.cells as)=false:=bT aO;have hlen:(aI Ar.cells as).length=N*14:=by rw[bc dW,ha]
   have hle:i*14+3+11≤N*14:=(by omega);generalize SA (as.set i ⟨a.pos,a.dx,a.vars,x⟩)=S1 at *;generalize SA as=S at *;generalize SA R=S2 at *;generalize aI Ar.cells (as.set i ⟨a.pos,a.dx,a.vars,x⟩)=T1 at *;generalize aI Ar.cells as=T at *;have hil:((n0:Int)+i).toNat=n0+i:=(by omega);have hpos:¬((n0:Int)+i<0):=(by omega);rw[g556L0e]at ih⊢;simp[zO,hq1]at ih hset;simp (disch:=omega) [-getElem?_pos,g556B0,zO,hq,hi,hy,hci,hs1,hB,hlen,hle,hset,hs2,aw,hil,hpos];rw[g556L0e];simp[hq1,ih]
def zE:List PV:=[.int .i64 0,.int .i64 0,.str [],.int .i64 0,.az [],.az [],.int .i64 0,.str [],.int .i64 0,.int .i64 0,.az []]
def zA:List PV:=[.int .i64 0,.str [],.az [],.int .i64 0,.int .i64 0,.str [],.int .i64 0,.az [],.az [],.int .i64 0,.str [],.int .i64 0,.int .i64 0,.az []]
theorem Kz{l:List AV}{n:Nat}:((List.replicate n l).flatten).length=n*l.length:=by
 induction n with
 |zero=>simp
 |succ n ih=>rw[List.replicate_succ,List.flatten_cons,List.length_append,ih,Nat.add_mul];omega
theorem Gz{l:List AV}{n:Nat}{v:AV}(h:v∈(List.replicate n l).flatten):v∈l:=by
 rw[List.mem_flatten]at h;obtain⟨m,h1,h2⟩:=h;rw[List.mem_replicate]at h1;rw[←h1.2];exact h2
theorem Jc{l:List PV}{n:Nat}:∀v∈(List.replicate n (l.map AV.pv)).flatten,∃p,v=AV.pv p:=by
 intro v hv;obtain⟨p,_,rfl⟩:=List.mem_map.1 (Gz hv);exact⟨p,rfl⟩
theorem tE{l:List PV}{n:Nat}{f:AV→Bool}(h:(l.map AV.pv).all f=true):((List.replicate n (l.map AV.pv)).flatten).all f=true:=by
 rw[List.all_eq_true]at h⊢;exact fun v hv=>h v (Gz hv)
structure ZR(Z:List AV)(n sz:Nat):Prop where
 len:Z.length=n*sz
 mp:bU Z=false
 q:∀(X:Sh),aJ X→aJ (X++[some Z])
theorem AJ{l:List PV}{n:Nat}:ZR ((List.replicate n (l.map AV.pv)).flatten) n l.length:=⟨by rw[Kz,List.length_map],bT Jc,fun X h=>h.app (aJ.one Jc)⟩
theorem c556{e:Ex}(hk:e.kids.length≤1000)(ha:e.aB.length≤1000){c:List Ex}:(aC AP).p 556 [e.pv,.az (c.map Ex.pv)]=some [(e.jA c).pv]:=by
 rw[ah (af:=g556) rfl rfl (by decide)];unfold Ex.jA;by_cases hc:c.length=e.kids.length+e.aB.length
 · rw[if_pos hc];have hci:(c.length:Int)=(e.kids.length:Int)+e.aB.length:=by omega
   have hb1:(e.kids.length:Int)*152≤140737488355328:=(by omega);have hb2:(e.aB.length:Int)*200≤140737488355328:=(by omega);have hb3:(e.kids.length:Int)≤9223372036854775807:=(by omega);have hb4:(e.aB.length:Int)≤9223372036854775807:=(by omega);have z1:=AJ (l:=zE) (n:=e.kids.length);have z2:=AJ (l:=zA) (n:=e.aB.length);have z2a:=tE (l:=zA) (n:=e.aB.length) (f:=cx) (by rfl);have z2b:=tE (l:=zA) (n:=e.aB.length) (f:=aG 2) (by rfl);have hq0:=(z1.q [] kj).norm;have hq1:=(z2.q _ (z1.q [] kj)).norm;have hn0:(c.take e.kids.length).length=e.kids.length:=(by simp;omega);have f1:(aI Ex.cells (c.take e.kids.length)).length=e.kids.length*11:=(by rw[bc bg,hn0]);have f2:(aI Ar.cells e.aB).length=e.aB.length*14:=bc dW;have s1:List.drop (e.kids.length*11) (List.replicate e.kids.length (zE.map AV.pv)).flatten=[]:=List.drop_eq_nil_of_le (by rw[z1.len];exact Nat.le_refl _);have s2:List.drop (aI Ar.cells e.aB).length (List.replicate e.aB.length (zA.map AV.pv)).flatten=[]:=List.drop_eq_nil_of_le (by rw[f2,z2.len];exact Nat.le_refl _);have m1:=mU (l:=c.take e.kids.length);have m2:=zG (l:=e.aB)
   have h:=Ky (e:=e) (c:=c) (n0:=e.kids.length) (N:=e.aB.length) (B0:=0) (B:=1) ha hc hk (SA:=fun as=>[some (aI Ex.cells (c.take e.kids.length)),some (aI Ar.cells as)]) (fun _=>rfl) (fun _ _=>rfl)
     (fun as=>(aJ.one aO).app (aJ.one aO)) _ 0 rfl (by omega) e.aB rfl
   simp only[List.take_zero,List.drop_zero,List.nil_append,Nat.add_zero]at h;have l1:=jY (l:=c.take e.kids.length);have l2:=tD (l:=cV e.aB (c.drop e.kids.length));have f3:(aI Ar.cells (cV e.aB (c.drop e.kids.length))).length=e.aB.length*14:=by rw[bc dW,gg]
   rw[gg]at l2;rw[hn0]at l1;have q2:∀aF ts,aW aF ts [some (aI Ex.cells (c.take e.kids.length)),some (aI Ar.cells e.aB)]=([some (aI Ex.cells (c.take e.kids.length)),some (aI Ar.cells e.aB)],aF,ts):=((aJ.one aO).app (aJ.one aO)).norm;generalize cV e.aB (c.drop e.kids.length)=R at *;generalize aI Ar.cells R=TR at *;generalize aI Ar.cells e.aB=TA at *;have hK:List.take e.kids.length (List.map Ex.pv c)=List.map Ex.pv (List.take e.kids.length c):=List.map_take.symm;have hA:List.take e.aB.length (List.map Ar.pv e.aB)=List.map Ar.pv e.aB:=List.take_of_length_le (by simp);generalize List.take e.kids.length c=K at *;generalize aI Ex.cells K=TK at *;obtain⟨z11,z12,_⟩:=z1;obtain⟨z21,z22,_⟩:=z2;simp only[zE,zA,List.map_cons,List.map_nil]at z11 z12 z21 z22 z2a z2b hq0 hq1 s1 s2;rw[g556L0e]at h;simp[zO,q2]at h;simp at l1 l2 m1;simp (disch:=omega) [-getElem?_pos,g556,hci,aw,hb1,hb2,hb3,hb4,z12,z22,z2a,z2b,s1,s2,hq0,hq1,m1,m2,q2,g556L0e,h,l1,l2,f1,f3,z21,hK,hA]
 · rw[if_neg hc];have hci:¬(c.length:Int)=(e.kids.length:Int)+e.aB.length:=by omega
   simp (disch:=omega) [g556,hci,aw]
theorem DK{X:Sh}(u v:Option (List AV)):(X++[u,v])[X.length+1]?=some v:=by rw[List.getElem?_append_right (by omega)];simp
theorem zH{X:Sh}(u v w:Option (List AV)):(X++[u,v]).set (X.length+1) w=X++[u,w]:=by rw[List.set_append_right _ _ (by omega)];simp
def Ex.Nc(e:Ex)(n:Nat):List AV:=[.pv (vI e.kind),.pv (vI e.pos),.pv (.str e.name),.pv (vI e.num),.aM n 11 e.kids.length true,.aM (n+1) 14 e.aB.length true,.pv (vI e.ty.kind),.pv (.str e.ty.name),.pv (vI e.ty.id),.pv (vI e.ty.home),.pv (.az (e.ty.args.map Ty.pv))]
theorem c556i{e:Ex}(hk:e.kids.length≤1000)(ha:e.aB.length≤1000){c:List Ex}(hc:c.length=e.kids.length+e.aB.length){X:Sh}(hX:aJ X) :
   (aC AP).i 556 [.pv e.pv,.pv (.az (c.map Ex.pv))] X []=some ([.agg (e.Nc X.length)],X++[some (aI Ex.cells (c.take e.kids.length)),some (aI Ar.cells (cV e.aB (c.drop e.kids.length)))],[]):=by
 rw[aH (af:=g556) rfl (by simp[g556])];have hci:(c.length:Int)=(e.kids.length:Int)+e.aB.length:=by omega
 have hb1:(e.kids.length:Int)*152≤140737488355328:=by omega
 have hb2:(e.aB.length:Int)*200≤140737488355328:=by omega
 have hb3:(e.kids.length:Int)≤9223372036854775807:=by omega
 have hb4:(e.aB.length:Int)≤9223372036854775807:=by omega
 have z1:=AJ (l:=zE) (n:=e.kids.length);have z2:=AJ (l:=zA) (n:=e.aB.length);have z2a:=tE (l:=zA) (n:=e.aB.length) (f:=cx) (by rfl);have z2b:=tE (l:=zA) (n:=e.aB.length) (f:=aG (X.length+2)) (by rfl);have hq0:=(z1.q X hX).norm;have hq1:=(z2.q _ (z1.q X hX)).norm;have hn0:(c.take e.kids.length).length=e.kids.length:=by simp;omega
 have f1:(aI Ex.cells (c.take e.kids.length)).length=e.kids.length*11:=by rw[bc bg,hn0]
 have f2:(aI Ar.cells e.aB).length=e.aB.length*14:=bc dW;have s1:List.drop (e.kids.length*11) (List.replicate e.kids.length (zE.map AV.pv)).flatten=[]:=List.drop_eq_nil_of_le (by rw[z1.len];exact Nat.le_refl _);have s2:List.drop (aI Ar.cells e.aB).length (List.replicate e.aB.length (zA.map AV.pv)).flatten=[]:=List.drop_eq_nil_of_le (by rw[f2,z2.len];exact Nat.le_refl _);have m1:=mU (l:=c.take e.kids.length);have m2:=zG (l:=e.aB)
 have h:=Ky (e:=e) (c:=c) (n0:=e.kids.length) (N:=e.aB.length) (B0:=X.length) (B:=X.length+1) ha hc hk (SA:=fun as=>X++[some (aI Ex.cells (c.take e.kids.length)),some (aI Ar.cells as)]) (fun _=>DK _ _) (fun _ _=>zH _ _ _)
   (fun as=>hX.app ((aJ.one aO).app (aJ.one aO))) _ 0 rfl (by omega) e.aB rfl
 simp only[List.take_zero,List.drop_zero,List.nil_append,Nat.add_zero]at h;have l1:=jY (l:=c.take e.kids.length);have l2:=tD (l:=cV e.aB (c.drop e.kids.length));have f3:(aI Ar.cells (cV e.aB (c.drop e.kids.length))).length=e.aB.length*14:=by rw[bc dW,gg]
 rw[gg]at l2;rw[hn0]at l1;have q2:∀aF ts,aW aF ts (X++[some (aI Ex.cells (c.take e.kids.length)),some (aI Ar.cells e.aB)])=(X++[some (aI Ex.cells (c.take e.kids.length)),some (aI Ar.cells e.aB)],aF,ts):=(hX.app ((aJ.one aO).app (aJ.one aO))).norm;have q3:∀aF ts,aW aF ts (X++[some (aI Ex.cells (c.take e.kids.length)),some (aI Ar.cells (cV e.aB (c.drop e.kids.length)))])=(X++[some (aI Ex.cells (c.take e.kids.length)),some (aI Ar.cells (cV e.aB (c.drop e.kids.length)))],aF,ts):=(hX.app ((aJ.one aO).app (aJ.one aO))).norm;have qX:=hX.norm;generalize cV e.aB (c.drop e.kids.length)=R at *;generalize aI Ar.cells R=TR at *;generalize aI Ar.cells e.aB=TA at *;have hK:List.take e.kids.length (List.map Ex.pv c)=List.map Ex.pv (List.take e.kids.length c):=List.map_take.symm;have hA:List.take e.aB.length (List.map Ar.pv e.aB)=List.map Ar.pv e.aB:=List.take_of_length_le (by simp);generalize List.take e.kids.length c=K at *;generalize aI Ex.cells K=TK at *;obtain⟨z11,z12,_⟩:=z1;obtain⟨z21,z22,_⟩:=z2;simp only[zE,zA,List.map_cons,List.map_nil]at z11 z12 z21 z22 z2a z2b hq0 hq1 s1 s2;rw[g556L0e]at h;simp[zO,q2]at h;have g1:∀u,(X++[u])[X.length]?=some u:=fun u=>by simp
 have g2:∀u v,(X++[u,v])[X.length]?=some u:=fun u v=>by simp
 have g3:∀u v,(X++[u,v])[X.length+1]?=some v:=DK;have g4:∀u v w,(X++[u,v]).set X.length w=X++[w,v]:=fun u v w=>by simp
 have g5:∀u v w,(X++[u,v]).set (X.length+1) w=X++[u,w]:=zH;simp at l1 l2 m1;simp (disch:=omega) [-getElem?_pos,g556,hci,aw,hb1,hb2,hb3,hb4,z12,z22,z2a,z2b,s1,s2,hq0,hq1,m1,m2,q2,g556L0e,h,l1,l2,f1,f3,z21,hK,hA,Ex.Nc,qX,q3,g1,g2,g3,g4,g5]
def Ar.p0(a:Ar):Ar:=⟨0,a.dx,a.vars,a.body⟩
theorem N9{α β:Type}(l:List α)(f:α→β):(l.attach.map fun x=>f x.1)=l.map f:=by rw[List.map_attach_eq_pmap,List.pmap_eq_map]
def Ex.strip(e:Ex):Ex:=⟨e.kind,0,e.name,e.num,e.kids.attach.map fun x=>x.1.strip,e.aB.attach.map fun a=>⟨0,a.1.dx,a.1.vars,a.1.body.strip⟩,e.ty⟩
termination_by SizeOf.sizeOf e
decreasing_by
 ·exact Ex.ji (by rw[Ex.ch,List.mem_append];exact .inl x.2)
 ·exact Ex.ji (by rw[Ex.ch,List.mem_append,List.mem_map];exact .inr ⟨a.1,a.2,rfl⟩)
theorem Ex.dw(e:Ex):e.strip=⟨e.kind,0,e.name,e.num,e.kids.map Ex.strip,e.aB.map fun a=>⟨0,a.dx,a.vars,a.body.strip⟩,e.ty⟩:=by
 have h1:=N9 e.kids Ex.strip;have h2:=N9 e.aB fun a=>(⟨0,a.dx,a.vars,a.body.strip⟩:Ar)
 rw[Ex.strip,h1,h2]
theorem wx{g:Ex→Ex}:∀{as:List Ar},cV as (as.map fun a=>g a.body)=as.map fun a=>⟨a.pos,a.dx,a.vars,g a.body⟩
 |[]=>rfl
 |a::r=>by simp only[List.map_cons,cV,wx (as:=r)]
theorem GA(e:Ex):(e.ch.map Ex.strip).take e.kids.length=e.kids.map Ex.strip∧(cV e.aB ((e.ch.map Ex.strip).drop e.kids.length)).map Ar.p0=e.aB.map fun a=>⟨0,a.dx,a.vars,a.body.strip⟩:=by
 have h:e.ch.map Ex.strip=e.kids.map Ex.strip++e.aB.map fun a=>a.body.strip:=by simp[Ex.ch]
 have hl:(e.kids.map Ex.strip).length=e.kids.length:=by simp
 rw[h];constructor
 ·rw[←hl];exact List.take_left
 ·rw[←hl,List.drop_left,wx,List.map_map];rfl
theorem Ms{e:Ex}{b m:Nat}(hm:m≤2000){SS:List Ex→Sh}(h1:∀c,(SS c)[b]?=some (some (aI Ex.cells c)))(h2:∀c c',(SS c).set b (some (aI Ex.cells c'))=SS c')(h3:∀c,aJ (SS c)) :
   ∀(n i:Nat),m-i=n→i≤m→∀c:List Ex,c.length=m→(∀x∈c.drop i,(aC AP).p 546 [x.pv]=some [x.strip.pv]) →
   cl AP g546L0 ⟨[(1,.aK 1 0),(2,.aK 2 0),(3,.aM b 11 m true),(9,.aM b 11 m true),(10,.pv (vI m)),(11,.pv (vI i))],[(1,e.cl),(2,zO)],SS c,[0,0,0]⟩ =
     some (.exit 0,⟨[(1,.aK 1 0),(2,.aK 2 0),(3,.aM b 11 m true),(9,.aM b 11 m true),(10,.pv (vI m)),(11,.pv (vI m)),(12,.pv (.bool false))],[(1,e.cl),(2,zO)],SS (c.take i++(c.drop i).map Ex.strip),[0,0,0]⟩)
 |0,i,hn,hi,c,ha,hc=>by
   have:i=m:=by omega
   subst this;have hq:=(h3 c).norm;rw[il (l:=c) (by omega),List.take_of_length_le (by omega),List.map_nil,List.append_nil];generalize SS c=S at *;rw[g546L0e];simp[g546B0,zO,hq]
 |n+1,i,hn,hi,c,ha,hc=>by
   have hi:i<m:=(by omega);obtain⟨x,hx⟩:=bl (l:=c) (i:=i) (by omega);have k:=hc x (by rw[aX hx];simp)
   have ih:=Ms (e:=e) hm h1 h2 h3 n (i+1) (by omega) (by omega) (c.set i x.strip) (by simpa using ha) (by
     rw[List.drop_set_of_lt (by omega)];intro y hy;exact hc y (by rw[aX hx];exact List.mem_cons_of_mem _ hy))
   have hset:=iq bg hx (y:=x.strip) (o:=0) (vs:=x.strip.cells) (by rw[bg.len];omega) (by
     have h1:=bg.len x;have h2:=bg.len x.strip;simp[h1,h2])
   rw[Ex.ir,Nat.add_zero]at hset;have hget:=jh bg hx (o:=0) (k:=11) (by omega)
   have ht:(((x.cells.drop 0).take 11).map AV.pv)=x.cl:=by
     rw[List.drop_zero,List.take_of_length_le (by rw[bg.len];omega),Ex.ir]
   rw[ht,Nat.add_zero]at hget
   have hfin:c.take i++(c.drop i).map Ex.strip=(c.set i x.strip).take (i+1)++((c.set i x.strip).drop (i+1)).map Ex.strip:=by
     have h1:(c.set i x.strip).take (i+1)=c.take i++[x.strip]:=by
       rw[List.set_eq_take_append_cons_drop,if_pos (by omega),List.take_append,List.take_of_length_le (by simp;omega)];have:i+1-(c.take i).length=1:=by simp;omega
       rw[this];rfl
     rw[h1,List.drop_set_of_lt (by omega),aX hx];simp
   rw[hfin];generalize (c.set i x.strip).take (i+1)++((c.set i x.strip).drop (i+1)).map Ex.strip=R at ih⊢;have hs1:=h1 c;have hs2:=h2 c (c.set i x.strip);have hq:=(h3 c).norm;have hq1:=(h3 (c.set i x.strip)).norm;have hB:bU (aI Ex.cells c)=false:=bT aO;have hlen:(aI Ex.cells c).length=m*11:=by rw[bc bg,ha]
   have hle:i*11+11≤m*11:=(by omega);clear hc h1 h2 h3 hfin;generalize SS (c.set i x.strip)=S1 at *;generalize SS c=S at *;generalize SS R=S2 at *;generalize aI Ex.cells (c.set i x.strip)=T1 at *;generalize aI Ex.cells c=T at *;generalize x.strip=y at *;rw[g546L0e]at ih⊢;simp at k;simp[zO,hq1]at ih hset hget⊢;simp (disch:=omega) [-getElem?_pos,g546B0,hq,hi,hs1,hB,hlen,hle,hget,hset,hs2,k,aw];rw[g546L0e];simp[hq1,ih]
def Ex.Ll(e:Ex)(n:Nat):List AV:=[.pv (vI e.kind),.pv (vI 0),.pv (.str e.name),.pv (vI e.num),.aM n 11 e.kids.length true,.aM (n+1) 14 e.aB.length true,.pv (vI e.ty.kind),.pv (.str e.ty.name),.pv (vI e.ty.id),.pv (vI e.ty.home),.pv (.az (e.ty.args.map Ty.pv))]
theorem Jd{e:Ex}{B N:Nat}(hN:N≤1000)(he:e.aB.length=N){SA:List Ar→Sh}(h1:∀c,(SA c)[B+1]?=some (some (aI Ar.cells c)))(h2:∀c c',(SA c).set (B+1) (some (aI Ar.cells c'))=SA c')(h3:∀c,aJ (SA c)) :
   ∀(n i:Nat),N-i=n→i≤N→∀as:List Ar,as.length=N →
   cl AP g546L1 ⟨[(1,.aK 1 0),(2,.aK 2 0),(28,.pv (vI N)),(29,.pv (vI i))],[(1,e.Ll B),(2,zO)],SA as,[0,0,0]⟩ =
     some (.exit 2,⟨[(1,.aK 1 0),(2,.aK 2 0),(28,.pv (vI N)),(29,.pv (vI N)),(30,.pv (.bool false))],[(1,e.Ll B),(2,zO)],SA (as.take i++(as.drop i).map Ar.p0),[0,0,0]⟩)
 |0,i,hn,hi,as,ha=>by
   have:i=N:=by omega
   subst this;have hq:=(h3 as).norm;rw[il (l:=as) (by omega),List.take_of_length_le (by omega),List.map_nil,List.append_nil];generalize SA as=S at *;rw[g546L1e];simp[g546B1,Ex.Ll,zO,hq]
 |n+1,i,hn,hi,as,ha=>by
   have hi:i<N:=(by omega);obtain⟨a,hx⟩:=bl (l:=as) (i:=i) (by omega);have ih:=Jd (e:=e) hN he h1 h2 h3 n (i+1) (by omega) (by omega) (as.set i a.p0) (by simpa using ha);have hset:=l_ dW hx (y:=a.p0) (o:=0) (p:=vI 0) (by omega) (by simp[Ar.cells,Ar.p0])
   have hfin:as.take i++(as.drop i).map Ar.p0=(as.set i a.p0).take (i+1)++((as.set i a.p0).drop (i+1)).map Ar.p0:=by
     have h1:(as.set i a.p0).take (i+1)=as.take i++[a.p0]:=by
       rw[List.set_eq_take_append_cons_drop,if_pos (by omega),List.take_append,List.take_of_length_le (by simp;omega)];have:i+1-(as.take i).length=1:=by simp;omega
       rw[this];rfl
     rw[h1,List.drop_set_of_lt (by omega),aX hx];simp
   rw[hfin];generalize (as.set i a.p0).take (i+1)++((as.set i a.p0).drop (i+1)).map Ar.p0=R at ih⊢;have hs1:=h1 as;have hs2:=h2 as (as.set i a.p0);have hq:=(h3 as).norm;have hq1:=(h3 (as.set i a.p0)).norm;have hB:bU (aI Ar.cells as)=false:=bT aO;have hlen:(aI Ar.cells as).length=N*14:=by rw[bc dW,ha]
   have hle:i*14+1≤N*14:=(by omega);have hie:i<e.aB.length:=(by omega);clear h1 h2 h3 hfin;generalize SA (as.set i a.p0)=S1 at *;generalize SA as=S at *;generalize SA R=S2 at *;generalize aI Ar.cells (as.set i a.p0)=T1 at *;generalize aI Ar.cells as=T at *;rw[g546L1e]at ih⊢;simp[Ex.Ll,zO,hq1]at ih hset;simp (disch:=omega) [-getElem?_pos,g546B1,Ex.Ll,zO,hq,hi,hie,hs1,hB,hlen,hle,hset,hs2,aw];rw[g546L1e];simp[hq1,ih]
theorem c546(e:Ex):e.Ok→(aC AP).p 546 [e.pv]=some [e.strip.pv]:=by
 refine Ex.recC (p:=fun e=>e.Ok→(aC AP).p 546 [e.pv]=some [e.strip.pv]) ?_ e;intro e ih ho;have hk:=ho.k;have ha:=ho.a;obtain⟨k,c1⟩:=c414i ho;have hl:=Ex.c_ (e:=e);have⟨t1,t2⟩:=GA e;rw[Ex.dw];rw[ah (af:=g546) rfl rfl (by decide)];by_cases hc:e.ch=[]
 · have h0:e.kids=[]∧e.aB=[]:=by have:=hc;simpa[Ex.ch] using this
   have c2:=c556i (e:=e) hk ha (c:=[]) (by simp[h0.1,h0.2]) (X:=[]) kj;rw[hc,if_pos rfl]at c1;simp[Ex.Nc,h0.1,h0.2,mc]at c1 c2;simp[g546,tu,dy,chunk,h0.1,h0.2,c1,g546L0e,g546B0,c2,g546L1e,g546B1]
 · have hh1:∀c,(nn k++[some (aI Ex.cells c)])[k]?=some (some (aI Ex.cells c)):=fun c=>by simp
   have l1:=Ms (e:=e) (b:=k) (m:=e.ch.length) (by omega) (SS:=fun c=>nn k++[some (aI Ex.cells c)]) hh1 (fun c c'=>by simp) (fun c=>(bt k).app (aJ.one aO)) _ 0 rfl (by omega) e.ch rfl (fun x hx=>ih x (by simpa using hx) (ho.c x (by simpa using hx)));rw[List.drop_zero,List.take_zero,List.nil_append]at l1;have hX:aJ (nn k++[none]):=(bt k).app (bt 1);have hXl:(nn k++[none]).length=k+1:=(by simp);have c2:=c556i (e:=e) hk ha (c:=e.ch.map Ex.strip) (by rw[List.length_map];exact hl) hX;rw[hXl,t1]at c2
   have l2:=Jd (e:=e) (B:=k+1) ha rfl (SA:=fun as=>nn k++[none]++[some (aI Ex.cells (e.kids.map Ex.strip)),some (aI Ar.cells as)]) (fun c=>by have:=DK (X:=nn k++[none]) (some (aI Ex.cells (e.kids.map Ex.strip))) (some (aI Ar.cells c));rwa [hXl]at this)
     (fun c c'=>by have:=zH (X:=nn k++[none]) (some (aI Ex.cells (e.kids.map Ex.strip))) (some (aI Ar.cells c)) (some (aI Ar.cells c'));rwa [hXl]at this) (fun c=>hX.app ((aJ.one aO).app (aJ.one aO))) _ 0 rfl (by omega) (cV e.aB ((e.ch.map Ex.strip).drop e.kids.length)) gg
   rw[List.drop_zero,List.take_zero,List.nil_append,t2]at l2;have a1:=jY (l:=e.ch.map Ex.strip);have a2:=jY (l:=e.kids.map Ex.strip);have a3:=tD (l:=e.aB.map fun a=>(⟨0,a.dx,a.vars,a.body.strip⟩:Ar));have b1:(aI Ex.cells (e.ch.map Ex.strip)).length=e.ch.length*11:=by rw[bc bg,List.length_map]
   have b2:(aI Ex.cells (e.kids.map Ex.strip)).length=e.kids.length*11:=(by rw[bc bg,List.length_map]);have b3:(aI Ar.cells (e.aB.map fun a=>(⟨0,a.dx,a.vars,a.body.strip⟩:Ar))).length=e.aB.length*14:=(by rw[bc dW,List.length_map]);have s1:(nn k++[some (aI Ex.cells (e.ch.map Ex.strip))]).set k none=nn k++[none]:=(by simp);have s2:=hh1 (e.ch.map Ex.strip);have q1:∀aF ts,aW aF ts (nn k++[some (aI Ex.cells (e.ch.map Ex.strip))])=(nn k++[some (aI Ex.cells (e.ch.map Ex.strip))],aF,ts):=((bt k).app (aJ.one aO)).norm;have q0:∀aF ts,aW aF ts (nn k++[some (aI Ex.cells e.ch)])=(nn k++[some (aI Ex.cells e.ch)],aF,ts):=((bt k).app (aJ.one aO)).norm;have q2:∀aF ts,aW aF ts (nn k++[none]++[some (aI Ex.cells (e.kids.map Ex.strip)),some (aI Ar.cells (cV e.aB ((e.ch.map Ex.strip).drop e.kids.length)))])=(nn k++[none]++[some (aI Ex.cells (e.kids.map Ex.strip)),some (aI Ar.cells (cV e.aB ((e.ch.map Ex.strip).drop e.kids.length)))],aF,ts):=(hX.app ((aJ.one aO).app (aJ.one aO))).norm;have h0s:∀n,dS n (nn k++[some (aI Ex.cells e.ch)])=nn k++[some (aI Ex.cells e.ch)]:=((bt k).app (aJ.one aO)).shift;have h2s:∀n,dS n (nn k++[none]++[some (aI Ex.cells (e.kids.map Ex.strip)),some (aI Ar.cells (cV e.aB ((e.ch.map Ex.strip).drop e.kids.length)))])=nn k++[none]++[some (aI Ex.cells (e.kids.map Ex.strip)),some (aI Ar.cells (cV e.aB ((e.ch.map Ex.strip).drop e.kids.length)))]:=(hX.app ((aJ.one aO).app (aJ.one aO))).shift;have h1s:∀n,dS n (nn k++[none])=nn k++[none]:=hX.shift;have h1q:∀aF ts,aW aF ts (nn k++[none])=(nn k++[none],aF,ts):=hX.norm;have g1:∀u v,(nn k++[none]++[u,v])[k+1]?=some u:=fun u v=>by rw[List.getElem?_append_right (by omega)];simp
   have g2:∀u v,(nn k++[none]++[u,v])[k+1+1]?=some v:=fun u v=>by have:=DK (X:=nn k++[none]) u v;rwa [hXl]at this
   have g1':=g1 (some (aI Ex.cells (e.kids.map Ex.strip))) (some (aI Ar.cells (e.aB.map fun a=>(⟨0,a.dx,a.vars,a.body.strip⟩:Ar))));have g2':=g2 (some (aI Ex.cells (e.kids.map Ex.strip))) (some (aI Ar.cells (e.aB.map fun a=>(⟨0,a.dx,a.vars,a.body.strip⟩:Ar))));rw[if_neg hc]at c1;rw[List.length_map]at a1 a2 a3
   try dsimp only at l1 l2
   clear ih hh1 g1 g2 t1 t2 hX;generalize cV e.aB ((e.ch.map Ex.strip).drop e.kids.length)=A0 at *;generalize (e.aB.map fun a=>(⟨0,a.dx,a.vars,a.body.strip⟩:Ar))=A1 at *;generalize e.kids.map Ex.strip=K at *;generalize e.ch.map Ex.strip=C at *;generalize nn k++[some (aI Ex.cells C)]=S1 at *;generalize nn k++[some (aI Ex.cells e.ch)]=S0 at *;generalize nn k++[none]++[some (aI Ex.cells K),some (aI Ar.cells A1)]=S3 at *;generalize nn k++[none]++[some (aI Ex.cells K),some (aI Ar.cells A0)]=S2 at *;generalize nn k++[none]=X at *;generalize aI Ex.cells C=TC at *;generalize aI Ex.cells K=TK at *;generalize aI Ar.cells A1=TA at *;rw[g546L0e]at l1;rw[g546L1e]at l2;simp at c1 a1 a2 a3;simp[zO,Ex.Ll,q0,q2]at l1 l2;simp[Ex.Nc]at c2;simp (config:={ maxSteps:=1000000 }) (disch:=omega) [-getElem?_pos,g546,hc,c1,h0s,h1s,h2s,h1q,q0,q1,q2,g546L0e,l1,s1,s2,a1,b1,c2,g546L1e,l2,g1',g2',a2,a3,b2,b3]
structure Sl where
 bd:Bool
 ty:Ty
 home:Int
 base:Bool
def Sl.pv(x:Sl):PV:=.agg [.bool x.bd,vI x.ty.kind,.str x.ty.name,vI x.ty.id,vI x.ty.home,.az (x.ty.args.map Ty.pv),vI x.home,.bool x.base]
@[simp] theorem Sl.dR(x:Sl):x.pv=.agg [.bool x.bd,.int .i64 x.ty.kind,.str x.ty.name,.int .i64 x.ty.id,.int .i64 x.ty.home,.az (x.ty.args.map Ty.pv),.int .i64 x.home,.bool x.base]:=rfl
structure Ch where
 id:Int
 aF:Sl
 nw:Bool
def Ch.pv(x:Ch):PV:=.agg [vI x.id,.bool x.aF.bd,vI x.aF.ty.kind,.str x.aF.ty.name,vI x.aF.ty.id,vI x.aF.ty.home,.az (x.aF.ty.args.map Ty.pv),vI x.aF.home,.bool x.aF.base,.bool x.nw]
@[simp] theorem Ch.dR(x:Ch):x.pv=.agg [.int .i64 x.id,.bool x.aF.bd,.int .i64 x.aF.ty.kind,.str x.aF.ty.name,.int .i64 x.aF.ty.id,.int .i64 x.aF.ty.home,.az (x.aF.ty.args.map Ty.pv),.int .i64 x.aF.home,.bool x.aF.base,.bool x.nw]:=rfl
structure Nd where
 sl:List Sl
 tr:List Ch
def Nd.pv(s:Nd):PV:=.agg [.az (s.sl.map Sl.pv),.az (s.tr.map Ch.pv)]
@[simp] theorem Nd.dR(s:Nd):s.pv=.agg [.az (s.sl.map Sl.pv),.az (s.tr.map Ch.pv)]:=rfl
def tC(t:Ty):List AV:=[.pv (vI t.kind),.pv (.str t.name),.pv (vI t.id),.pv (vI t.home),.pv (.az (t.args.map Ty.pv))]
def GB(cs:List dn)(s:bM):Option Nat:=bD (fun c=>decide (c.name=s)) cs
def jl:List Dt→bM→Nat→Option (Nat×Nat)
 |[],_,_=>none
 |d::r,s,i=>match GB d.cons s with
   |some k=>some (i,k)
   |none=>jl r s (i+1)
def rF:Option (Nat×Nat)→List PV
 |some (i,k)=>[vI i,vI k,.bool true]
 |none=>[vI 0,vI 0,.bool false]
theorem Je{ds:List Dt}{s:bM}{i:Nat}{cs:List dn}(hS:Sm cs):∀(n k:Nat),cs.length-k=n→k≤cs.length →
   cl AP g190L1 ⟨[(1,.pv (.str s)),(7,.pv (vI i)),(11,.pv (.az (ds.map Dt.pv))),(12,.pv (vI ds.length)),(13,.pv (vI i)),(19,.pv (.az (cs.map dn.pv))),(20,.pv (vI cs.length)),(21,.pv (vI k))],[],[],[]⟩ =
     match bD (fun c=>decide (c.name=s)) (cs.drop k) with
     |some j=>some (.ret,⟨[(4,.pv (vI i)),(5,.pv (vI (k+j:Nat))),(6,.pv (.bool true))],[],[],[]⟩)
     |none=>some (.exit 2,⟨[(1,.pv (.str s)),(7,.pv (vI i)),(11,.pv (.az (ds.map Dt.pv))),(12,.pv (vI ds.length)),(13,.pv (vI i)),(19,.pv (.az (cs.map dn.pv))),(20,.pv (vI cs.length)),(21,.pv (vI cs.length)),(22,.pv (.bool false))],[],[],[]⟩)
 |0,k,hn,hk=>by
   have:k=cs.length:=by omega
   subst this;rw[g190L1e];simp[g190B1,bD]
 |n+1,k,hn,hk=>by
   have hk:k<cs.length:=(by omega);obtain⟨x,hx⟩:=bl hk;unfold Sm at hS;have ih:=Je (ds:=ds) (s:=s) (i:=i) hS n (k+1) (by omega) (by omega);rw[g190L1e]at ih⊢;rw[aX hx];simp at ih;by_cases e:x.name=s
   ·simp (disch:=omega) [-getElem?_pos,g190B1,hx,hk,e,bD]
   · simp (disch:=omega) [-getElem?_pos,g190B1,hx,hk,e,bD,aw];rw[g190L1e];simp[ih];cases bD (fun c=>decide (c.name=s)) (cs.drop (k+1)) with
     |none=>rfl
     |some j=>simp;omega
theorem Mu{ds:List Dt}(hS:Sm ds)(hc:∀d∈ds,Sm d.cons)(s:bM):∀(n i:Nat),ds.length-i=n→i≤ds.length →
   cl AP g190L0 ⟨[(1,.pv (.str s)),(11,.pv (.az (ds.map Dt.pv))),(12,.pv (vI ds.length)),(13,.pv (vI i))],[],[],[]⟩ =
     match jl (ds.drop i) s i with
     |some q=>some (.ret,⟨[(4,.pv (vI q.1)),(5,.pv (vI q.2)),(6,.pv (.bool true))],[],[],[]⟩)
     |none=>some (.exit 0,⟨[(1,.pv (.str s)),(11,.pv (.az (ds.map Dt.pv))),(12,.pv (vI ds.length)),(13,.pv (vI ds.length)),(14,.pv (.bool false))],[],[],[]⟩)
 |0,i,hn,hi=>by
   have:i=ds.length:=by omega
   subst this;rw[g190L0e];simp[g190B0,jl]
 |n+1,i,hn,hi=>by
   have hi:i<ds.length:=(by omega);obtain⟨d,hd⟩:=bl hi;unfold Sm at hS;have ih:=Mu hS hc s n (i+1) (by omega) (by omega);have h:=Je (ds:=ds) (s:=s) (i:=i) (hc d (bE hd)) _ 0 rfl (by omega);rw[g190L1e]at h;rw[g190L0e]at ih⊢;rw[aX hd];simp at ih h;cases e:bD (fun c=>decide (c.name=s)) d.cons with
   |some k=>
     rw[e]at h;simp at h;simp (disch:=omega) [-getElem?_pos,g190B0,hd,hi,jl,GB,e,g190L1e,h]
   |none=>
     rw[e]at h;simp at h;simp (disch:=omega) [-getElem?_pos,g190B0,hd,hi,jl,GB,e,g190L1e,h,aw];rw[g190L0e];simp[ih]
theorem c190{ds:List Dt}(hS:Sm ds)(hc:∀d∈ds,Sm d.cons){s:bM}:(aC AP).p 190 [.az (ds.map Dt.pv),.str s]=some (rF (jl ds s 0)):=by
 have h:=Mu hS hc s _ 0 rfl (by omega);rw[ah (af:=g190) rfl rfl (by decide)];rw[g190L0e]at h;simp at h;cases e:jl ds s 0 with
 |none=>rw[e]at h;simp at h;simp[g190,g190L0e,h,rF]
 |some q=>rw[e]at h;simp at h;simp[g190,g190L0e,h,rF]
theorem Jf{ds:List Dt}{s:bM}{i:Nat}{d:Dt}(hd:ds[i]?=some d)(hS:Sm d.cons):∀(n k:Nat),d.cons.length-k=n→k≤d.cons.length →
   cl AP g191L1 ⟨[(0,.pv (.az (ds.map Dt.pv))),(1,.pv (.str s)),(7,.pv (vI i)),(8,.pv (vI k))],[],[],[]⟩ =
     match bD (fun c=>decide (c.name=s)) (d.cons.drop k) with
     |some j=>some (.ret,⟨[(4,.pv (vI i)),(5,.pv (vI (k+j:Nat))),(6,.pv (.bool true))],[],[],[]⟩)
     |none=>some (.exit 2,⟨[(0,.pv (.az (ds.map Dt.pv))),(1,.pv (.str s)),(7,.pv (vI i)),(8,.pv (vI d.cons.length)),(22,.pv (.bool false))],[],[],[]⟩)
 |0,k,hn,hk=>by
   have:k=d.cons.length:=by omega
   subst this;rw[g191L1e];simp[-getElem?_pos,g191B1,bD,hd]
 |n+1,k,hn,hk=>by
   have hk:k<d.cons.length:=(by omega);obtain⟨x,hx⟩:=bl hk;unfold Sm at hS;have ih:=Jf (s:=s) hd hS n (k+1) (by omega) (by omega);rw[g191L1e]at ih⊢;rw[aX hx];simp at ih;by_cases e:x.name=s
   ·simp (disch:=omega) [-getElem?_pos,g191B1,hd,hx,hk,e,bD]
   · simp (disch:=omega) [-getElem?_pos,g191B1,hd,hx,hk,e,bD,aw];rw[g191L1e];simp[ih];cases bD (fun c=>decide (c.name=s)) (d.cons.drop (k+1)) with
     |none=>rfl
     |some j=>simp;omega
theorem Mv{ds:List Dt}(hS:Sm ds)(hc:∀d∈ds,Sm d.cons)(s:bM):∀(n i:Nat),ds.length-i=n→i≤ds.length →
   cl AP g191L0 ⟨[(0,.pv (.az (ds.map Dt.pv))),(1,.pv (.str s)),(7,.pv (vI i))],[],[],[]⟩ =
     match jl (ds.drop i) s i with
     |some q=>some (.ret,⟨[(4,.pv (vI q.1)),(5,.pv (vI q.2)),(6,.pv (.bool true))],[],[],[]⟩)
     |none=>some (.exit 0,⟨[(0,.pv (.az (ds.map Dt.pv))),(1,.pv (.str s)),(7,.pv (vI ds.length)),(12,.pv (.bool false))],[],[],[]⟩)
 |0,i,hn,hi=>by
   have:i=ds.length:=by omega
   subst this;rw[g191L0e];simp[g191B0,jl]
 |n+1,i,hn,hi=>by
   have hi:i<ds.length:=(by omega);obtain⟨d,hd⟩:=bl hi;unfold Sm at hS;have ih:=Mv hS hc s n (i+1) (by omega) (by omega);have h:=Jf (s:=s) hd (hc d (bE hd)) _ 0 rfl (by omega);rw[g191L1e]at h;rw[g191L0e]at ih⊢;rw[aX hd];simp at ih h;cases e:bD (fun c=>decide (c.name=s)) d.cons with
   |some k=>
     rw[e]at h;simp at h;simp (disch:=omega) [-getElem?_pos,g191B0,hd,hi,jl,GB,e,g191L1e,h]
   |none=>
     rw[e]at h;simp at h;simp (disch:=omega) [-getElem?_pos,g191B0,hd,hi,jl,GB,e,g191L1e,h,aw];rw[g191L0e];simp[ih]
theorem c191{ds:List Dt}(hS:Sm ds)(hc:∀d∈ds,Sm d.cons){s:bM}:(aC AP).p 191 [.az (ds.map Dt.pv),.str s]=some (rF (jl ds s 0)):=by
 have h:=Mv hS hc s _ 0 rfl (by omega);rw[ah (af:=g191) rfl rfl (by decide)];rw[g191L0e]at h;simp at h;cases e:jl ds s 0 with
 |none=>rw[e]at h;simp at h;simp[g191,g191L0e,h,rF]
 |some q=>rw[e]at h;simp at h;simp[g191,g191L0e,h,rF]
def fq(d:Dt)(as:List Ar):Bool:=decide (d.cons.map dn.name=as.map cz.dx)
def kG(ds:List Dt)(as:List Ar):Option Nat:=bD (fun d=>fq d as) ds
def kH:Option Nat→List PV
 |some i=>[vI i,.bool true]
 |none=>[vI 0,.bool false]
theorem IA:Lf dn.pv (fun c:dn=>[vI c.pos,.str c.name,.az (c.fields.map Ty.pv)]) 3:=⟨fun _=>rfl,fun _=>rfl,fun _=>by simp⟩
theorem KA:Lf Ar.pv Ar.cells 14:=⟨fun _=>rfl,fun x=>dW.len x,fun x=>by simp[Ar.cells,Ex.bX]⟩
theorem qf:∀{cs:List dn} {as:List Ar},jx (fun (c:dn) (a:Ar)=>decide (c.name=a.dx)) cs as=decide (cs.map dn.name=as.map cz.dx)
 |[],[]=>by simp[jx]
 |c::cs,a::as=>by simp only[jx,qf (cs:=cs) (as:=as),List.map_cons,List.cons.injEq,Bool.decide_and]
 |[],_::_=>by simp[jx]
 |_::_,[]=>by simp[jx]
theorem KB{sh:Sh}(hq:aJ sh){cs:List dn}:Gi (.fn 419 []) sh (fun c:dn=>[vI c.pos,.str c.name,.az (c.fields.map Ty.pv)]) Ar.cells (fun (c:dn) (a:Ar)=>decide (c.name=a.dx)) cs:=by
 intro x _ y
 have c:(aC AP).i 419 [.pv x.pv,.pv (Ar.pv y)] sh []=some ([.pv (.bool (decide (x.name=y.dx)))],sh,[]):=by
   rw[aH (af:=g419) rfl (by simp[g419])];by_cases e:x.name=y.dx<;>simp[g419,hq.norm,e]
 simp at c;simp[Ar.cells,Ex.bX,hq.norm,hq.shift,c]
theorem c418{sh:Sh}(hq:aJ sh){cs:List dn}(hS:Sm cs){as:List Ar}:(aC AP).i 418 [.pv (.az (cs.map dn.pv)),.pv (.az (as.map Ar.pv)),.fn 419 []] sh []=some ([.pv (.bool (decide (cs.map dn.name=as.map cz.dx)))],sh,[]):=by
 rw[←qf];exact Oi IA KA (z1:=[vI 0,.str [],.az []]) (z2:=[vI 0,.str [],.az [],vI 0,vI 0,.str [],vI 0,.az [],.az [],vI 0,.str [],vI 0,vI 0,.az []]) rfl rfl (m:=418) rfl hS hq rfl (KB hq)
theorem KC{sh:Sh}(hq:aJ sh){as:List Ar}{b:Nat}(hb:sh[b]?=some (some [.pv (.az (as.map Ar.pv))])){ds:List Dt}(hc:∀d∈ds,Sm d.cons):tq (.fn 417 [.a_ b 0]) sh Dt.pv (fun d=>fq d as) ds:=by
 intro d hd;have k:=c418 hq (hc d hd) (as:=as)
 have c:(aC AP).i 417 [.pv d.pv,.a_ b 0] sh []=some ([.pv (.bool (fq d as))],sh,[]):=by
   rw[aH (af:=g417) rfl (by simp[g417])];simp[-getElem?_pos,g417,hq.norm,hq.shift,hb,k,fq]
 simp at c;simp[hq.norm,hq.shift,c]
theorem c407{ds:List Dt}(hS:Sm ds)(hc:∀d∈ds,Sm d.cons){as:List Ar}:(aC AP).p 407 [.az (ds.map Dt.pv),.az (as.map Ar.pv)]=some (kH (kG ds as)):=by
 have hq:aJ [some [AV.pv (.az (as.map Ar.pv))]]:=aJ.one (by intro v hv;simp at hv;exact⟨_,hv⟩);have k:=L8 L6 (k:=416) rfl hS hq (g:=417) (cap:=[.a_ 0 0]) rfl (KC hq (b:=0) rfl hc);rw[ah (af:=g407) rfl rfl (by decide)];unfold kG;cases e:bD (fun d=>fq d as) ds with
 |none=>rw[e]at k;simp[iK]at k;simp[g407,k,kH]
 |some i=>rw[e]at k;simp[iK]at k;simp[g407,k,kH]
abbrev wQ:=Int×Int
def fP(f:wQ):PV:=.agg [vI f.1,vI f.2]
@[simp] theorem FO(f:wQ):fP f=.agg [vI f.1,vI f.2]:=rfl
theorem c365{a b:Int}:(aC AP).p 365 [vI a,vI b]=some [fP (a,b)]:=by
 rw[ah (af:=g365) rfl rfl (by decide)];simp[g365]
def findF(ds:List Dt):List Ar→Option wQ
 |[]=>none
 |a::r=>match jl ds a.dx 0 with
   |none=>some (9,a.pos)
   |some _=>findF ds r
noncomputable def iM:List bM→List bM→Bool
 |_,[]=>false
 |p,x::r=>decide (x∈p) || iM (p++[x]) r
noncomputable def wy:List dn→List Ar→wQ
 |c::cs,a::as=>if a.vars.length≠c.fields.length then (8,a.pos) else if iM [] a.vars=true then (6,a.pos) else wy cs as
 |_,_=>(0,0)
noncomputable def kI(ds:List Dt)(e:Ex):wQ:=match findF ds e.aB with
 |some f=>f
 |none=>match kG ds e.aB with
   |none=>(10,e.pos)
   |some i=>match ds[i]? with
     |some d=>wy d.cons e.aB
     |none=>(0,0)
theorem Jg{ds:List Dt}{i:Nat}{d:Dt}(hd:ds[i]?=some d){as:List Ar}(hS:Sm as):∀(n k:Nat),as.length-k=n→k≤as.length→∀s:Bool,(s=true→as.length=d.cons.length)→∃j:Int,
   cl AP g390L1 ⟨[(0,.pv (.az (ds.map Dt.pv))),(1,.pv (.az (as.map Ar.pv))),(6,.pv (vI i)),(7,.pv (.bool s)),(8,.pv (vI k))],[],[],[]⟩ =
     some (.exit 2,⟨[(0,.pv (.az (ds.map Dt.pv))),(1,.pv (.az (as.map Ar.pv))),(6,.pv (vI i)),(7,.pv (.bool (s && decide ((d.cons.drop k).map dn.name=(as.drop k).map cz.dx)))),(8,.pv (vI j)),(30,.pv (.bool false))],[],[],[]⟩)
 |0,k,hn,hk,s,hs=>by
   have:k=as.length:=by omega
   subst this;refine⟨as.length,?_⟩;rw[g390L1e];cases s with
   |false=>simp[g390B1]
   |true=>simp[g390B1,hs rfl]
 |n+1,k,hn,hk,s,hs=>by
   have hk:k<as.length:=(by omega);unfold Sm at hS;have hil:=(List.getElem?_eq_some_iff.1 hd).1;cases s with
   |false=>
     refine⟨k,?_⟩;rw[g390L1e];simp[g390B1]
   |true=>
     have hl:=hs rfl;obtain⟨a,ha⟩:=bl hk;obtain⟨c,hc⟩:=bl (hl ▸ hk);have hk2:k<d.cons.length:=(by omega);obtain⟨j,ih⟩:=Jg hd hS n (k+1) (by omega) (by omega) (decide (a.dx=c.name)) (fun _=>hl);refine⟨j,?_⟩;rw[aX ha,aX hc]
     have key:(true && decide ((c::d.cons.drop (k+1)).map dn.name=(a::as.drop (k+1)).map cz.dx))=(decide (a.dx=c.name) && decide ((d.cons.drop (k+1)).map dn.name=(as.drop (k+1)).map cz.dx)):=by
       rw[Bool.eq_iff_iff];simp[eq_comm (a:=c.name)]
     rw[key];generalize (decide (a.dx=c.name) && decide ((d.cons.drop (k+1)).map dn.name=(as.drop (k+1)).map cz.dx))=r at ih⊢;rw[g390L1e]at ih⊢;simp at ih;by_cases e:a.dx=c.name
     ·simp[e]at ih;simp (disch:=omega) [-getElem?_pos,g390B1,hk,hk2,hil,ha,hc,hd,aw,e];rw[g390L1e];simp[ih]
     · simp[e]at ih;have e':(a.dx == c.name)=false:=by simpa using e
       simp (disch:=omega) [-getElem?_pos,g390B1,hk,hk2,hil,ha,hc,hd,aw,e'];rw[g390L1e];simp[ih]
theorem Mw{ds:List Dt}(hS:Sm ds){as:List Ar}(hA:Sm as):∀(n i:Nat),ds.length-i=n→i≤ds.length →
   cl AP g390L0 ⟨[(0,.pv (.az (ds.map Dt.pv))),(1,.pv (.az (as.map Ar.pv))),(6,.pv (vI i))],[],[],[]⟩ =
     match bD (fun d=>fq d as) (ds.drop i) with
     |some k=>some (.ret,⟨[(4,.pv (vI (i+k:Nat))),(5,.pv (.bool true))],[],[],[]⟩)
     |none=>some (.exit 0,⟨[(0,.pv (.az (ds.map Dt.pv))),(1,.pv (.az (as.map Ar.pv))),(6,.pv (vI ds.length)),(12,.pv (.bool false))],[],[],[]⟩)
 |0,i,hn,hi=>by
   have:i=ds.length:=by omega
   subst this;rw[g390L0e];simp[g390B0,bD]
 |n+1,i,hn,hi=>by
   have hi:i<ds.length:=(by omega);obtain⟨d,hd⟩:=bl hi;have ih:=Mw hS hA n (i+1) (by omega) (by omega);obtain⟨j,h⟩:=Jg hd hA _ 0 rfl (by omega) (decide (as.length=d.cons.length)) (by simp);unfold Sm at hS
   have key:(decide (as.length=d.cons.length) && decide (d.cons.map dn.name=as.map cz.dx))=fq d as:=by
     unfold fq;by_cases e:d.cons.map dn.name=as.map cz.dx
     ·have:=congrArg List.length e;simp at this;simp[e,this]
     ·simp[e]
   rw[List.drop_zero,List.drop_zero,key]at h;rw[g390L1e]at h;rw[g390L0e]at ih⊢;rw[aX hd];simp only[bD];simp at ih;by_cases e:fq d as=true
   · rw[if_pos e];rw[e]at h;have hl:as.length=d.cons.length:=by simp[fq]at e;simpa using (congrArg List.length e).symm
     simp[hl]at h;simp (disch:=omega) [-getElem?_pos,g390B0,hi,hd,hl,g390L1e,h]
   · rw[if_neg e];have e:fq d as=false:=by simpa using e
     rw[e]at h;by_cases hl:as.length=d.cons.length
     · simp[hl]at h;simp (disch:=omega) [-getElem?_pos,g390B0,hi,hd,hl,g390L1e,h,aw];rw[g390L0e];simp[ih];cases bD (fun d=>fq d as) (ds.drop (i+1)) with
       |none=>rfl
       |some k=>simp;omega
     · have hl':((as.length:Int) == (d.cons.length:Int))=false:=(by rw[beq_eq_false_iff_ne];omega);simp[hl]at h;simp (disch:=omega) [-getElem?_pos,g390B0,hi,hd,hl',g390L1e,h,aw];rw[g390L0e];simp[ih];cases bD (fun d=>fq d as) (ds.drop (i+1)) with
       |none=>rfl
       |some k=>simp;omega
theorem c390{ds:List Dt}(hS:Sm ds){as:List Ar}(hA:Sm as):(aC AP).p 390 [.az (ds.map Dt.pv),.az (as.map Ar.pv)]=some (kH (kG ds as)):=by
 have h:=Mw hS hA _ 0 rfl (by omega);simp at h;rw[ah (af:=g390) rfl rfl (by decide)];unfold kG;cases e:bD (fun d=>fq d as) ds with
 |none=>rw[e]at h;simp at h;simp[g390,h,kH]
 |some i=>rw[e]at h;simp at h;simp[g390,h,kH]
abbrev m2(f:wQ):List AV:=[.pv (vI f.1),.pv (vI f.2)]
theorem Jh{ds:List Dt}(hS:Sm ds)(hc:∀d∈ds,Sm d.cons){e:Ex}(hA:e.aB.length≤1000):∀(n i:Nat),e.aB.length-i=n→i≤e.aB.length →
   cl AP g379L0 ⟨[(0,.pv (.az (ds.map Dt.pv))),(3,.aK 3 0),(4,.aK 4 0),(5,.pv (vI i))],[(3,e.cl),(4,m2 (0,0))],[],[]⟩ =
     match findF ds (e.aB.drop i) with
     |some f=>some (.ret,⟨[(4,.aK 4 0)],[(4,m2 f)],[],[]⟩)
     |none=>some (.exit 0,⟨[(0,.pv (.az (ds.map Dt.pv))),(3,.aK 3 0),(4,.aK 4 0),(5,.pv (vI e.aB.length)),(18,.pv (.bool false))],[(3,e.cl),(4,m2 (0,0))],[],[]⟩)
 |0,i,hn,hi=>by
   have:i=e.aB.length:=by omega
   subst this;rw[g379L0e];simp[g379B0,findF]
 |n+1,i,hn,hi=>by
   have hi:i<e.aB.length:=(by omega);obtain⟨a,ha⟩:=bl hi;have ih:=Jh hS hc hA n (i+1) (by omega) (by omega);have k:=c191 hS hc (s:=a.dx);have k2:=c365 (a:=9) (b:=a.pos);simp at k2;rw[g379L0e]at ih⊢;rw[aX ha];simp only[findF];simp at ih;cases q:jl ds a.dx 0 with
   |none=>
     rw[q]at k;simp[rF]at k;simp (disch:=omega) [-getElem?_pos,g379B0,hi,ha,k,k2]
   |some r=>
     rw[q]at k;simp[rF]at k;simp (disch:=omega) [-getElem?_pos,g379B0,hi,ha,k,aw];rw[g379L0e];simp[ih]
theorem Ji{ds:List Dt}{e:Ex}{i9 i:Nat}{a:Ar}(ha:e.aB[i]?=some a)(hv:a.vars.length≤1000):∀(n k:Nat),a.vars.length-k=n→k≤a.vars.length →
   cl AP g379L2 ⟨[(0,.pv (.az (ds.map Dt.pv))),(3,.aK 3 0),(4,.aK 4 0),(9,.pv (vI i9)),(11,.pv (vI i)),(12,.pv (.az (a.vars.map .str))),(13,.pv (vI k))],[(3,e.cl),(4,m2 (0,0))],[],[]⟩ =
     if iM (a.vars.take k) (a.vars.drop k)=true then some (.ret,⟨[(4,.aK 4 0)],[(4,m2 (6,a.pos))],[],[]⟩)
     else some (.exit 4,⟨[(0,.pv (.az (ds.map Dt.pv))),(3,.aK 3 0),(4,.aK 4 0),(9,.pv (vI i9)),(11,.pv (vI i)),(12,.pv (.az (a.vars.map .str))),(13,.pv (vI a.vars.length)),(90,.pv (.bool false))],[(3,e.cl),(4,m2 (0,0))],[],[]⟩)
 |0,k,hn,hk=>by
   have:k=a.vars.length:=by omega
   subst this;rw[g379L2e];simp[g379B2,iM]
 |n+1,k,hn,hk=>by
   have hk:k<a.vars.length:=(by omega);have hil:=(List.getElem?_eq_some_iff.1 ha).1;obtain⟨x,hx⟩:=bl hk;have ih:=Ji (ds:=ds) (i9:=i9) ha hv n (k+1) (by omega) (by omega);have k1:=c364 (s:=a.vars.take k) (by unfold Sm;simp;omega) (y:=x);have k2:=c365 (a:=6) (b:=a.pos);have hsl:=Iy (sz:=1) (l:=a.vars.map PV.str) (k:=.i64) (h:=k) (by omega) (by simp;omega);simp at k2 hsl;rw[List.map_take]at k1;rw[List.take_add_one,hx]at ih;simp only[Option.toList_some]at ih;rw[g379L2e]at ih⊢;rw[aX hx];simp at ih;by_cases q:x∈a.vars.take k
   ·have hq:iM (a.vars.take k) (x::a.vars.drop (k+1))=true:=(by simp[iM,q]);rw[hq];rw[decide_eq_true q]at k1;simp (disch:=omega) [-getElem?_pos,g379B2,hk,hil,ha,hx,hsl,k1,k2]
   ·have hq:iM (a.vars.take k) (x::a.vars.drop (k+1))=iM (a.vars.take k++[x]) (a.vars.drop (k+1)):=(by simp[iM,q]);rw[hq];rw[decide_eq_false q]at k1;simp (disch:=omega) [-getElem?_pos,g379B2,hk,hil,ha,hx,hsl,k1,aw];rw[g379L2e];simp[ih];by_cases q3:iM (a.vars.take k++[x]) (a.vars.drop (k+1))=true<;>simp[q3]
theorem Jj{ds:List Dt}{e:Ex}{i9:Nat}{d:Dt}(hd:ds[i9]?=some d)(hA:e.aB.length≤1000)(hv:∀a∈e.aB,a.vars.length≤1000)(hl:e.aB.length=d.cons.length):∀(n i:Nat),e.aB.length-i=n→i≤e.aB.length →
   cl AP g379L1 ⟨[(0,.pv (.az (ds.map Dt.pv))),(3,.aK 3 0),(4,.aK 4 0),(9,.pv (vI i9)),(11,.pv (vI i))],[(3,e.cl),(4,m2 (0,0))],[],[]⟩ =
     if (wy (d.cons.drop i) (e.aB.drop i)).1≠0 then some (.ret,⟨[(4,.aK 4 0)],[(4,m2 (wy (d.cons.drop i) (e.aB.drop i)))],[],[]⟩)
     else some (.exit 2,⟨[(0,.pv (.az (ds.map Dt.pv))),(3,.aK 3 0),(4,.aK 4 0),(9,.pv (vI i9)),(11,.pv (vI e.aB.length)),(58,.pv (.bool false))],[(3,e.cl),(4,m2 (0,0))],[],[]⟩)
 |0,i,hn,hi=>by
   have:i=e.aB.length:=by omega
   subst this;rw[g379L1e,il (l:=d.cons) (by omega),il (l:=e.aB) (by omega)];simp[g379B1,wy]
 |n+1,i,hn,hi=>by
   have hi:i<e.aB.length:=(by omega);have hi2:i<d.cons.length:=(by omega);have hil:=(List.getElem?_eq_some_iff.1 hd).1;obtain⟨a,ha⟩:=bl hi;obtain⟨c,hc⟩:=bl hi2;have ih:=Jj hd hA hv hl n (i+1) (by omega) (by omega);have h:=Ji (ds:=ds) (i9:=i9) ha (hv a (bE ha)) _ 0 rfl (by omega);have k2:=c365 (a:=8) (b:=a.pos);simp at k2;rw[List.take_zero,List.drop_zero]at h;rw[g379L2e]at h;rw[g379L1e]at ih⊢;rw[aX ha,aX hc];simp only[wy];simp at ih h;by_cases q:a.vars.length=c.fields.length
   · by_cases q2:iM [] a.vars=true
     ·simp[q2,q]at h;simp (disch:=omega) [-getElem?_pos,g379B1,hi,hi2,hil,ha,hc,hd,q,q2,g379L2e,h]
     ·simp[q2,q]at h;simp (disch:=omega) [-getElem?_pos,g379B1,hi,hi2,hil,ha,hc,hd,q,q2,g379L2e,h,aw];rw[g379L1e];simp[ih]
   ·have q':¬(a.vars.length:Int)=c.fields.length:=(by omega);simp (disch:=omega) [-getElem?_pos,g379B1,hi,hi2,hil,ha,hc,hd,q,q',k2]
theorem wz{ds:List Dt}{as:List Ar}{i:Nat}(h:kG ds as=some i):∃d,ds[i]?=some d∧as.length=d.cons.length:=by
 unfold kG at h
 have key:∀{l:List Dt} {k:Nat},bD (fun d=>fq d as) l=some k→∃d,l[k]?=some d∧fq d as=true:=by
   intro l;induction l with
   |nil=>intro k h;simp[bD]at h
   |cons x r ih=>
     intro k h;simp only[bD]at h;split at h
     ·rename_i e;cases h;exact⟨x,rfl,e⟩
     · cases h':bD (fun d=>fq d as) r with
       |none=>rw[h']at h;simp at h
       |some k'=>rw[h']at h;simp at h;subst h;simpa using ih h'
 obtain⟨d,h1,h2⟩:=key h;refine⟨d,h1,?_⟩;unfold fq at h2;have:=congrArg List.length (of_decide_eq_true h2);simpa using this.symm
theorem me:∀{cs:List dn} {as:List Ar},(wy cs as).1=0→wy cs as=(0,0)
 |[],_,_=>by simp[wy]
 |_::_,[],_=>by simp[wy]
 |c::cs,a::as,h=>by
   simp only[wy]at h⊢;split at h
   ·simp at h
   · rename_i h1;rw[if_neg h1];split at h
     ·simp at h
     ·rename_i h2;rw[if_neg h2];exact me h
theorem c379{ds:List Dt}(hS:Sm ds)(hc:∀d∈ds,Sm d.cons){e:Ex}(hO:e.Ok):(aC AP).p 379 [.az (ds.map Dt.pv),e.pv]=some [fP (kI ds e)]:=by
 have hA:=hO.a;have h:=Jh hS hc hA _ 0 rfl (by omega);rw[ah (af:=g379) rfl rfl (by decide)];unfold kI;rw[List.drop_zero]at h;cases q:findF ds e.aB with
 |some f=>
   rw[q]at h;simp at h;simp[g379,h]
 |none=>
   rw[q]at h;simp at h;have k:=c390 hS (as:=e.aB) (by unfold Sm;omega);cases q2:kG ds e.aB with
   |none=>
     rw[q2]at k;have k2:=c365 (a:=10) (b:=e.pos);simp[kH]at k k2;simp[g379,h,k,k2]
   |some i=>
     rw[q2]at k;simp[kH]at k;obtain⟨d,hd,hl⟩:=wz q2;have h2:=Jj hd hA hO.v hl _ 0 rfl (by omega);rw[List.drop_zero,List.drop_zero]at h2;simp only[hd];by_cases q3:(wy d.cons e.aB).1=0
     ·have:=me q3;rw[this]at h2⊢;simp at h2;simp[g379,h,k,h2]
     ·simp[q3]at h2;simp[g379,h,k,h2]
theorem Jk{ds:List Dt}(hS:Sm ds)(hc:∀d∈ds,Sm d.cons){e:Ex}(hA:e.aB.length≤1000):∀(n i:Nat),e.aB.length-i=n→i≤e.aB.length →
   cl AP g415L0 ⟨[(0,.pv (.az (ds.map Dt.pv))),(3,.aK 3 0),(4,.aK 4 0),(17,.pv (.az (e.aB.map Ar.pv))),(18,.pv (vI e.aB.length)),(19,.pv (vI i))],[(3,e.cl),(4,m2 (0,0))],[],[]⟩ =
     match findF ds (e.aB.drop i) with
     |some f=>some (.ret,⟨[(4,.aK 4 0)],[(4,m2 f)],[],[]⟩)
     |none=>some (.exit 0,⟨[(0,.pv (.az (ds.map Dt.pv))),(3,.aK 3 0),(4,.aK 4 0),(17,.pv (.az (e.aB.map Ar.pv))),(18,.pv (vI e.aB.length)),(19,.pv (vI e.aB.length)),(20,.pv (.bool false))],[(3,e.cl),(4,m2 (0,0))],[],[]⟩)
 |0,i,hn,hi=>by
   have:i=e.aB.length:=by omega
   subst this;rw[g415L0e];simp[g415B0,findF]
 |n+1,i,hn,hi=>by
   have hi:i<e.aB.length:=(by omega);obtain⟨a,ha⟩:=bl hi;have ih:=Jk hS hc hA n (i+1) (by omega) (by omega);have k:=c190 hS hc (s:=a.dx);rw[g415L0e]at ih⊢;rw[aX ha];simp only[findF];simp at ih;cases q:jl ds a.dx 0 with
   |none=>
     rw[q]at k;simp[rF]at k;simp (disch:=omega) [-getElem?_pos,g415B0,hi,ha,k]
   |some r=>
     rw[q]at k;simp[rF]at k;simp (disch:=omega) [-getElem?_pos,g415B0,hi,ha,k,aw];rw[g415L0e];simp[ih]
@[simp] def Ar.cl(a:Ar):List AV:=.pv (vI a.pos)::.pv (.str a.dx)::.pv (.az (a.vars.map .str))::a.body.cl
theorem Jl{ds:List Dt}{wM i:Nat}{as:List Ar}{a:Ar}(hv:a.vars.length≤1000):∀(n k:Nat),a.vars.length-k=n→k≤a.vars.length →
   cl AP g415L2 ⟨[(0,.pv (.az (ds.map Dt.pv))),(4,.aK 4 0),(10,.pv (vI wM)),(13,.aK 13 0),(50,.pv (.az (as.map Ar.pv))),(51,.pv (vI as.length)),(52,.pv (vI i)),(75,.pv (.az (a.vars.map .str))),(76,.pv (vI a.vars.length)),(77,.pv (vI k))],[(4,m2 (0,0)),(13,Ar.cl a)],[],[]⟩ =
     if iM (a.vars.take k) (a.vars.drop k)=true then some (.ret,⟨[(4,.aK 4 0)],[(4,m2 (6,a.pos))],[],[]⟩)
     else some (.exit 4,⟨[(0,.pv (.az (ds.map Dt.pv))),(4,.aK 4 0),(10,.pv (vI wM)),(13,.aK 13 0),(50,.pv (.az (as.map Ar.pv))),(51,.pv (vI as.length)),(52,.pv (vI i)),(75,.pv (.az (a.vars.map .str))),(76,.pv (vI a.vars.length)),(77,.pv (vI a.vars.length)),(78,.pv (.bool false))],[(4,m2 (0,0)),(13,Ar.cl a)],[],[]⟩)
 |0,k,hn,hk=>by
   have:k=a.vars.length:=by omega
   subst this;rw[g415L2e];simp[g415B2,iM]
 |n+1,k,hn,hk=>by
   have hk:k<a.vars.length:=(by omega);obtain⟨x,hx⟩:=bl hk;have ih:=Jl (ds:=ds) (wM:=wM) (i:=i) (as:=as) hv n (k+1) (by omega) (by omega);have k1:=c214 (s:=a.vars.take k) (by unfold Sm;simp;omega) (y:=x);have hsl:=Iy (sz:=1) (l:=a.vars.map PV.str) (k:=.i64) (h:=k) (by omega) (by simp;omega);simp at hsl;rw[List.map_take]at k1;rw[List.take_add_one,hx]at ih;simp only[Option.toList_some]at ih;rw[g415L2e]at ih⊢;rw[aX hx];simp at ih;by_cases q:x∈a.vars.take k
   ·have hq:iM (a.vars.take k) (x::a.vars.drop (k+1))=true:=(by simp[iM,q]);rw[hq];rw[decide_eq_true q]at k1;simp (disch:=omega) [-getElem?_pos,g415B2,hk,hx,hsl,k1]
   ·have hq:iM (a.vars.take k) (x::a.vars.drop (k+1))=iM (a.vars.take k++[x]) (a.vars.drop (k+1)):=(by simp[iM,q]);rw[hq];rw[decide_eq_false q]at k1;simp (disch:=omega) [-getElem?_pos,g415B2,hk,hx,hsl,k1,aw];rw[g415L2e];simp[ih];by_cases q3:iM (a.vars.take k++[x]) (a.vars.drop (k+1))=true<;>simp[q3]
theorem Jm{ds:List Dt}{wM:Nat}{d:Dt}(hd:ds[wM]?=some d){as:List Ar}(hA:as.length≤1000)(hv:∀a∈as,a.vars.length≤1000)(hl:as.length=d.cons.length):∀(n i:Nat),as.length-i=n→i≤as.length →
   cl AP g415L1 ⟨[(0,.pv (.az (ds.map Dt.pv))),(4,.aK 4 0),(10,.pv (vI wM)),(50,.pv (.az (as.map Ar.pv))),(51,.pv (vI as.length)),(52,.pv (vI i))],[(4,m2 (0,0))],[],[]⟩ =
     if (wy (d.cons.drop i) (as.drop i)).1≠0 then some (.ret,⟨[(4,.aK 4 0)],[(4,m2 (wy (d.cons.drop i) (as.drop i)))],[],[]⟩)
     else some (.exit 2,⟨[(0,.pv (.az (ds.map Dt.pv))),(4,.aK 4 0),(10,.pv (vI wM)),(50,.pv (.az (as.map Ar.pv))),(51,.pv (vI as.length)),(52,.pv (vI as.length)),(53,.pv (.bool false))],[(4,m2 (0,0))],[],[]⟩)
 |0,i,hn,hi=>by
   have:i=as.length:=by omega
   subst this;rw[g415L1e,il (l:=d.cons) (by omega),il (l:=as) (by omega)];simp[g415B1,wy]
 |n+1,i,hn,hi=>by
   have hi:i<as.length:=(by omega);have hi2:i<d.cons.length:=(by omega);have hil:=(List.getElem?_eq_some_iff.1 hd).1;obtain⟨a,ha⟩:=bl hi;obtain⟨c,hc⟩:=bl hi2;have ih:=Jm hd hA hv hl n (i+1) (by omega) (by omega);have h:=Jl (ds:=ds) (wM:=wM) (i:=i) (as:=as) (hv a (bE ha)) _ 0 rfl (by omega);rw[List.take_zero,List.drop_zero]at h;rw[g415L2e]at h;rw[g415L1e]at ih⊢;rw[aX ha,aX hc];simp only[wy];simp at ih h;by_cases q:a.vars.length=c.fields.length
   · by_cases q2:iM [] a.vars=true
     ·simp[q2,q]at h;simp (disch:=omega) [-getElem?_pos,g415B1,hi,hi2,hil,ha,hc,hd,q,q2,g415L2e,h]
     ·simp[q2,q]at h;simp (disch:=omega) [-getElem?_pos,g415B1,hi,hi2,hil,ha,hc,hd,q,q2,g415L2e,h,aw];rw[g415L1e];simp[ih]
   ·have q':¬(a.vars.length:Int)=c.fields.length:=(by omega);simp (disch:=omega) [-getElem?_pos,g415B1,hi,hi2,hil,ha,hc,hd,q,q']
theorem c415{ds:List Dt}(hS:Sm ds)(hc:∀d∈ds,Sm d.cons){e:Ex}(hO:e.Ok):(aC AP).p 415 [.az (ds.map Dt.pv),e.pv]=some [fP (kI ds e)]:=by
 have hA:=hO.a;have h:=Jk hS hc hA _ 0 rfl (by omega);rw[ah (af:=g415) rfl rfl (by decide)];unfold kI;rw[List.drop_zero]at h;cases q:findF ds e.aB with
 |some f=>
   rw[q]at h;simp at h;simp[g415,h]
 |none=>
   rw[q]at h;simp at h;have k:=c407 hS hc (as:=e.aB);cases q2:kG ds e.aB with
   |none=>
     rw[q2]at k;simp[kH]at k;simp[g415,h,k]
   |some i=>
     rw[q2]at k;simp[kH]at k;obtain⟨d,hd,hl⟩:=wz q2;have h2:=Jm hd hA hO.v hl _ 0 rfl (by omega);rw[List.drop_zero,List.drop_zero]at h2;simp only[hd];by_cases q3:(wy d.cons e.aB).1=0
     ·have:=me q3;rw[this]at h2⊢;simp at h2;simp[g415,h,k,h2]
     ·simp[q3]at h2;simp[g415,h,k,h2]
theorem c409{a b:List bM}(h:a.length+b.length≤1000000000000):(aC AP).p 409 [.az (a.map .str),.az (b.map .str)]=some [.az ((a++b).map .str)]:=by
 rw[ah (af:=g409) rfl rfl (by decide)];have h1:a.length*16≤140737488355328:=by omega
 have h2:(a.length+b.length)*16≤140737488355328:=by omega
 have h3:b.length*16≤140737488355328:=by omega
 by_cases ha:a=[]
 · subst ha;by_cases hb:b=[]
   ·subst hb;simp[g409]
   ·simp[g409,hb,h3]
 · by_cases hb:b=[]
   ·subst hb;simp[g409,ha,h1]
   ·simp[g409,ha,hb,h1,h2]
inductive Ex.AL (P:Ex→Prop):Ex→Prop
 |mk {e:Ex}:P e→(∀x∈e.ch,Ex.AL P x)→Ex.AL P e
theorem Ex.AL.h{P:Ex→Prop}{e:Ex}(h:e.AL P):P e:=by cases h;assumption
theorem Ex.AL.c{P:Ex→Prop}{e:Ex}(h:e.AL P):∀x∈e.ch,x.AL P:=by cases h;assumption
inductive Ex.tF:Nat→Ex→Prop
 |mk {n:Nat} {e:Ex}:(∀x∈e.ch,Ex.tF n x)→Ex.tF (n+1) e
theorem Ex.tF.c{n:Nat}{e:Ex}(h:Ex.tF (n+1) e):∀x∈e.ch,Ex.tF n x:=by cases h;assumption
noncomputable def dP(ds:List Dt)(names:List bM)(e:Ex):wQ:=
 if e.kind=1 then (if e.name∈names then (0,0) else (9,e.pos))
 else if e.kind=2 then (if (jl ds e.name 0).isSome then (0,0) else (9,e.pos))
 else if e.kind=8 then kI ds e
 else if e.kind=9 then (if e.ty.formed ds []=0 then (0,0) else (e.ty.formed ds [],e.pos))
 else (0,0)
def mW(f:Nat→Ex→wQ):Nat→List Ex→wQ
 |_,[]=>(0,0)
 |i,x::r=>if (f i x).1≠0 then f i x else mW f (i+1) r
theorem rK{f g:Nat→Ex→wQ}:∀{l:List Ex} {i:Nat},(∀i,∀x∈l,f i x=g i x)→mW f i l=mW g i l
 |[],_,_=>rfl
 |x::r,i,h=>by
   simp only[mW];rw[h i x (by simp),rK (l:=r) fun i y hy=>h i y (by simp[hy])]
theorem Ex.IB{e x:Ex}(h:x∈e.ch):SizeOf.sizeOf x<SizeOf.sizeOf e:=by
 rw[Ex.ch,List.mem_append,List.mem_map]at h;cases e;rcases h with h|⟨a,ha,rfl⟩
 ·have:=_root_.List.sizeOf_lt_of_mem h;simp at *;omega
 ·have:=_root_.List.sizeOf_lt_of_mem ha;have:=cz.mT a;simp at *;omega
open Classical in
noncomputable def Ex.aI(ds:List Dt)(e:Ex)(names:List bM):wQ:=
 if (dP ds names e).1≠0 then dP ds names e
 else mW (fun i x=>if _h:x∈e.ch then Ex.aI ds x (names++cN e i) else (0,0)) 0 e.ch
termination_by e
decreasing_by exact Ex.IB _h
theorem Ex.zI(ds:List Dt)(e:Ex)(names:List bM):e.aI ds names=if (dP ds names e).1≠0 then dP ds names e else mW (fun i x=>x.aI ds (names++cN e i)) 0 e.ch:=by
 rw[Ex.aI];split
 ·rfl
 ·exact rK fun i x hx=>by rw[dif_pos hx]
theorem qg{ds:List Dt}{e:Ex}(h:(kI ds e).1=0):kI ds e=(0,0):=by
 unfold kI at h⊢
 have hf:∀{as:List Ar} {f:wQ},findF ds as=some f→f.1=9:=by
   intro as;induction as with
   |nil=>intro f h;simp[findF]at h
   |cons a r ih=>
     intro f h;simp only[findF]at h;split at h
     ·cases h;rfl
     ·exact ih h
 cases q:findF ds e.aB with
 |some f=>rw[q]at h;simp only at h;rw[hf q]at h;cases h
 |none=>
   rw[q]at h;simp only at h⊢;cases q2:kG ds e.aB with
   |none=>rw[q2]at h;simp at h
   |some i=>
     rw[q2]at h;simp only at h⊢;cases q3:ds[i]? with
     |none=>rfl
     |some d=>rw[q3]at h;exact me h
theorem zJ{ds:List Dt}{names:List bM}{e:Ex}(h:(dP ds names e).1=0):dP ds names e=(0,0):=by
 unfold dP at h⊢;split
 · rename_i h1;rw[if_pos h1]at h;split
   ·rfl
   ·rename_i h2;rw[if_neg h2]at h;cases h
 · rename_i h1;rw[if_neg h1]at h;split
   · rename_i h2;rw[if_pos h2]at h;split
     ·rfl
     ·rename_i h3;rw[if_neg h3]at h;cases h
   · rename_i h2;rw[if_neg h2]at h;split
     ·rename_i h3;rw[if_pos h3]at h;exact qg h
     · rename_i h3;rw[if_neg h3]at h;split
       · rename_i h4;rw[if_pos h4]at h;split
         ·rfl
         ·rename_i h5;rw[if_neg h5]at h;exact absurd h h5
       ·rfl
theorem wA{f:Nat→Ex→wQ}(hf:∀i x,(f i x).1=0→f i x=(0,0)):∀{l:List Ex} {i:Nat},(mW f i l).1=0→mW f i l=(0,0)
 |[],_,_=>rfl
 |x::r,i,h=>by
   simp only[mW]at h⊢;split
   ·rename_i h1;rw[if_pos h1]at h;exact absurd h h1
   ·rename_i h1;rw[if_neg h1]at h;exact wA hf h
theorem wB{ds:List Dt}:∀{e:Ex} {names:List bM},(e.aI ds names).1=0→e.aI ds names=(0,0):=by
 intro e;refine Ex.recC (p:=fun e=>∀{names:List bM},(e.aI ds names).1=0→e.aI ds names=(0,0)) ?_ e;intro e ih names h;rw[Ex.zI]at h⊢;split
 ·rename_i h1;rw[if_pos h1]at h;exact absurd h h1
 · rename_i h1;rw[if_neg h1]at h
   have key:∀{l:List Ex} {i:Nat},(∀x∈l,x∈e.ch)→(mW (fun i x=>x.aI ds (names++cN e i)) i l).1=0→mW (fun i x=>x.aI ds (names++cN e i)) i l=(0,0):=by
     intro l;induction l with
     |nil=>intro i _ _;rfl
     |cons x r ihr=>
       intro i hl h;simp only[mW]at h⊢;split
       ·rename_i h1;rw[if_pos h1]at h;exact absurd h h1
       ·rename_i h1;rw[if_neg h1]at h;exact ihr (fun y hy=>hl y (by simp[hy])) h
   exact key (fun x hx=>hx) h
structure rL(e:Ex):Prop where
 ok:e.Ok
 one:e.One
 cw:e.AL fun x=>x.ty.Cw
theorem rL.c{e x:Ex}(h:rL e)(hx:x∈e.ch):rL x:=⟨h.ok.c x hx,h.one.c x hx,h.cw.c x hx⟩
theorem Mx{ds:List Dt}{names:List bM}{e:Ex}(he:rL e)(hn:names.length≤900000000)
   (ih:∀i,∀x∈e.ch,(aC AP).p 405 [.az (ds.map Dt.pv),.az ((names++cN e i).map .str),x.pv]=some [fP (x.aI ds (names++cN e i))]):∀(n i:Nat),e.ch.length-i=n→i≤e.ch.length →
   cl AP g405L0 ⟨[(0,.pv (.az (ds.map Dt.pv))),(1,.pv (.az (names.map .str))),(5,.aK 5 0),(6,.aK 6 0),(64,.pv (.az (e.ch.map Ex.pv))),(65,.pv (vI e.ch.length)),(66,.pv (vI i))],[(5,e.cl),(6,m2 (0,0))],[],[]⟩ =
     if (mW (fun i x=>x.aI ds (names++cN e i)) i (e.ch.drop i)).1≠0 then some (.ret,⟨[(6,.aK 6 0)],[(6,m2 (mW (fun i x=>x.aI ds (names++cN e i)) i (e.ch.drop i)))],[],[]⟩)
     else some (.exit 1,⟨[(0,.pv (.az (ds.map Dt.pv))),(1,.pv (.az (names.map .str))),(5,.aK 5 0),(6,.aK 6 0),(64,.pv (.az (e.ch.map Ex.pv))),(65,.pv (vI e.ch.length)),(66,.pv (vI e.ch.length)),(67,.pv (.bool false))],[(5,e.cl),(6,m2 (0,0))],[],[]⟩)
 |0,i,hk,hi=>by
   have:i=e.ch.length:=by omega
   subst this;rw[List.drop_length];generalize e.ch=C;rw[g405L0e];simp[g405B0,mW]
 |n+1,i,hk,hi=>by
   have hi:i<e.ch.length:=(by omega);obtain⟨x,hx⟩:=bl hi;have hlen:=Ex.c_ (e:=e);have hk1:=he.ok.k;have hk2:=he.ok.a;have hr:=Mx he hn ih n (i+1) (by omega) (by omega);have k1:=c411 hi he.one.h he.ok;have hbl:=gX he.ok (i:=i);have k2:=c409 (a:=names) (b:=cN e i) (by omega);have k3:=ih i x (bE hx);rw[aX hx];simp only[mW];generalize hN:names++cN e i=N at *;generalize hF:x.aI ds N=F at *;generalize hG:mW (fun i x=>x.aI ds (names++cN e i)) (i+1) (e.ch.drop (i+1))=G at *;clear ih;generalize cN e i=B at *;generalize e.ch=C at *;rw[g405L0e]at hr⊢;simp at k1 k2 k3 hr;by_cases q:F.1=0
   ·simp (disch:=omega) [-getElem?_pos,g405B0,hi,hx,k1,k2,k3,q,aw];rw[g405L0e];simp[hr]
   ·simp (disch:=omega) [-getElem?_pos,g405B0,hi,hx,k1,k2,k3,q]
theorem c405{ds:List Dt}(hS:Sm ds)(hc:∀d∈ds,Sm d.cons):∀(n:Nat) {e:Ex},rL e→e.tF n→∀names:List bM,names.length+1000*n≤900000000→(aC AP).p 405 [.az (ds.map Dt.pv),.az (names.map .str),e.pv]=some [fP (e.aI ds names)]
 |0,e,_,hh,_,_=>by cases hh
 |n+1,e,he,hh,names,hl=>by
   have ih:∀i,∀x∈e.ch,(aC AP).p 405 [.az (ds.map Dt.pv),.az ((names++cN e i).map .str),x.pv]=some [fP (x.aI ds (names++cN e i))]:=fun i x hx=>
     c405 hS hc n (he.c hx) (hh.c x hx) _ (by have:=gX he.ok (i:=i);simp;omega)
   have h:=Mx he (by omega) ih _ 0 rfl (by omega);have k1:=c414 he.ok;rw[List.drop_zero]at h;rw[Ex.zI];have hz:=wA (f:=fun i x=>x.aI ds (names++cN e i)) (fun i x h=>wB h) (l:=e.ch) (i:=0);clear ih;have k2:=c214 (s:=names) (by unfold Sm;omega) (y:=e.name);have k3:=c190 hS hc (s:=e.name);have k4:=c415 hS hc he.ok;have k5:=c185 hS (l:=[]) (by simp[Sm]) he.ok.t;generalize mW (fun i x=>x.aI ds (names++cN e i)) 0 e.ch=G at *;generalize e.ch=C at *;rw[ah (af:=g405) rfl rfl (by decide)];simp at k1 k2 k3 k4 k5
   have hG:(G=(0,0)∧G.1=0)∨(¬G.1=0):=by
     by_cases q:G.1=0
     ·exact .inl ⟨hz q,q⟩
     ·exact .inr q
   clear hz;generalize hQ:kI ds e=Q at *;generalize hT:e.ty.formed ds []=T at *;by_cases q1:e.kind=1
   · simp only[q1]at k1;by_cases q2:e.name∈names
     ·rcases hG with⟨rfl,hG⟩|hG<;>simp[hG,q1]at h<;>simp[q2]at k2<;>simp[g405,dP,q1,q2,k1,k2,h,hG]
     ·simp[q2]at k2;simp[g405,dP,q1,q2,k2]
   · by_cases q3:e.kind=2
     · simp only[q3]at k1;cases q4:jl ds e.name 0 with
       |none=>
         rw[q4]at k3;simp[rF]at k3;simp[g405,dP,q3,q4,k3]
       |some r=>
         rw[q4]at k3;simp[rF]at k3;rcases hG with⟨rfl,hG⟩|hG<;>simp[hG,q3]at h<;>simp[g405,dP,q3,q4,k1,k3,h,hG]
     · by_cases q5:e.kind=8
       · simp only[q5]at k1;by_cases q6:Q.1=0
         · have:Q=(0,0):=by rw[←hQ]at q6⊢;exact qg q6
           subst this;rcases hG with⟨rfl,hG⟩|hG<;>simp[hG,q5]at h<;>simp[q5]at k4<;>simp[g405,dP,q5,hQ,k1,k4,h,hG]
         ·simp[q5]at k4;simp[g405,dP,q5,hQ,k4,q6]
       · by_cases q7:e.kind=9
         · simp only[q7]at k1;by_cases q8:T=0
           ·subst q8;rcases hG with⟨rfl,hG⟩|hG<;>simp[hG,q7]at h<;>simp[g405,dP,q7,hT,k1,k5,h,hG]
           ·simp[g405,dP,q7,hT,k5,q8]
         ·rcases hG with⟨rfl,hG⟩|hG<;>simp[hG]at h<;>simp[g405,dP,q1,q3,q5,q7,k1,h,hG]
theorem j0:∀{as:List Ar} {xs:List Ex},xs.length=as.length→(cV as xs).map cz.body=xs
 |[],[],_=>rfl
 |[],_::_,h=>by simp at h
 |_::_,[],h=>by simp at h
 |a::as,x::xs,h=>by simp only[cV,List.map_cons,j0 (as:=as) (xs:=xs) (by simpa using h)]
theorem tG:∀{as:List Ar} {xs:List Ex},(cV as xs).map (fun a=>(a.dx,a.vars))=as.map (fun a=>(a.dx,a.vars))
 |[],xs=>by cases xs<;>rfl
 |a::as,[]=>rfl
 |a::as,x::xs=>by simp only[cV,List.map_cons,tG (as:=as) (xs:=xs)]
theorem tH{e:Ex}{c:List Ex}(h:c.length=e.kids.length+e.aB.length):(e.jA c).ch=c:=by
 unfold Ex.jA;rw[if_pos h];simp only[Ex.ch];rw[j0 (by simp;omega),List.take_append_drop]
theorem c145j{e:Ex}{X:Sh}:(aC AP).i 145 [.pv e.pv] X []=(aC AP).i 145 [.agg (e.Hg (.pv (.az (e.aB.map Ar.pv))))] X []:=by
 rw[aH (af:=g145) rfl (by simp[g145]),aH (af:=g145) rfl (by simp[g145])];simp[g145]
@[simp] theorem KD{l:List dn}:a0 3 (l.map dn.pv)=true:=by cases l<;>simp
def On(d:Dt):List AV:=[.pv (vI d.pos),.pv (.str d.name),.pv (.az (d.params.map .str)),.pv (.az (d.cons.map dn.pv))]
@[simp] theorem NG(d:Dt):On d=[.pv (vI d.pos),.pv (.str d.name),.pv (.az (d.params.map .str)),.pv (.az (d.cons.map dn.pv))]:=rfl
def Oo(a b:List (PV×PV)):Sh:=[some [.eE a],some [.eE b]]
@[simp] theorem NH(a b:List (PV×PV)):Oo a b=[some [.eE a],some [.eE b]]:=rfl
def NI(c:dn):List AV:=[.pv (vI c.pos),.pv (.str c.name),.pv (.az (c.fields.map Ty.pv))]
@[simp] theorem Nf(c:dn):NI c=[.pv (vI c.pos),.pv (.str c.name),.pv (.az (c.fields.map Ty.pv))]:=rfl
theorem My{sz τ:Nat}{l:List PV}{k:IntKind}{h:Int}(h0:0≤h)(h1:h≤l.length)(hs:a0 sz l=true):bH false sz true false false [.own l τ,.pv (.int k h)]=some (.pv (.az (l.drop h.toNat))):=by
 simp[bH,cr,cH,h0,h1,hs]
abbrev Mt:=List (Int×Ty)
def mp(m:Mt):List (PV×PV):=m.map fun a=>(vI a.1,a.2.pv)
structure Hd where
 name:bM
 dx:Bool
 args:List Ty
 types:List Ty
def Hd.pv(h:Hd):PV:=.agg [.str h.name,.bool h.dx,.az (h.args.map Ty.pv),.az (h.types.map Ty.pv)]
@[simp] theorem Hd.dR(h:Hd):h.pv=.agg [.str h.name,.bool h.dx,.az (h.args.map Ty.pv),.az (h.types.map Ty.pv)]:=rfl
def hC(nm:bM)(cn:Bool):List AV:=[.pv (.str nm),.pv (.bool cn),.pv (.az []),.pv (.az [])]
theorem GC:d9.Ok:=Ir rfl
theorem tI{n m:Nat}{e:Ex}(h:e.tF n):n≤m→e.tF m:=by
 induction h generalizing m with
 |mk _ ih=>
   intro hm;obtain⟨k,rfl⟩:∃k,m=k+1:=⟨m-1,by omega⟩;exact .mk fun x hx=>ih x hx (by omega)
theorem KE:d9.Cw:=⟨fun _=>rfl,by simp[d9]⟩
structure Bd where
 pos:Int
 rc:Bool
 name:bM
 sg:Bool
 sig:Ty
 body:Ex
def Bd.cells(b:Bd):List PV:=[vI b.pos,.bool b.rc,.str b.name,.bool b.sg,vI b.sig.kind,.str b.sig.name,vI b.sig.id,vI b.sig.home,.az (b.sig.args.map Ty.pv)]++b.body.cells
def Bd.pv(b:Bd):PV:=.agg b.cells
@[simp] theorem Bd.dR(b:Bd):b.pv=.agg [vI b.pos,.bool b.rc,.str b.name,.bool b.sg,vI b.sig.kind,.str b.sig.name,vI b.sig.id,vI b.sig.home,.az (b.sig.args.map Ty.pv),.int .i64 b.body.kind,.int .i64 b.body.pos,.str b.body.name,.int .i64 b.body.num,.az (b.body.kids.map Ex.pv),.az (b.body.aB.map Ar.pv),.int .i64 b.body.ty.kind,.str b.body.ty.name,.int .i64 b.body.ty.id,.int .i64 b.body.ty.home,.az (b.body.ty.args.map Ty.pv)]:=by
 rw[Bd.pv,Bd.cells,Ex.bX];rfl
theorem fe:Row Bd.cells 20:=⟨by omega,fun b=>by rw[Bd.cells,Ex.bX];rfl⟩
theorem Mz:El Bd.pv 20 true:=⟨fun b=>by simp,fun b=>by simp⟩
@[simp] theorem Lm{l:List Bd}:a0 20 (l.map Bd.pv)=true:=Mz.head l
theorem GD{l:List Bd}:((eV (aI Bd.cells l)).bind (dy 20 true l.length)).map PV.az=some (.az (l.map Bd.pv)):=ma fe
theorem KF{l:List Bd}:((l.map Bd.pv).flatMap aS).map AV.pv=aI Bd.cells l:=mb fe
theorem KG{e:Ex}(h:rL e){c:List Ex}(hl:c.length=e.ch.length)(hc:∀y∈c,rL y):rL (e.jA c):=by
 rw[Ex.c_]at hl;have hch:=tH hl;have hk:(e.jA c).kids.length=e.kids.length:=by rw[Ex.jA,if_pos hl];simp;omega
 have ha:(e.jA c).aB.map (fun a=>(a.dx,a.vars))=e.aB.map (fun a=>(a.dx,a.vars)):=by rw[Ex.jA,if_pos hl];simp only[tG]
 have ha2:(e.jA c).aB.length=e.aB.length:=by have:=congrArg List.length ha;simpa using this
 have hkd:(e.jA c).kind=e.kind:=by rw[Ex.jA,if_pos hl]
 have hty:(e.jA c).ty=e.ty:=by rw[Ex.jA,if_pos hl]
 refine⟨.mk (by have:=h.ok.k;omega) (by have:=h.ok.a;omega) ?_ (by rw[hty];exact h.ok.t) (by rw[hch];exact fun y hy=>(hc y hy).ok),.mk (by rw[hkd,hk];exact h.one.h) (by rw[hch];exact fun y hy=>(hc y hy).one),.mk (by rw[hty];exact h.cw.h) (by rw[hch];exact fun y hy=>(hc y hy).cw)⟩;intro a hm;have:(a.dx,a.vars)∈e.aB.map (fun a=>(a.dx,a.vars)):=by rw[←ha];exact List.mem_map_of_mem hm
 simp only[List.mem_map]at this;obtain⟨b,hb,hq⟩:=this;have:=h.ok.v b hb;simp at hq;rw[←hq.2];exact this
theorem MA{e:Ex}{c:List Ex}(hl:c.length=e.ch.length){n:Nat}(hc:∀y∈c,y.tF n):(e.jA c).tF (n+1):=by
 rw[Ex.c_]at hl;exact .mk (by rw[tH hl];exact hc)
theorem Jn{sz:Nat}{l:List PV}(h1:1≤l.length)(hs:a0 sz l=true):bH false sz true false false [.pv (.az l),.pv (.int .i64 1)]=some (.pv (.az (l.drop 1))):=by
 have h2:(1:Int)≤l.length:=by omega
 simp[bH,cr,cH,h2,hs]
def Ex.ca(x:Ex):List Int→Ex→Ex×Bool
 |[],_=>(x,true)
 |q::p,e=>if 0≤q∧q<e.ch.length then match e.ch[q.toNat]? with
     |some c=>match Ex.ca x p c with
       |(y,true)=>(e.jA (e.ch.set q.toNat y),true)
       |(_,false)=>(e,false)
     |none=>(e,false)
   else (e,false)
theorem c359f{x:Ex}:∀(p:List Int) (e:Ex),p.length<1000000→rL e→(aC AP).p 359 [e.pv,.az (p.map vI),x.pv]=some [(Ex.ca x p e).1.pv,.bool (Ex.ca x p e).2]
 |[],e,hp,he=>by
   rw[ah (af:=g359) rfl rfl (by decide)];simp[g359,Ex.ca]
 |q::p,e,hp,he=>by
   have hk:=he.ok.k;have ha:=he.ok.a;have hlen:=Ex.c_ (e:=e);have hz:¬(p.length:Int)+1=0:=(by omega);simp at hp
   have no:(q<0∨e.ch.length≤q)→(aC AP).p 359 [e.pv,.az ((q::p).map vI),x.pv]=some [e.pv,.bool false]:=by
     intro hq;obtain⟨k0,c1⟩:=c145i (e:=e) (A:=.pv (.az (e.aB.map Ar.pv))) hk ha (X:=[]) (by intro cs h;simp at h) (.inl rfl);have cj:=c145j (e:=e) (X:=[]);rw[c1]at cj;clear c1;by_cases z:e.ch=[]
     · rw[if_pos z]at cj;have z0:e.ch.length=0:=by rw[z];rfl
       simp at cj;rw[ah (af:=g359) rfl rfl (by decide)];by_cases q0:q<0
       ·simp[g359,hz,cj,q0]
       ·have q1:0≤q:=(by omega);simp[g359,hz,cj,q0,q1]
     · rw[if_neg z]at cj;have hqn:=((bt k0).app (aJ.one (aO (f:=Ex.cells) (l:=e.ch)))).norm;have hqs:=((bt k0).app (aJ.one (aO (f:=Ex.cells) (l:=e.ch)))).shift;simp only[List.nil_append,List.length_nil,Nat.zero_add]at cj;generalize nn k0++[some (aI Ex.cells e.ch)]=S0 at *;simp at cj;rw[ah (af:=g359) rfl rfl (by decide)];by_cases q0:q<0
       ·simp[g359,hz,cj,q0,hqn,hqs]
       ·have q1:(e.ch.length:Int)≤q:=(by omega);simp[g359,hz,cj,q0,q1,hqn,hqs]
   by_cases hq:0≤q∧q<e.ch.length
   · obtain⟨q0,q1⟩:=hq;obtain⟨i,rfl⟩:∃i:Nat,q=i:=⟨q.toNat,by omega⟩;have hi:i<e.ch.length:=by omega
     obtain⟨c,hc⟩:=bl hi;have hcm:=bE hc;have k1:=c359f (x:=x) p c (by omega) (he.c hcm);generalize hpr:Ex.ca x p c=yb at k1;obtain⟨y,b⟩:=yb
     have hR:Ex.ca x ((i:Int)::p) e=if b=true then (e.jA (e.ch.set i y),true) else (e,false):=by
       rw[Ex.ca,if_pos ⟨q0,q1⟩,Int.toNat_natCast,hc];simp only[hpr];cases b<;>rfl
     rw[hR];clear hR;have z:¬e.ch=[]:=by intro z;rw[z]at hi;simp at hi
     obtain⟨k0,c1⟩:=c145i (e:=e) (A:=.pv (.az (e.aB.map Ar.pv))) hk ha (X:=[]) (by intro cs h;simp at h) (.inl rfl);have cj:=c145j (e:=e) (X:=[]);rw[c1,if_neg z]at cj;clear c1;have hqn:=((bt k0).app (aJ.one (aO (f:=Ex.cells) (l:=e.ch)))).norm;have hqs:=((bt k0).app (aJ.one (aO (f:=Ex.cells) (l:=e.ch)))).shift;have hqn1:=((bt k0).app (aJ.one (aO (f:=Ex.cells) (l:=e.ch.set i y)))).norm;simp only[List.nil_append,List.length_nil,Nat.zero_add]at cj;have hget:=jh bg hc (o:=0) (k:=11) (by omega)
     have ht:(((c.cells.drop 0).take 11).map AV.pv)=c.cl:=by
       rw[List.drop_zero,List.take_of_length_le (by rw[bg.len];omega),Ex.ir]
     rw[ht,Nat.add_zero]at hget
     have hset:=iq bg hc (y:=y) (o:=0) (vs:=y.cells) (by rw[bg.len];omega) (by
       have h1:=bg.len c;have h2:=bg.len y;simp[h1,h2])
     rw[Ex.ir,Nat.add_zero]at hset;have hB:bU (aI Ex.cells e.ch)=false:=bT aO;have hlen2:(aI Ex.cells e.ch).length=e.ch.length*11:=bc bg;have hle:i*11+11≤e.ch.length*11:=by omega
     have hs1:(nn k0++[some (aI Ex.cells e.ch)])[k0]?=some (some (aI Ex.cells e.ch)):=(by simp);have hs2:(nn k0++[some (aI Ex.cells e.ch)]).set k0 (some (aI Ex.cells (e.ch.set i y)))=nn k0++[some (aI Ex.cells (e.ch.set i y))]:=(by simp);have hs3:(nn k0++[some (aI Ex.cells (e.ch.set i y))])[k0]?=some (some (aI Ex.cells (e.ch.set i y))):=(by simp);have hlst:=jY (l:=e.ch.set i y);have hlen3:(aI Ex.cells (e.ch.set i y)).length=e.ch.length*11:=(by rw[bc bg,List.length_set]);rw[List.length_set]at hlst;have c2:=c374 (e:=e) hk ha (c:=e.ch.set i y);have hsl:=Jn (sz:=1) (l:=(((i:Int)::p).map vI)) (by simp) (qa.head _);cases b with
     |false=>
       rw[if_neg (by simp)];generalize nn k0++[some (aI Ex.cells (e.ch.set i y))]=S1 at *;generalize nn k0++[some (aI Ex.cells e.ch)]=S0 at *;generalize aI Ex.cells (e.ch.set i y)=T1 at *;generalize aI Ex.cells e.ch=T at *;simp at cj k1 hsl;simp[Ex.cl]at hget;rw[ah (af:=g359) rfl rfl (by decide)];simp (disch:=omega) [-getElem?_pos,g359,hz,cj,q1,hi,hqn,hqs,hsl,hs1,hB,hlen2,hle,hget,k1]
     |true=>
       rw[if_pos rfl];generalize e.jA (e.ch.set i y)=Y at *;generalize nn k0++[some (aI Ex.cells (e.ch.set i y))]=S1 at *;generalize nn k0++[some (aI Ex.cells e.ch)]=S0 at *;generalize aI Ex.cells (e.ch.set i y)=T1 at *;generalize aI Ex.cells e.ch=T at *;simp at cj k1 hsl c2 hlst;simp[Ex.cl]at hget hset;rw[ah (af:=g359) rfl rfl (by decide)];simp (disch:=omega) [-getElem?_pos,g359,hz,cj,q1,hi,hqn,hqs,hqn1,hsl,hs1,hs2,hs3,hB,hlen2,hlen3,hle,hget,k1,hset,hlst,c2]
   ·rw[Ex.ca,if_neg hq];exact no (by omega)
theorem KH{e:Ex}{c:List Ex}(hl:c.length=e.ch.length):(e.jA c).sz=1+(c.map Ex.sz).sum:=by
 rw[Ex.c_]at hl;rw[Ex.gW,tH hl]
theorem KI{e:Ex}(h:mm e){c:List Ex}(hl:c.length=e.ch.length)(hc:∀y∈c,mm y):mm (e.jA c):=by
 rw[Ex.c_]at hl;have hw:e.jA c=⟨e.kind,e.pos,e.name,e.num,c.take e.kids.length,cV e.aB (c.drop e.kids.length),e.ty⟩:=by rw[Ex.jA,if_pos hl]
 have hno:e.aB=[]→cV e.aB (c.drop e.kids.length)=[]:=by intro q;rw[q];rfl
 have one:∀{a:Ex},e.kids=[a]→e.aB=[]→∃y∈c,c.take e.kids.length=[y]:=by
   intro a q1 q2;rw[q1,q2]at hl
   match c,hl with
   |[y],_=>exact⟨y,by simp,by rw[q1];rfl⟩
 have two:∀{a b:Ex},e.kids=[a,b]→e.aB=[]→∃y∈c,∃z∈c,c.take e.kids.length=[y,z]:=by
   intro a b q1 q2;rw[q1,q2]at hl
   match c,hl with
   |[y,z],_=>exact⟨y,by simp,z,by simp,by rw[q1];rfl⟩
 rw[hw];cases h with
 |leaf h1 h2 h3=>exact .leaf h1 (by simp[h2]) (hno h3)
 |lam h1 h2 h3 h4 _=>
   obtain⟨y,hy,q⟩:=one h3 h4;exact .lam h1 h2 q (hno h4) (hc y hy)
 |app h1 h2 h3 _ _=>
   obtain⟨y,hy,z,hz,q⟩:=two h2 h3;exact .app h1 q (hno h3) (hc y hy) (hc z hz)
 |Kv h1 h2 h3 h4 _ _=>
   obtain⟨y,hy,z,hz,q⟩:=two h3 h4;exact .Kv h1 h2 q (hno h4) (hc y hy) (hc z hz)
 |NF h1 h2 h3 h4 h5 _=>
   obtain⟨y,hy,q⟩:=one h2 h3;exact .NF h1 q (hno h3) h4 h5 (hc y hy)
 |held h1 h2 h3 _=>
   obtain⟨y,hy,q⟩:=one h2 h3;exact .held h1 q (hno h3) (hc y hy)
 | @Gv _ a h1 h2 h3 h4 h5 h6=>
   rw[h2]at hl⊢
   match c,hl with
   |[],hl=>simp at hl;omega
   |y::r,hl=>
     have hlr:r.length=e.aB.length:=(by simp at hl;omega);have hcv:=tG (as:=e.aB) (xs:=r);have hlen:(cV e.aB r).length=e.aB.length:=by have:=congrArg List.length hcv;simpa using this
     refine .Gv h1 rfl (hc y (by simp)) (by simp only[List.length_singleton,List.drop_succ_cons,List.drop_zero];omega) ?_ ?_
     · intro x hx;simp only[List.length_singleton,List.drop_succ_cons,List.drop_zero]at hx;have:(x.dx,x.vars)∈e.aB.map (fun a=>(a.dx,a.vars)):=by rw[←hcv];exact List.mem_map_of_mem hx
       simp only[List.mem_map]at this;obtain⟨b,hb,hq⟩:=this;simp at hq;rw[←hq.1,←hq.2];exact h5 b hb
     ·intro x hx;simp only[List.length_singleton,List.drop_succ_cons,List.drop_zero]at hx;have hb:=j0 hlr;have:x.body∈(cV e.aB r).map cz.body:=List.mem_map_of_mem hx;rw[hb]at this;exact hc _ (List.mem_cons_of_mem _ this)
theorem IC{l:List Ex}{i:Nat}{c y:Ex}(h:l[i]?=some c):((l.set i y).map Ex.sz).sum+c.sz=(l.map Ex.sz).sum+y.sz:=by
 induction l generalizing i with
 |nil=>simp at h
 |cons a r ih=>
   cases i with
   |zero=>simp at h;subst h;simp;omega
   |succ i=>
     have:=ih (i:=i) (by simpa using h);simp only[List.set_cons_succ,List.map_cons,List.sum_cons];omega
theorem tJ{x:Ex}(hx:rL x){m:Nat}(hm:x.tF m):∀(p:List Int) (e:Ex) (n:Nat),rL e→e.tF n →
   rL (Ex.ca x p e).1∧(Ex.ca x p e).1.tF (n+m)∧(mm x→mm e→mm (Ex.ca x p e).1)∧(Ex.ca x p e).1.sz≤e.sz+x.sz
 |[],e,n,he,hh=>⟨hx,tI hm (by omega),fun h _=>h,by simp only[Ex.ca];omega⟩
 |q::p,e,n,he,hh=>by
   have stay:rL e∧e.tF (n+m)∧(mm x→mm e→mm e)∧e.sz≤e.sz+x.sz:=⟨he,tI hh (by omega),fun _ h=>h,by omega⟩;rw[Ex.ca];split
   · rename_i hq;split
     · rename_i c hc;have hcm:=bE hc;cases hh with
       | @mk n _ hh=>
         obtain⟨h1,h2,h3,h4⟩:=tJ hx hm p c n (he.c hcm) (hh c hcm);split
         · rename_i y hy;rw[hy]at h1 h2 h3 h4;have hcl:(e.ch.set q.toNat y).length=e.ch.length:=by simp
           have hce:∀w∈e.ch.set q.toNat y,rL w:=by
             intro w hw;rcases List.mem_or_eq_of_mem_set hw with hw|rfl
             ·exact he.c hw
             ·exact h1
           have hch:∀w∈e.ch.set q.toNat y,w.tF (n+m):=by
             intro w hw;rcases List.mem_or_eq_of_mem_set hw with hw|rfl
             ·exact tI (hh w hw) (by omega)
             ·exact h2
           refine⟨KG he hcl hce,by rw[show n+1+m=n+m+1 by omega];exact MA hcl hch,fun tx te=>KI te hcl ?_,?_⟩
           · intro w hw;rcases List.mem_or_eq_of_mem_set hw with hw|rfl
             ·exact te.c w hw
             ·exact h3 tx (te.c c hcm)
           ·have:=IC (y:=y) hc;simp only;rw[KH hcl,e.gW];simp only at h4;omega
         ·exact stay
     ·exact stay
   ·exact stay
theorem c545{x:Ex}:∀(p:List Int) (e:Ex),p.length<1000000→e.Ok→(aC AP).p 545 [e.pv,.az (p.map vI),x.pv]=some [(Ex.ca x p e).1.pv,.bool (Ex.ca x p e).2]
 |[],e,hp,he=>by
   rw[ah (af:=g545) rfl rfl (by decide)];simp[g545,Ex.ca]
 |q::p,e,hp,he=>by
   have hk:=he.k;have ha:=he.a;have hlen:=Ex.c_ (e:=e);have hz:¬(p.length:Int)+1=0:=(by omega);simp at hp
   have no:(q<0∨e.ch.length≤q)→(aC AP).p 545 [e.pv,.az ((q::p).map vI),x.pv]=some [e.pv,.bool false]:=by
     intro hq;obtain⟨k0,cj⟩:=c414i he;by_cases z:e.ch=[]
     · rw[if_pos z]at cj;have z0:e.ch.length=0:=by rw[z];rfl
       simp at cj;rw[ah (af:=g545) rfl rfl (by decide)];by_cases q0:q<0
       ·simp[g545,hz,cj,q0]
       ·have q1:0≤q:=(by omega);simp[g545,hz,cj,q0,q1]
     · rw[if_neg z]at cj;have hqn:=((bt k0).app (aJ.one (aO (f:=Ex.cells) (l:=e.ch)))).norm;have hqs:=((bt k0).app (aJ.one (aO (f:=Ex.cells) (l:=e.ch)))).shift
       try simp only[List.nil_append,List.length_nil,Nat.zero_add]at cj
       generalize nn k0++[some (aI Ex.cells e.ch)]=S0 at *;simp at cj;rw[ah (af:=g545) rfl rfl (by decide)];by_cases q0:q<0
       ·simp[g545,hz,cj,q0,hqn,hqs]
       ·have q1:(e.ch.length:Int)≤q:=(by omega);simp[g545,hz,cj,q0,q1,hqn,hqs]
   by_cases hq:0≤q∧q<e.ch.length
   · obtain⟨q0,q1⟩:=hq;obtain⟨i,rfl⟩:∃i:Nat,q=i:=⟨q.toNat,by omega⟩;have hi:i<e.ch.length:=by omega
     obtain⟨c,hc⟩:=bl hi;have hcm:=bE hc;have k1:=c545 (x:=x) p c (by omega) (he.c c hcm);generalize hpr:Ex.ca x p c=yb at k1;obtain⟨y,b⟩:=yb
     have hR:Ex.ca x ((i:Int)::p) e=if b=true then (e.jA (e.ch.set i y),true) else (e,false):=by
       rw[Ex.ca,if_pos ⟨q0,q1⟩,Int.toNat_natCast,hc];simp only[hpr];cases b<;>rfl
     rw[hR];clear hR;have z:¬e.ch=[]:=by intro z;rw[z]at hi;simp at hi
     obtain⟨k0,cj⟩:=c414i he;rw[if_neg z]at cj;have hqn:=((bt k0).app (aJ.one (aO (f:=Ex.cells) (l:=e.ch)))).norm;have hqs:=((bt k0).app (aJ.one (aO (f:=Ex.cells) (l:=e.ch)))).shift;have hqn1:=((bt k0).app (aJ.one (aO (f:=Ex.cells) (l:=e.ch.set i y)))).norm
     try simp only[List.nil_append,List.length_nil,Nat.zero_add]at cj
     have hget:=jh bg hc (o:=0) (k:=11) (by omega)
     have ht:(((c.cells.drop 0).take 11).map AV.pv)=c.cl:=by
       rw[List.drop_zero,List.take_of_length_le (by rw[bg.len];omega),Ex.ir]
     rw[ht,Nat.add_zero]at hget
     have hset:=iq bg hc (y:=y) (o:=0) (vs:=y.cells) (by rw[bg.len];omega) (by
       have h1:=bg.len c;have h2:=bg.len y;simp[h1,h2])
     rw[Ex.ir,Nat.add_zero]at hset;have hB:bU (aI Ex.cells e.ch)=false:=bT aO;have hlen2:(aI Ex.cells e.ch).length=e.ch.length*11:=bc bg;have hle:i*11+11≤e.ch.length*11:=by omega
     have hs1:(nn k0++[some (aI Ex.cells e.ch)])[k0]?=some (some (aI Ex.cells e.ch)):=(by simp);have hs2:(nn k0++[some (aI Ex.cells e.ch)]).set k0 (some (aI Ex.cells (e.ch.set i y)))=nn k0++[some (aI Ex.cells (e.ch.set i y))]:=(by simp);have hs3:(nn k0++[some (aI Ex.cells (e.ch.set i y))])[k0]?=some (some (aI Ex.cells (e.ch.set i y))):=(by simp);have hlst:=jY (l:=e.ch.set i y);have hlen3:(aI Ex.cells (e.ch.set i y)).length=e.ch.length*11:=(by rw[bc bg,List.length_set]);rw[List.length_set]at hlst;have c2:=c556 (e:=e) hk ha (c:=e.ch.set i y);have hsl:=Jn (sz:=1) (l:=(((i:Int)::p).map vI)) (by simp) (qa.head _);cases b with
     |false=>
       rw[if_neg (by simp)];generalize nn k0++[some (aI Ex.cells (e.ch.set i y))]=S1 at *;generalize nn k0++[some (aI Ex.cells e.ch)]=S0 at *;generalize aI Ex.cells (e.ch.set i y)=T1 at *;generalize aI Ex.cells e.ch=T at *;simp at cj k1 hsl;simp[Ex.cl]at hget;rw[ah (af:=g545) rfl rfl (by decide)];simp (disch:=omega) [-getElem?_pos,g545,hz,cj,q1,hi,hqn,hqs,hsl,hs1,hB,hlen2,hle,hget,k1]
     |true=>
       rw[if_pos rfl];generalize e.jA (e.ch.set i y)=Y at *;generalize nn k0++[some (aI Ex.cells (e.ch.set i y))]=S1 at *;generalize nn k0++[some (aI Ex.cells e.ch)]=S0 at *;generalize aI Ex.cells (e.ch.set i y)=T1 at *;generalize aI Ex.cells e.ch=T at *;simp at cj k1 hsl c2 hlst;simp[Ex.cl]at hget hset;rw[ah (af:=g545) rfl rfl (by decide)];simp (disch:=omega) [-getElem?_pos,g545,hz,cj,q1,hi,hqn,hqs,hqn1,hsl,hs1,hs2,hs3,hB,hlen2,hlen3,hle,hget,k1,hset,hlst,c2]
   ·rw[Ex.ca,if_neg hq];exact no (by omega)
def j1(sh:Sh):Prop:=∀cs,some cs∈sh→∀v∈cs,(∃p,v=AV.pv p)∨∃b z n g,v=AV.aM b z n g
theorem aJ.MB{sh:Sh}(h:aJ sh):j1 sh:=fun cs hc v hv=>.inl (h cs hc v hv)
theorem j1.app{a b:Sh}(h:j1 a)(k:j1 b):j1 (a++b):=by
 intro cs hc;rcases List.mem_append.1 hc with h1|h1
 ·exact h cs h1
 ·exact k cs h1
theorem nP{aF ts:aD}:∀{cs:List AV},(∀v∈cs,(∃p,v=AV.pv p)∨∃b z n g,v=AV.aM b z n g)→aZ aF ts cs=(cs,aF,ts)
 |[],_=>rfl
 |v::r,h=>by
   have h1:=h v (by simp);have ih:=nP (aF:=aF) (ts:=ts) (cs:=r) fun x hx=>h x (by simp[hx])
   rcases h1 with⟨p,rfl⟩|⟨b,z,n,g,rfl⟩<;>simp[ih]
theorem j1.norm:∀{sh:Sh},j1 sh→∀aF ts,aW aF ts sh=(sh,aF,ts)
 |[],_,_,_=>rfl
 |none::r,h,aF,ts=>by
   have ih:=j1.norm (sh:=r) (fun cs hc=>h cs (by simp[hc])) aF ts;simp[ih]
 |some cs::r,h,aF,ts=>by
   have ih:=j1.norm (sh:=r) (fun c hc=>h c (by simp[hc])) aF ts;have h1:=nP (aF:=aF) (ts:=ts) (h cs (by simp));simp[ih,h1]
def dn.cells(c:dn):List PV:=[.int .i64 c.pos,.str c.name,.az (c.fields.map Ty.pv)]
def Dt.cells(d:Dt):List PV:=[.int .i64 d.pos,.str d.name,.az (d.params.map .str),.az (d.cons.map dn.pv)]
theorem mf:Row dn.cells 3:=⟨by omega,fun _=>rfl⟩
theorem gY:Row Dt.cells 4:=⟨by omega,fun _=>rfl⟩
theorem ID{l:List dn}:((eV (aI dn.cells l)).bind (dy 3 true l.length)).map PV.az=some (.az (l.map dn.pv)):=ma mf
theorem IE{l:List dn}:((l.map dn.pv).flatMap aS).map AV.pv=aI dn.cells l:=mb mf
theorem GF{l:List Dt}:((eV (aI Dt.cells l)).bind (dy 4 true l.length)).map PV.az=some (.az (l.map Dt.pv)):=ma gY
theorem KJ{l:List Dt}:((l.map Dt.pv).flatMap aS).map AV.pv=aI Dt.cells l:=mb gY
def dn.p0(c:dn):dn:=⟨0,c.name,c.fields⟩
def Dt.p0(d:Dt):Dt:=⟨0,d.name,d.params,d.cons⟩
def Dt.strip(d:Dt):Dt:=⟨0,d.name,d.params,d.cons.map dn.p0⟩
def Bd.strip(b:Bd):Bd:=⟨0,b.rc,b.name,b.sg,b.sig,b.body.strip⟩
def zP(t:Nat):List AV:=[.own [] t,.own [] (t+1)]
theorem Jo{b C M N j:Nat}{V4:AV}(hV:∃b2 n2,V4=.aM b2 20 n2 true){D:List AV}(hD:D[j*4+3]?=some (.aM C 3 N true))(hDm:bU D=false)(hDl:D.length=M*4)(hj:j<M)(hM:M≤1000)(hN:N≤1000)
   {SC:List dn→Sh} (h1:∀c,(SC c)[C]?=some (some (aI dn.cells c))) (h2:∀c c',(SC c).set C (some (aI dn.cells c'))=SC c') (h3:∀c,j1 (SC c)) (h4:∀c,(SC c)[b]?=some (some D)) :
   ∀(n k:Nat),N-k=n→k≤N→∀cs:List dn,cs.length=N →
   cl AP g544L1 ⟨[(2,.aK 2 0),(3,.aM b 4 M true),(4,V4),(5,.pv (vI j)),(15,.pv (vI M)),(16,.pv (vI j)),(38,.pv (vI N)),(39,.pv (vI k))],[(2,zP 0)],SC cs,[0,0]⟩ =
     some (.exit 2,⟨[(2,.aK 2 0),(3,.aM b 4 M true),(4,V4),(5,.pv (vI j)),(15,.pv (vI M)),(16,.pv (vI j)),(38,.pv (vI N)),(39,.pv (vI N)),(40,.pv (.bool false))],[(2,zP 0)],SC (cs.take k++(cs.drop k).map dn.p0),[0,0]⟩)
 |0,k,hn,hk,cs,ha=>by
   have:k=N:=by omega
   subst this;obtain⟨b2,n2,rfl⟩:=hV;have hq:=(h3 cs).norm;rw[il (l:=cs) (by omega),List.take_of_length_le (by omega),List.map_nil,List.append_nil];generalize SC cs=S at *;rw[g544L1e];simp[g544B1,zP,hq]
 |n+1,k,hn,hk,cs,ha=>by
   have hk:k<N:=(by omega);obtain⟨x,hx⟩:=bl (l:=cs) (i:=k) (by omega);have ih:=Jo hV hD hDm hDl hj hM hN h1 h2 h3 h4 n (k+1) (by omega) (by omega) (cs.set k x.p0) (by simpa using ha);obtain⟨b2,n2,rfl⟩:=hV;have hset:=l_ mf hx (y:=x.p0) (o:=0) (p:=vI 0) (by omega) (by simp[dn.cells,dn.p0])
   have hfin:cs.take k++(cs.drop k).map dn.p0=(cs.set k x.p0).take (k+1)++((cs.set k x.p0).drop (k+1)).map dn.p0:=by
     have h1:(cs.set k x.p0).take (k+1)=cs.take k++[x.p0]:=by
       rw[List.set_eq_take_append_cons_drop,if_pos (by omega),List.take_append,List.take_of_length_le (by simp;omega)];have:k+1-(cs.take k).length=1:=by simp;omega
       rw[this];rfl
     rw[h1,List.drop_set_of_lt (by omega),aX hx];simp
   rw[hfin];generalize (cs.set k x.p0).take (k+1)++((cs.set k x.p0).drop (k+1)).map dn.p0=R at ih⊢;have hs1:=h1 cs;have hs2:=h2 cs (cs.set k x.p0);have hs4:=h4 cs;have hq:=(h3 cs).norm;have hq1:=(h3 (cs.set k x.p0)).norm;have hB:bU (aI dn.cells cs)=false:=bT aO;have hlen:(aI dn.cells cs).length=N*3:=by rw[bc mf,ha]
   have hle:k*3+1≤N*3:=(by omega);have hle2:j*4+3+1≤M*4:=(by omega);clear h1 h2 h3 h4 hfin;generalize SC (cs.set k x.p0)=S1 at *;generalize SC cs=S at *;generalize SC R=S2 at *;generalize aI dn.cells (cs.set k x.p0)=T1 at *;generalize aI dn.cells cs=T at *;rw[g544L1e]at ih⊢;simp[zP,hq1]at ih hset;simp (disch:=omega) [-getElem?_pos,g544B1,zP,hq,hk,hj,hs1,hs4,hB,hDm,hDl,hD,hlen,hle,hle2,hset,hs2,aw];rw[g544L1e];simp[hq1,ih]
theorem mX{sh:Sh}:∀{a b:List AV} {p q:List PV},bJ sh a=some p→bJ sh b=some q→bJ sh (a++b)=some (p++q)
 |[],b,p,q,h,k=>by simp[bJ]at h;subst h;exact k
 |x::a,b,p,q,h,k=>by
   rw[bJ]at h;rw[List.cons_append,bJ];split at h
   · rename_i hl;rw[if_pos hl];split at h
     ·rename_i y ys h1 h2;cases h;rw[h1,mX h2 k];rfl
     ·cases h
   ·cases h
theorem qh{sh:Sh}:∀{l:List PV},(∀p∈l,da p=true)→bJ sh (l.map AV.pv)=some l
 |[],_=>rfl
 |p::r,h=>by
   have h1:=h p (by simp);rw[List.map_cons,bJ,qh (l:=r) fun x hx=>h x (by simp[hx])];have:aP (.pv p)=true:=by cases p<;>first|rfl|simp[da]at h1
   rw[if_pos this];rfl
theorem oG(c:List Dt):∀p∈c.flatMap Dt.cells,da p=true:=by
 intro p hp;rw[List.mem_flatMap]at hp;obtain⟨d,_,h⟩:=hp;simp[Dt.cells]at h;rcases h with rfl|rfl|rfl|rfl<;>rfl
theorem qi{α:Type}{f:α→List PV}{l:List α}:aI f l=(l.flatMap f).map AV.pv:=by
 rw[aI,List.map_flatMap]
theorem KK{c:List Dt}{j:Nat}{d:Dt}(hd:c[j]?=some d){v:AV}:aQ (aI Dt.cells (c.set j d.p0)) (j*4+3) [v]=((c.take j).flatMap Dt.cells).map .pv++([.pv (.int .i64 0),.pv (.str d.name),.pv (.az (d.params.map .str)),v]++((c.drop (j+1)).flatMap Dt.cells).map .pv):=by
 have hj:=(List.getElem?_eq_some_iff.1 hd).1;have e:c.set j d.p0=c.take j++([d.p0]++c.drop (j+1)):=by rw[List.set_eq_take_append_cons_drop,if_pos hj];rfl
 have hl:(aI Dt.cells (c.take j)).length=j*4:=by rw[bc gY,List.length_take];congr 1;omega
 rw[e,l8,l8,←qi,←qi];have e1:aI Dt.cells [d.p0]=[.pv (.int .i64 0),.pv (.str d.name),.pv (.az (d.params.map .str))]++[.pv (.az (d.cons.map dn.pv))]:=rfl;rw[e1];generalize aI Dt.cells (c.take j)=A at *;generalize aI Dt.cells (c.drop (j+1))=B at *;unfold aQ;rw[List.take_append,List.take_of_length_le (by omega),hl,Nat.add_sub_cancel_left,List.drop_append,List.drop_eq_nil_of_le (by simp;omega),hl];have:j*4+3+[v].length-j*4=4:=by simp;omega
 rw[this];simp
theorem KL{c:List Dt}{j:Nat}{d:Dt}(hd:c[j]?=some d):(c.take j).flatMap Dt.cells++([.int .i64 0,.str d.name,.az (d.params.map .str),.az ((d.cons.map dn.p0).map dn.pv)]++(c.drop (j+1)).flatMap Dt.cells)=(c.set j d.strip).flatMap Dt.cells:=by
 have hj:=(List.getElem?_eq_some_iff.1 hd).1;have e:c.set j d.strip=c.take j++([d.strip]++c.drop (j+1)):=by rw[List.set_eq_take_append_cons_drop,if_pos hj];rfl
 rw[e,List.flatMap_append,List.flatMap_append];rfl
structure SH(SS:List Dt→Sh)(b b2 L:Nat)(TB:List AV):Prop where
 g:∀c,(SS c)[b]?=some (some (aI Dt.cells c))
 s:∀c c',(SS c).set b (some (aI Dt.cells c'))=SS c'
 q:∀c,aJ (SS c)
 h:∀c,(SS c)[b2]?=some (some TB)
 e:∀c c',(SS c).set b none=(SS c').set b none
 l:∀c,(SS c).length=L
 ne:b≠b2
theorem rM{S:Sh}(h:aJ S)(b:Nat):aJ (S.set b none):=by
 intro cs hc v hv;have:=List.mem_or_eq_of_mem_set hc;rcases this with h1|h1
 ·exact h cs h1 v hv
 ·cases h1
theorem SH.next{SS:List Dt→Sh}{b b2 L:Nat}{TB:List AV}(H:SH SS b b2 L TB):SH (fun c=>(SS []).set b none++[none,some (aI Dt.cells c)]) (L+1) b2 (L+2) TB:=by
 have hl:((SS []).set b none).length=L:=by rw[List.length_set];exact H.l _
 have hb2:b2<L:=by have:=(List.getElem?_eq_some_iff.1 (H.h [])).1;rw[H.l]at this;exact this
 refine⟨fun c=>?_,fun c c'=>?_,fun c=>?_,fun c=>?_,fun c c'=>?_,fun c=>?_,by omega⟩
 ·have:=DK (X:=(SS []).set b none) none (some (aI Dt.cells c));rwa [hl]at this
 ·have:=zH (X:=(SS []).set b none) none (some (aI Dt.cells c)) (some (aI Dt.cells c'));rwa [hl]at this
 ·exact (rM (H.q []) b).app ((bt 1).app (aJ.one aO))
 ·rw[List.getElem?_append_left (by omega),List.getElem?_set,if_neg H.ne];exact H.h []
 ·have h1:=zH (X:=(SS []).set b none) none (some (aI Dt.cells c)) none;have h2:=zH (X:=(SS []).set b none) none (some (aI Dt.cells c')) none;rw[hl]at h1 h2;rw[h1,h2]
 ·simp[hl]
def hU(c:List Dt)(j:Nat)(d:Dt)(v:AV):List AV:=((c.take j).flatMap Dt.cells).map AV.pv++([AV.pv (.int .i64 0),AV.pv (.str d.name),AV.pv (.az (d.params.map .str)),v]++((c.drop (j+1)).flatMap Dt.cells).map AV.pv)
theorem GG{c:List Dt}{j:Nat}(hj:j<c.length):((c.take j).flatMap Dt.cells).length=j*4:=by
 have:=bc gY (l:=c.take j);rw[qi,List.length_map,List.length_take]at this;rw[this];congr 1;omega
theorem GH{c:List Dt}{j:Nat}(hj:j<c.length){d:Dt}{v:AV}:(hU c j d v)[j*4+3]?=some v:=by
 have hl:=GG hj;unfold hU;rw[List.getElem?_append_right (by simp[hl])];simp[hl]
theorem IF{c:List Dt}{j:Nat}{d:Dt}{v:AV}:bU (hU c j d v)=false:=by
 unfold hU;cases (c.take j).flatMap Dt.cells with
 |nil=>rfl
 |cons x r=>rfl
theorem GI{c:List Dt}{j:Nat}(hj:j<c.length){d:Dt}{v:AV}:(hU c j d v).length=c.length*4:=by
 have hl:=GG hj;have h2:=bc gY (l:=c.drop (j+1));rw[qi,List.length_map,List.length_drop]at h2;unfold hU;rw[List.length_append,List.length_append,List.length_map,List.length_map,hl,h2];simp only[List.length_cons,List.length_nil];omega
theorem wC{c:List Dt}{j:Nat}{d:Dt}{v:AV}{f:AV→Bool}(h:∀p,da p=true→f (.pv p)=true)(hv:f v=true):(hU c j d v).all f=true:=by
 have h1:=oG (c.take j);have h2:=oG (c.drop (j+1));unfold hU;rw[List.all_append,List.all_append,Bool.and_eq_true,Bool.and_eq_true];refine⟨?_,?_,?_⟩
 ·rw[List.all_map,List.all_eq_true];exact fun p hp=>h p (h1 p hp)
 ·simp[h (.int .i64 0) rfl,h (.str d.name) rfl,h (.az (d.params.map .str)) rfl,hv]
 ·rw[List.all_map,List.all_eq_true];exact fun p hp=>h p (h2 p hp)
def MC:AV→List Nat
 | .aM b _ _ _=>[b]
 |_=>[]
theorem pM(cs:List AV):dJ (.agg cs)=cs.flatMap MC:=by
 show cs.flatMap _=_;congr 1;all_goals (try (funext x;cases x<;>rfl))
theorem oC(l:List PV):(l.map AV.pv).flatMap MC=[]:=by
 induction l with
 |nil=>rfl
 |cons a r ih=>rw[List.map_cons,List.flatMap_cons,ih];rfl
theorem DL{c:List Dt}{j:Nat}{d:Dt}{L z n:Nat}{g:Bool}:dJ (.agg (hU c j d (.aM L z n g)))=[L]:=by
 rw[pM];unfold hU;rw[List.flatMap_append,List.flatMap_append,oC,oC]
 try rfl
theorem GJ{c:List Dt}{j:Nat}{d:Dt}(hd:c[j]?=some d){sh:Sh}{L:Nat}(hs:sh[L]?=some (some (aI dn.cells (d.cons.map dn.p0)))) :
   bJ sh (hU c j d (.aM L 3 d.cons.length true))=some ((c.set j d.strip).flatMap Dt.cells):=by
 rw[←KL hd];unfold hU;refine mX (qh (oG _)) (mX ?_ (qh (oG _)));have hl:=ID (l:=d.cons.map dn.p0);have hn:(aI dn.cells (d.cons.map dn.p0)).length=d.cons.length*3:=by rw[bc mf,List.length_map]
 rw[List.length_map]at hl;generalize aI dn.cells (d.cons.map dn.p0)=T at *;simp only[bJ,dj,hs];rw[if_pos hn,hl];rfl
theorem Jp{M b2 n2:Nat}(hM:M≤1000){TB:List AV}:∀(n j:Nat),M-j=n→j≤M→∀(c:List Dt) (SS:List Dt→Sh) (b L:Nat),c.length=M→(∀d∈c,d.cons≠[]∧d.cons.length≤1000)→SH SS b b2 L TB →
   ∃S' b',aJ S'∧S'[b']?=some (some (aI Dt.cells (c.take j++(c.drop j).map Dt.strip)))∧S'[b2]?=some (some TB)∧b'≠b2 ∧
   cl AP g544L0 ⟨[(2,.aK 2 0),(3,.aM b 4 M true),(4,.aM b2 20 n2 true),(15,.pv (vI M)),(16,.pv (vI j))],[(2,zP 0)],SS c,[0,0]⟩ =
     some (.exit 0,⟨[(2,.aK 2 0),(3,.aM b' 4 M true),(4,.aM b2 20 n2 true),(15,.pv (vI M)),(16,.pv (vI M)),(17,.pv (.bool false))],[(2,zP 0)],S',[0,0]⟩)
 |0,j,hn,hj,c,SS,b,L,ha,hc,H=>by
   have:j=M:=by omega
   subst this;have hq:=(H.q c).norm;refine⟨SS c,b,H.q c,?_,H.h c,H.ne,?_⟩
   ·rw[il (l:=c) (by omega),List.take_of_length_le (by omega),List.map_nil,List.append_nil];exact H.g c
   generalize SS c=S at *;rw[g544L0e];simp[g544B0,zP,hq]
 |n+1,j,hn,hj,c,SS,b,L,ha,hc,H=>by
   have hj:j<M:=(by omega);obtain⟨d,hd⟩:=bl (l:=c) (i:=j) (by omega);obtain⟨hne,hcl⟩:=hc d (bE hd);have hd1:(c.set j d.p0)[j]?=some d.p0:=(by rw[List.getElem?_set_self (by omega)]);have hl:((SS []).set b none).length=L:=(by rw[List.length_set];exact H.l _);have hbL:b<L:=by have:=(List.getElem?_eq_some_iff.1 (H.g [])).1;rw[H.l]at this;exact this
   obtain⟨S',b',r1,r2,r3,r4,ih⟩:=Jp (b2:=b2) (n2:=n2) hM (TB:=TB) n (j+1) (by omega) (by omega) (c.set j d.strip) _ (L+1) (L+2) (by simpa using ha) (by
     intro x hx;rcases List.mem_or_eq_of_mem_set hx with h|h
     ·exact hc x h
     ·subst h;exact⟨by simp[Dt.strip,hne],by simp[Dt.strip];exact hcl⟩) H.next
   have hfin:c.take j++(c.drop j).map Dt.strip=(c.set j d.strip).take (j+1)++((c.set j d.strip).drop (j+1)).map Dt.strip:=by
     have h1:(c.set j d.strip).take (j+1)=c.take j++[d.strip]:=by
       rw[List.set_eq_take_append_cons_drop,if_pos (by omega),List.take_append,List.take_of_length_le (by simp;omega)];have:j+1-(c.take j).length=1:=by simp;omega
       rw[this];rfl
     rw[h1,List.drop_set_of_lt (by omega),aX hd];simp
   rw[hfin];refine⟨S',b',r1,r2,r3,r4,?_⟩;clear r1 r2 r3 r4 hfin hc;have g1:=H.g c;have s1:=H.s c (c.set j d.p0);have g2:=H.g (c.set j d.p0);have l2:=H.l (c.set j d.p0);have q2:=(H.q c).norm;have e2:=H.e (c.set j d.p0) [];have hset:=l_ gY hd (y:=d.p0) (o:=0) (p:=vI 0) (by omega) (by simp[Dt.cells,Dt.p0]);have hgc:=Iv gY hd1 (o:=3) (p:=.az (d.cons.map dn.pv)) (by omega) rfl;have hB:bU (aI Dt.cells c)=false:=bT aO;have hB1:bU (aI Dt.cells (c.set j d.p0))=false:=bT aO;have hlen:(aI Dt.cells c).length=M*4:=by rw[bc gY,ha]
   have hlen1:(aI Dt.cells (c.set j d.p0)).length=M*4:=(by rw[bc gY,List.length_set,ha]);have hle:j*4+1≤M*4:=(by omega);have hle3:j*4+3+1≤M*4:=(by omega);have hm:=IE (l:=d.cons);have hjc:j<c.length:=(by omega);have hmid:aQ (aI Dt.cells (c.set j d.p0)) (j*4+3) [.aM L 3 d.cons.length true]=hU c j d (.aM L 3 d.cons.length true):=KK hd;have hD:=GH hjc (d:=d) (v:=.aM L 3 d.cons.length true);have hDm:=IF (c:=c) (j:=j) (d:=d) (v:=.aM L 3 d.cons.length true);have hDl:=GI hjc (d:=d) (v:=.aM L 3 d.cons.length true);rw[ha]at hDl;have hA:=DL (c:=c) (j:=j) (d:=d) (L:=L) (z:=3) (n:=d.cons.length) (g:=true);have hDa:=wC (c:=c) (j:=j) (d:=d) (v:=.aM L 3 d.cons.length true) (f:=cx) (fun p hp=>by cases p<;>first|rfl|simp[da]at hp) rfl;have hDr:=wC (c:=c) (j:=j) (d:=d) (v:=.aM L 3 d.cons.length true) (f:=aG (L+1+1)) (fun p hp=>rfl) (decide_eq_true (by omega));have hF:=GJ hd (sh:=(SS []).set b none++[some (aI dn.cells (d.cons.map dn.p0)),some (hU c j d (.aM L 3 d.cons.length true))]) (L:=L) (by rw[List.getElem?_append_right (by omega),hl];simp);have hff:=qi (f:=Dt.cells) (l:=c.set j d.strip);have hne0:d.cons.isEmpty=false:=by cases hq:d.cons with|nil=>exact absurd hq hne|cons _ _=>rfl
   have hb48:d.cons.length*48≤140737488355328:=(by omega);have hqP:aJ ((SS []).set b none):=rM (H.q []) b;have f4:∀u,(SS (c.set j d.p0)++[u])[b]?=some (some (aI Dt.cells (c.set j d.p0))):=fun u=>by rw[List.getElem?_append_left (by omega)];exact g2
   have f5:∀u,(SS (c.set j d.p0)++[u]).set b none=(SS []).set b none++[u]:=fun u=>by rw[List.set_append_left _ _ (by omega),e2]
   have f7:∀u v,((SS []).set b none++[u,v])[L+1]?=some v:=fun u v=>by have:=DK (X:=(SS []).set b none) u v;rwa [hl]at this
   have f8:∀u v w,((SS []).set b none++[u,v]).set (L+1) w=(SS []).set b none++[u,w]:=fun u v w=>by have:=zH (X:=(SS []).set b none) u v w;rwa [hl]at this
   have f9:∀u v,((SS []).set b none++[u,v])[L]?=some u:=fun u v=>by rw[List.getElem?_append_right (by omega),hl];simp
   have f10:∀u v w,((SS []).set b none++[u,v]).set L w=(SS []).set b none++[w,v]:=fun u v w=>by rw[List.set_append_right _ _ (by omega),hl];simp
   have hcm:∀cs:List dn,j1 ((SS []).set b none++[some (aI dn.cells cs),some (hU c j d (.aM L 3 d.cons.length true))]):=fun cs=>hqP.MB.app fun x hx v hv=>by
     simp only[List.mem_cons,Option.some.injEq,List.not_mem_nil,or_false]at hx;rcases hx with rfl|rfl
     ·exact .inl (aO v hv)
     ·unfold hU at hv;simp only[List.mem_append,List.mem_cons,List.not_mem_nil,or_false,List.mem_map]at hv;rcases hv with⟨p,_,rfl⟩|(rfl|rfl|rfl|rfl)|⟨p,_,rfl⟩<;>first|exact .inl ⟨_,rfl⟩|exact .inr ⟨_,_,_,_,rfl⟩
   have l1:=Jo (b:=L+1) (C:=L) (M:=M) (N:=d.cons.length) (j:=j) (V4:=.aM b2 20 n2 true) ⟨_,_,rfl⟩ hD hDm hDl hj hM hcl (SC:=fun cs=>(SS []).set b none++[some (aI dn.cells cs),some (hU c j d (.aM L 3 d.cons.length true))])
     (fun _=>f9 _ _) (fun _ _=>f10 _ _ _) hcm (fun _=>f7 _ _) _ 0 rfl (by omega) d.cons rfl
   rw[List.take_zero,List.drop_zero,List.nil_append]at l1
   have hk:cd ((SS []).set b none++[some (aI dn.cells (d.cons.map dn.p0)),some (hU c j d (.aM L 3 d.cons.length true))]) [.agg (hU c j d (.aM L 3 d.cons.length true))]=(SS []).set b none++[none,some (hU c j d (.aM L 3 d.cons.length true))]:=by
     unfold cd;rw[List.flatMap_cons,hA];exact f10 _ _ _
   have hnc:(dJ (.agg (hU c j d (.aM L 3 d.cons.length true)))).contains (L+1)=false:=(by rw[hA];simp);have c1:=(hcm d.cons).norm;have c2:=(hcm (d.cons.map dn.p0)).norm;have c3:∀aF ts,aW aF ts ((SS []).set b none++[none,some (aI Dt.cells (c.set j d.strip))])=((SS []).set b none++[none,some (aI Dt.cells (c.set j d.strip))],aF,ts):=(hqP.app ((bt 1).app (aJ.one aO))).norm;rw[hff]at c3 ih
   try dsimp only at l1 ih
   clear hcm H hA hff;generalize (SS []).set b none=P at *;generalize SS (c.set j d.p0)=S1 at *;generalize SS c=S at *;generalize (c.set j d.strip).flatMap Dt.cells=E2 at *;generalize aI dn.cells (d.cons.map dn.p0)=TC1 at *;generalize aI dn.cells d.cons=TC at *;generalize hU c j d (.aM L 3 d.cons.length true)=D at *;generalize aI Dt.cells (c.set j d.p0)=T1 at *;generalize aI Dt.cells c=T at *;rw[g544L0e]at ih⊢;rw[g544L1e]at l1;simp[zP,c1,c3]at l1 ih hset;simp at hm hk hnc hmid;have hLL:L<L+1+1:=by omega
   simp (config:={ maxSteps:=1000000 }) (disch:=omega) [-getElem?_pos,g544B0,zP,q2,hj,g1,hB,hlen,hle,hset,s1,g2,hB1,hlen1,hle3,hgc,hne,hne0,hb48,hm,l2,f4,f5,f7,f8,hLL,hmid,hDa,hDr,hDm,hDl,hD,aw,g544L1e,c1,l1,hk,hnc,hF,c2,c3];rw[if_pos hnc];simp (disch:=omega) [aw,c3];rw[g544L0e];simp[c3,ih]
theorem qj{e:Ex}:e.Ok→e.strip.Ok:=by
 refine Ex.recC (p:=fun e=>e.Ok→e.strip.Ok) ?_ e;intro e ih ho;rw[Ex.dw];refine .mk (by simp;exact ho.k) (by simp;exact ho.a) ?_ ho.t ?_
 ·intro a ha;rw[List.mem_map]at ha;obtain⟨x,hx,rfl⟩:=ha;exact ho.v x hx
 · intro x hx;simp only[Ex.ch,List.mem_append,List.mem_map,List.map_map]at hx;rcases hx with⟨y,hy,rfl⟩|⟨a,ha,rfl⟩
   · have:y∈e.ch:=by rw[Ex.ch,List.mem_append];exact .inl hy
     exact ih y this (ho.c y this)
   · have:a.body∈e.ch:=by rw[Ex.ch,List.mem_append,List.mem_map];exact .inr ⟨a,ha,rfl⟩
     exact ih a.body this (ho.c _ this)
def Bd.p0(b:Bd):Bd:=⟨0,b.rc,b.name,b.sg,b.sig,b.body⟩
def Oq(V3:AV)(z:List AV)(T:aD):Prop:=(∃b M,V3=.aM b 4 M true∧z=zP 0∧T=[0,0])∨(V3=.own [] 0∧z=zP 1∧T=[0,0,0])
theorem GK{V3:AV}{z:List AV}{T:aD}(hV:Oq V3 z T){b2 N:Nat}(hN:N≤1000){SS:List Bd→Sh}(h1:∀c,(SS c)[b2]?=some (some (aI Bd.cells c)))(h2:∀c c',(SS c).set b2 (some (aI Bd.cells c'))=SS c')(h3:∀c,aJ (SS c)) :
   ∀(n i:Nat),N-i=n→i≤N→∀c:List Bd,c.length=N→(∀b∈c,b.body.Ok) →
   cl AP g544L2 ⟨[(2,.aK 2 0),(3,V3),(4,.aM b2 20 N true),(53,.pv (vI N)),(54,.pv (vI i))],[(2,z)],SS c,T⟩ =
     some (.exit 4,⟨[(2,.aK 2 0),(3,V3),(4,.aM b2 20 N true),(53,.pv (vI N)),(54,.pv (vI N)),(55,.pv (.bool false))],[(2,z)],SS (c.take i++(c.drop i).map Bd.strip),T⟩)
 |0,i,hn,hi,c,ha,ho=>by
   have:i=N:=by omega
   subst this;have hq:=(h3 c).norm;rw[il (l:=c) (by omega),List.take_of_length_le (by omega),List.map_nil,List.append_nil];generalize SS c=S at *;rw[g544L2e];rcases hV with⟨b,M,rfl,rfl,rfl⟩|⟨rfl,rfl,rfl⟩<;>simp[g544B2,zP,hq]
 |n+1,i,hn,hi,c,ha,ho=>by
   have hi:i<N:=(by omega);obtain⟨b,hx⟩:=bl (l:=c) (i:=i) (by omega);have k:=c546 b.body (ho b (bE hx))
   have ih:=GK hV hN h1 h2 h3 n (i+1) (by omega) (by omega) (c.set i b.strip) (by simpa using ha) (by
     intro y hy;rcases List.mem_or_eq_of_mem_set hy with h|h
     ·exact ho y h
     ·subst h;exact qj (ho b (bE hx)))
   have hx1:(c.set i b.p0)[i]?=some b.p0:=(by rw[List.getElem?_set_self (by omega)]);have hset:=l_ fe hx (y:=b.p0) (o:=0) (p:=vI 0) (by omega) (by simp[Bd.cells,Bd.p0]);have hget:=jh fe hx1 (o:=9) (k:=11) (by omega)
   have ht:((((b.p0).cells.drop 9).take 11).map AV.pv)=b.body.cl:=by
     have:(b.p0).cells.drop 9=b.body.cells:=rfl;rw[this,List.take_of_length_le (by rw[bg.len];omega),Ex.ir]
   rw[ht]at hget
   have hset2:=iq fe hx1 (y:=b.strip) (o:=9) (vs:=b.body.strip.cells) (by rw[bg.len];omega) (by
     have h1:=bg.len b.body;have h2:=bg.len b.body.strip;rw[h2];have e1:(b.p0).cells.take 9=[vI 0,.bool b.rc,.str b.name,.bool b.sg,vI b.sig.kind,.str b.sig.name,vI b.sig.id,vI b.sig.home,.az (b.sig.args.map Ty.pv)]:=rfl;have e2:(b.p0).cells.drop (9+11)=[]:=List.drop_eq_nil_of_le (by rw[fe.len];omega);rw[e1,e2,List.append_nil];rfl)
   rw[Ex.ir,List.set_set]at hset2
   have hfin:c.take i++(c.drop i).map Bd.strip=(c.set i b.strip).take (i+1)++((c.set i b.strip).drop (i+1)).map Bd.strip:=by
     have h1:(c.set i b.strip).take (i+1)=c.take i++[b.strip]:=by
       rw[List.set_eq_take_append_cons_drop,if_pos (by omega),List.take_append,List.take_of_length_le (by simp;omega)];have:i+1-(c.take i).length=1:=by simp;omega
       rw[this];rfl
     rw[h1,List.drop_set_of_lt (by omega),aX hx];simp
   rw[hfin];generalize (c.set i b.strip).take (i+1)++((c.set i b.strip).drop (i+1)).map Bd.strip=R at ih⊢;have hs1:=h1 c;have hs2:=h2 c (c.set i b.p0);have hs3:=h1 (c.set i b.p0);have hs4:=h2 (c.set i b.p0) (c.set i b.strip);have hq:=(h3 c).norm;have hq1:=(h3 (c.set i b.strip)).norm;have hB:bU (aI Bd.cells c)=false:=bT aO;have hB1:bU (aI Bd.cells (c.set i b.p0))=false:=bT aO;have hlen:(aI Bd.cells c).length=N*20:=by rw[bc fe,ha]
   have hlen1:(aI Bd.cells (c.set i b.p0)).length=N*20:=(by rw[bc fe,List.length_set,ha]);have hle:i*20+1≤N*20:=(by omega);have hle2:i*20+9+11≤N*20:=(by omega);clear h1 h2 h3 hfin;generalize SS (c.set i b.strip)=S2 at *;generalize SS (c.set i b.p0)=S1 at *;generalize SS c=S at *;generalize SS R=S3 at *;generalize aI Bd.cells (c.set i b.strip)=T2 at *;generalize aI Bd.cells (c.set i b.p0)=T1 at *;generalize aI Bd.cells c=T0 at *;generalize b.body.strip=y at *;rw[g544L2e]at ih⊢;simp at k hset;simp[Ex.cl]at hget hset2
   rcases hV with⟨b,M,rfl,rfl,rfl⟩|⟨rfl,rfl,rfl⟩<;>simp[zP,hq1]at ih⊢ <;>
     simp (disch:=omega) [-getElem?_pos,g544B2,hq,hi,hs1,hs2,hs3,hs4,hB,hB1,hlen,hlen1,hle,hle2,hset,hget,hset2,k,aw] <;>
     rw[g544L2e]<;>simp[hq1,ih]
def lv(p:List Int):PV:=.az (p.map vI)
@[simp] theorem NJ(p:List Int):lv p=.az (p.map vI):=rfl
theorem IG:El lv 1 false:=⟨fun x=>by simp,fun x=>by simp⟩
@[simp] theorem Jq{l:List (List Int)}:a0 1 (l.map lv)=true:=IG.head l
def kn:Nat→List (List (List Int))→List (List Int)
 |_,[]=>[]
 |i,l::r=>l.map (fun p=>(i:Int)::p)++kn (i+1) r
def Ex.hl(e:Ex):List (List Int):=if e.kind=10 then [[]] else kn 0 (e.ch.attach.map fun x=>x.1.hl)
termination_by SizeOf.sizeOf e
decreasing_by exact Ex.ji x.2
theorem Ex.mg(e:Ex):e.hl=if e.kind=10 then [[]] else kn 0 (e.ch.map Ex.hl):=by
 rw[Ex.hl,List.map_attach_eq_pmap,List.pmap_eq_map]
theorem AM:∀{l:List (List (List Int))} {i:Nat},(kn i l).length=(l.map List.length).sum
 |[],_=>rfl
 |a::r,i=>by simp only[kn,List.length_append,List.length_map,List.map_cons,List.sum_cons,AM (l:=r)]
theorem tK:∀{l:List (List (List Int))} {i:Nat} {p:List Int},p∈kn i l→∃(j:Nat) (c:List (List Int)) (q:List Int),l[j]?=some c∧q∈c∧p=((i+j:Nat):Int)::q
 |a::r,i,p,h=>by
   simp only[kn,List.mem_append,List.mem_map]at h;rcases h with⟨q,hq,rfl⟩|h
   ·exact⟨0,a,q,rfl,hq,rfl⟩
   ·obtain⟨j,c,q,h1,h2,h3⟩:=tK h;exact⟨j+1,c,q,by simpa using h1,h2,by rw[h3];congr 2;omega⟩
theorem qk(e:Ex):e.hl.length≤e.sz:=by
 refine Ex.recC (p:=fun e=>e.hl.length≤e.sz) ?_ e;intro e ih;rw[Ex.mg,Ex.gW];split
 ·simp
 · rw[AM,List.map_map]
   have:∀l:List Ex,(∀x∈l,x.hl.length≤x.sz)→(l.map (List.length ∘ Ex.hl)).sum≤(l.map Ex.sz).sum:=by
     intro l;induction l with
     |nil=>intro _;simp
     |cons a r ihr=>
       intro h;have h1:=h a (by simp);have h2:=ihr fun x hx=>h x (by simp[hx])
       simp only[List.map_cons,List.sum_cons,Function.comp_apply];omega
   have:=this e.ch ih;omega
theorem tL(e:Ex):∀p∈e.hl,p.length<e.sz∧∃x,e.at p=some x∧x.kind=10:=by
 refine Ex.recC (p:=fun e=>∀p∈e.hl,p.length<e.sz∧∃x,e.at p=some x∧x.kind=10) ?_ e;intro e ih p hp;rw[Ex.mg]at hp;split at hp
 ·rename_i hk;simp at hp;subst hp;exact⟨e.jZ,e,rfl,hk⟩
 · obtain⟨j,c,q,h1,h2,rfl⟩:=tK hp;simp only[List.getElem?_map,Option.map_eq_some_iff]at h1;obtain⟨y,hy,rfl⟩:=h1;obtain⟨a,x,b,hk⟩:=ih y (bE hy) q h2;have hs:=Ex.jj (bE hy);have hj:=(List.getElem?_eq_some_iff.1 hy).1;refine⟨by simp only[List.length_cons];omega,x,?_,hk⟩;rw[Ex.at,if_pos (by omega)];have e1:((0+j:Nat):Int).toNat=j:=by omega
   rw[e1,hy];exact b
theorem Jr{ch:List Ex}{I:Nat}{hls:List (List Int)}(hL:hls.length≤1000000000)(hp:∀p∈hls,p.length≤1000000000):∀(n k:Nat),hls.length-k=n→k≤hls.length→∀acc:List (List Int),acc.length+n≤2000000000 →
   cl AP g543L1 ⟨[(3,.own (acc.map lv) 0),(4,.pv (vI I)),(14,.pv (.az (ch.map Ex.pv))),(15,.pv (vI ch.length)),(16,.pv (vI I)),(22,.pv (.az (hls.map lv))),(23,.pv (vI hls.length)),(24,.pv (vI k))],[],[],[acc.length]⟩ =
     some (.exit 2,⟨[(3,.own ((acc++(hls.drop k).map fun p=>(I:Int)::p).map lv) 0),(4,.pv (vI I)),(14,.pv (.az (ch.map Ex.pv))),(15,.pv (vI ch.length)),(16,.pv (vI I)),(22,.pv (.az (hls.map lv))),(23,.pv (vI hls.length)),(24,.pv (vI hls.length)),(25,.pv (.bool false))],[],[],[(acc++(hls.drop k).map fun p=>(I:Int)::p).length]⟩)
 |0,k,hn,hk,acc,ha=>by
   have:k=hls.length:=by omega
   subst this;rw[List.drop_length,List.map_nil,List.append_nil,g543L1e];simp[g543B1]
 |n+1,k,hn,hk,acc,ha=>by
   have hk:k<hls.length:=(by omega);obtain⟨p,hx⟩:=bl hk;have hpl:=hp p (bE hx);have ih:=Jr (ch:=ch) (I:=I) hL hp n (k+1) (by omega) (by omega) (acc++[(I:Int)::p]) (by simp;omega);have hb1:(1+p.length)*8≤140737488355328:=(by omega);have hb2:(acc.length+1)*24≤140737488355328:=(by omega);have hh:=qa.head p;rw[aX hx,List.map_cons];rw[g543L1e]at ih⊢;simp at ih hh;by_cases hz:p=[]
   ·subst hz;simp at ih;simp (disch:=omega) [-getElem?_pos,g543B1,hx,hk,hb1,hb2,aw];rw[g543L1e];simp[ih]
   ·simp (disch:=omega) [-getElem?_pos,g543B1,hx,hk,hb1,hb2,hh,hz,aw];rw[g543L1e];simp[ih]
theorem MD{ch:List Ex}{e:Ex}(hch:ch=e.ch)(hN:ch.length≤1000000)(hB:∀x∈ch,x.hl.length≤1000000000∧∀p∈x.hl,p.length≤1000000000)(ih:∀x∈ch,(aC AP).p 543 [x.pv]=some [.az (x.hl.map lv)]) :
   ∀(n i:Nat),ch.length-i=n→i≤ch.length→∀acc:List (List Int),acc.length+(kn i ((ch.drop i).map Ex.hl)).length≤1000000000 →
   cl AP g543L0 ⟨[(3,.own (acc.map lv) 0),(14,.pv (.az (ch.map Ex.pv))),(15,.pv (vI ch.length)),(16,.pv (vI i))],[],[],[acc.length]⟩ =
     some (.exit 0,⟨[(3,.own ((acc++kn i ((ch.drop i).map Ex.hl)).map lv) 0),(14,.pv (.az (ch.map Ex.pv))),(15,.pv (vI ch.length)),(16,.pv (vI ch.length)),(17,.pv (.bool false))],[],[],[(acc++kn i ((ch.drop i).map Ex.hl)).length]⟩)
 |0,i,hn,hi,acc,ha=>by
   have:i=ch.length:=by omega
   subst this;rw[List.drop_length];simp only[List.map_nil,kn,List.append_nil];rw[g543L0e];simp[g543B0]
 |n+1,i,hn,hi,acc,ha=>by
   have hi:i<ch.length:=(by omega);obtain⟨x,hx⟩:=bl hi;have k:=ih x (bE hx);obtain⟨hb1,hb2⟩:=hB x (bE hx);rw[aX hx,List.map_cons]at ha⊢;simp only[kn,List.length_append,List.length_map]at ha⊢;have e1:=Jr (ch:=ch) (I:=i) hb1 hb2 _ 0 rfl (by omega) acc (by omega);rw[List.drop_zero]at e1;have e2:=MD hch hN hB ih n (i+1) (by omega) (by omega) (acc++x.hl.map fun p=>(i:Int)::p) (by simp only[List.length_append,List.length_map];omega);generalize kn (i+1) ((ch.drop (i+1)).map Ex.hl)=R at *;generalize hH:x.hl=H at *;rw[g543L1e]at e1;rw[g543L0e]at e2⊢;simp at k e1 e2;simp (disch:=omega) [-getElem?_pos,g543B0,hx,hi,k,aw,g543L1e,e1];rw[g543L0e];simp[e2]
theorem bounds{e:Ex}(hs:e.sz≤100000000):∀x∈e.ch,x.hl.length≤1000000000∧∀p∈x.hl,p.length≤1000000000:=by
 intro x hx;have h1:=Ex.jj hx;have h2:=qk x;refine⟨by omega,fun p hp=>?_⟩;have:=(tL x p hp).1;omega
theorem c543(e:Ex):e.Ok→e.sz≤100000000→(aC AP).p 543 [e.pv]=some [.az (e.hl.map lv)]:=by
 refine Ex.recC (p:=fun e=>e.Ok→e.sz≤100000000→(aC AP).p 543 [e.pv]=some [.az (e.hl.map lv)]) ?_ e;intro e ih ho hs;have k:=c414 ho;have hl:=qk e;have hb:=bounds hs;have hN:e.ch.length≤1000000:=by rw[Ex.c_];have:=ho.k;have:=ho.a;omega
 rw[ah (af:=g543) rfl rfl (by decide)];rw[Ex.mg]at hl⊢;by_cases hk:e.kind=10
 ·simp[g543,hk]
 ·rw[if_neg hk]at hl⊢;have e1:=MD (e:=e) rfl hN hb (fun x hx=>ih x hx (ho.c x hx) (by have:=Ex.jj hx;omega)) _ 0 rfl (by omega) [] (by simp only[List.drop_zero,List.length_nil];omega);rw[List.drop_zero,List.nil_append]at e1;generalize kn 0 (e.ch.map Ex.hl)=H at *;rw[g543L0e]at e1;simp at k e1;simp[g543,hk,k,g543L0e,e1]
theorem Js{ch:List Ex}{I:Nat}{hls:List (List Int)}(hL:hls.length≤1000000000)(hp:∀p∈hls,p.length≤1000000000):∀(n k:Nat),hls.length-k=n→k≤hls.length→∀acc:List (List Int),acc.length+n≤2000000000 →
   cl AP g539L1 ⟨[(3,.own (acc.map lv) 0),(4,.pv (.az (ch.map Ex.pv))),(5,.pv (vI I)),(6,.pv (.az (hls.map lv))),(7,.pv (vI k))],[],[],[acc.length]⟩ =
     some (.exit 2,⟨[(3,.own ((acc++(hls.drop k).map fun p=>(I:Int)::p).map lv) 0),(4,.pv (.az (ch.map Ex.pv))),(5,.pv (vI I)),(6,.pv (.az (hls.map lv))),(7,.pv (vI hls.length)),(28,.pv (.bool false))],[],[],[(acc++(hls.drop k).map fun p=>(I:Int)::p).length]⟩)
 |0,k,hn,hk,acc,ha=>by
   have:k=hls.length:=by omega
   subst this;rw[List.drop_length,List.map_nil,List.append_nil,g539L1e];simp[g539B1]
 |n+1,k,hn,hk,acc,ha=>by
   have hk:k<hls.length:=(by omega);obtain⟨p,hx⟩:=bl hk;have hpl:=hp p (bE hx);have ih:=Js (ch:=ch) (I:=I) hL hp n (k+1) (by omega) (by omega) (acc++[(I:Int)::p]) (by simp;omega);have hb1:(1+p.length)*8≤140737488355328:=(by omega);have hb2:(acc.length+1)*24≤140737488355328:=(by omega);have hh:=qa.head p;rw[aX hx,List.map_cons];rw[g539L1e]at ih⊢;simp at ih hh;by_cases hz:p=[]
   ·subst hz;simp at ih;simp (disch:=omega) [-getElem?_pos,g539B1,hx,hk,hb1,hb2,aw];rw[g539L1e];simp[ih]
   ·simp (disch:=omega) [-getElem?_pos,g539B1,hx,hk,hb1,hb2,hh,hz,aw];rw[g539L1e];simp[ih]
theorem ME{ch:List Ex}(hN:ch.length≤1000000)(hB:∀x∈ch,x.hl.length≤1000000000∧∀p∈x.hl,p.length≤1000000000)(ih:∀x∈ch,(aC AP).p 539 [x.pv]=some [.az (x.hl.map lv)]) :
   ∀(n i:Nat),ch.length-i=n→i≤ch.length→∀acc:List (List Int),acc.length+(kn i ((ch.drop i).map Ex.hl)).length≤1000000000 →
   cl AP g539L0 ⟨[(3,.own (acc.map lv) 0),(4,.pv (.az (ch.map Ex.pv))),(5,.pv (vI i))],[],[],[acc.length]⟩ =
     some (.exit 0,⟨[(3,.own ((acc++kn i ((ch.drop i).map Ex.hl)).map lv) 0),(4,.pv (.az (ch.map Ex.pv))),(5,.pv (vI ch.length)),(17,.pv (.bool false))],[],[],[(acc++kn i ((ch.drop i).map Ex.hl)).length]⟩)
 |0,i,hn,hi,acc,ha=>by
   have:i=ch.length:=by omega
   subst this;rw[List.drop_length];simp only[List.map_nil,kn,List.append_nil];rw[g539L0e];simp[g539B0]
 |n+1,i,hn,hi,acc,ha=>by
   have hi:i<ch.length:=(by omega);obtain⟨x,hx⟩:=bl hi;have k:=ih x (bE hx);obtain⟨hb1,hb2⟩:=hB x (bE hx);rw[aX hx,List.map_cons]at ha⊢;simp only[kn,List.length_append,List.length_map]at ha⊢;have e1:=Js (ch:=ch) (I:=i) hb1 hb2 _ 0 rfl (by omega) acc (by omega);rw[List.drop_zero]at e1;have e2:=ME hN hB ih n (i+1) (by omega) (by omega) (acc++x.hl.map fun p=>(i:Int)::p) (by simp only[List.length_append,List.length_map];omega);generalize kn (i+1) ((ch.drop (i+1)).map Ex.hl)=R at *;generalize hH:x.hl=H at *;rw[g539L1e]at e1;rw[g539L0e]at e2⊢;simp at k e1 e2;simp (disch:=omega) [-getElem?_pos,g539B0,hx,hi,k,aw,g539L1e,e1];rw[g539L0e];simp[e2]
theorem c539(e:Ex):e.Ok→e.sz≤100000000→(aC AP).p 539 [e.pv]=some [.az (e.hl.map lv)]:=by
 refine Ex.recC (p:=fun e=>e.Ok→e.sz≤100000000→(aC AP).p 539 [e.pv]=some [.az (e.hl.map lv)]) ?_ e;intro e ih ho hs;have k:=c145 ho;have hl:=qk e;have hb:=bounds hs;have hN:e.ch.length≤1000000:=by rw[Ex.c_];have:=ho.k;have:=ho.a;omega
 rw[ah (af:=g539) rfl rfl (by decide)];rw[Ex.mg]at hl⊢;by_cases hk:e.kind=10
 ·simp[g539,hk]
 ·rw[if_neg hk]at hl⊢;have e1:=ME hN hb (fun x hx=>ih x hx (ho.c x hx) (by have:=Ex.jj hx;omega)) _ 0 rfl (by omega) [] (by simp only[List.drop_zero,List.length_nil];omega);rw[List.drop_zero,List.nil_append]at e1;generalize kn 0 (e.ch.map Ex.hl)=H at *;rw[g539L0e]at e1;simp at k e1;simp[g539,hk,k,g539L0e,e1]
end Go.Ab.Lw
