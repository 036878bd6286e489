import Derived.Test.YtfhhognolpjikaaGreatLibA
/-
  Chapter 9: the names of written type variables.
  Raw expressions: what the maker gives.
  The maker of raw expressions.
  Chapter 9: what its laws make.
  Chapter 9: declarations off the tape.
  Chapter 9: the scheme of a constructor.
  Chapter 9: the first error of a list of declarations, by the program.
  Chapter 9: the first error of a list of declarations, by the program: the fields.
  Chapter 9: the first error of a list of declarations, by the reference.
  Chapter 9: Check by the reference: the fields.
  The law DeclareFinds.
  The law DeclareFields.
  The law EnvironSeen.
  Valid schemes: the program's and the reference's answers are one.
  Closing and mono, by the program.
  Signatures of the reference.
  The maker of programs: small parts, 2.
  The maker of programs: the scheme of a let.
  The maker of programs: does an expression have a part of a kind?
  The search's reference: canonical variables.
  The search's reference: a scheme under a substitution; the beginning of a store.
  The search's reference: the beginning of a store, new variables.
  The search's reference: the beginning of a store.
  The search's reference: an element, its new variables.
  The reference's store: kinds of resolved types; a variable becomes an arrow.
  The search's reference: an element, its arguments.
  The search's reference: an element, its resolved types.
  Matching, by the program.
  Instances, by the program.
  Instances, by the reference.
  Matching, by the reference.
  Both matchings are one.
  When a closed type is general.
  The reference's Instance; the law SchemeInstances.
  The search's reference: an element.
  The search's reference: heads.
  The search's reference: the schemes of constructors; the list of heads.
  The search's reference: the list of heads, the walk.
  The maker of raw expressions: cases; all depths.
  A tape anywhere in shared memory: the makers of types and of raw expressions.
  The law ScopeVisible.
  The maker of typed expressions: what it gives; leaves.
  The maker of typed expressions: leaves, functions, applications, annotations, held ones.
  The maker of programs: the scheme of a let is closed.
  The maker of typed expressions: lets.
  The maker of typed expressions: heads with arguments.
  The maker of typed expressions: cases.
  The maker of typed expressions: cases; all depths.
  The maker of programs: signatures.
  The maker of programs: bindings.
  The maker of programs: one binding.
  The maker of programs: the first binding; all bindings.
  The maker of programs.
  A part of an expression is replaced.
  A program is changed in one place: the walk down.
  A program is changed in one place.
  **Some**: programs, well typed or not.
  Scopes: the first error of an expression, by the reference.
  The first error of a program, by the program.
-/
set_option linter.unusedVariables false
set_option linter.unusedSimpArgs false
set_option maxRecDepth 100000
set_option maxHeartbeats 8000000
namespace Go.Ab.Lw
open Ev
def cH (out:List bV) (x:bV):List bV:=if x∈out then out else out++[x]
structure gw (S out:List bV):Prop where
 nodup:out.Nodup
 sub:∀x∈out,x∈S
 FD:S.length<1099511627776
theorem gw.len {S out:List bV} (h:gw S out):Sm out:=by
 have:=fY h.nodup h.sub
 have:=h.FD
 unfold Sm;omega
theorem gw.put {S out:List bV} (h:gw S out) {x:bV} (hx:x∈S):gw S (cH out x):=by
 unfold cH
 split
 · exact h
 · rename_i e
   refine ⟨?_,?_,h.FD⟩
   · rw [List.nodup_append]
     refine ⟨h.nodup,by simp,?_⟩
     intro a ha b hb
     simp at hb
     subst hb
     intro e';subst e';exact e ha
   · intro y hy
     simp at hy
     rcases hy with hy | rfl
     · exact h.sub y hy
     · exact hx
theorem gw.fold {S:List bV}:∀{l:List bV} {out:List bV},gw S out→(∀x∈l,x∈S)→gw S (l.foldl cH out)
 | [],_,h,_=>h
 | x::r,out,h,hx=>by
   simp only [List.foldl_cons]
   exact gw.fold (h.put (hx x (by simp))) (fun y hy=>hx y (by simp [hy]))
theorem oF:∀{l:List bV} {out:List bV} {x:bV},x∈out→x∈l.foldl cH out
 | [],_,_,h=>h
 | y::r,out,x,h=>by
   simp only [List.foldl_cons]
   apply oF
   unfold cH
   split
   · exact h
   · simp [h]
theorem rO:∀(l acc out:List bV),(l.foldl cH acc).foldl cH out=l.foldl cH (acc.foldl cH out)
 | [],_,_=>rfl
 | x::r,acc,out=>by
   simp only [List.foldl_cons]
   rw [rO r]
   congr 1
   have key:∀(l out:List bV) (y:bV),y∈l→y∈l.foldl cH out:=by
     intro l
     induction l with
     | nil=>intro out y h;simp at h
     | cons a l ih=>
       intro out y h
       simp only [List.foldl_cons]
       simp only [List.mem_cons] at h
       rcases h with rfl | h
       · apply oF;unfold cH;split<;>simp_all
       · exact ih _ _ h
   by_cases e:x∈acc
   · have h1:∀(o:List bV),x∈o→cH o x=o:=fun o h=>by unfold cH;rw [if_pos h]
     rw [h1 _ e,h1 _ (key _ _ _ e)]
   · have h1:cH acc x=acc++[x]:=by unfold cH;rw [if_neg e]
     rw [h1,List.foldl_append];rfl
mutual
def Ty.d0:Ty→List bV
 | ⟨k,n,_,_,as⟩=>(if k=5 then [n] else [])++Ty.ya as
def Ty.ya:List Ty→List bV
 | []=>[]
 | a::r=>a.d0++Ty.ya r
end
theorem Ty.tw:∀l:List Ty,Ty.ya l=l.flatMap Ty.d0
 | []=>by simp [Ty.ya]
 | a::r=>by simp [Ty.ya,Ty.tw r]
theorem Ty.p8 (t:Ty):t.d0=(if t.kind=5 then [t.name] else [])++t.args.flatMap Ty.d0:=by
 cases t;simp only [Ty.d0,Ty.tw]
def cr (t:Ty):List bV:=t.d0.foldl cH []
theorem Pt {S:List bV} {t:Ty} (hS:Sm t.args) (h:∀x∈t.args,∀out,gw S out→(aN AP).i 222 [.own (out.map .str) 0,.pv x.pv] [] [out.length]=some ([.own ((x.d0.foldl cH out).map .str) 0],[],[(x.d0.foldl cH out).length]))
   (hk:∀y∈t.args.flatMap Ty.d0,y∈S):∀(n i:Nat),t.args.length-i=n→i≤t.args.length→∀out,gw S out →
   cl AP g222L0 ⟨[(0,.own (out.map .str) 0),(3,.az 3 0),(5,.pv (vI i))],[(3,K6 t)],[],[out.length]⟩ =
     some (.exit 0,⟨[(0,.own ((((t.args.drop i).flatMap Ty.d0).foldl cH out).map .str) 0),(3,.az 3 0),(5,.pv (vI t.args.length)),(25,.pv (.bool false))],[(3,K6 t)],[],[(((t.args.drop i).flatMap Ty.d0).foldl cH out).length]⟩)
 | 0,i,hn,hi,out,hc=>by
   have:i=t.args.length:=by omega
   subst this
   rw [g222L0e]
   simp [g222B0]
 | n+1,i,hn,hi,out,hc=>by
   have hi:i<t.args.length:=by omega
   obtain ⟨x,hx⟩:=bn hi
   unfold Sm at hS
   have hkx:∀y∈x.d0,y∈S:=fun y hy=>hk y (by simp only [List.mem_flatMap];exact ⟨x,bo hx,hy⟩)
   have k:=h x (bo hx) out hc
   have ih:=Pt (t:=t) (by unfold Sm;exact hS) h hk n (i+1) (by omega) (by omega) _ (hc.fold hkx)
   rw [g222L0e] at ih ⊢
   rw [bC hx]
   simp at k ih
   simp (disch:=omega) [-getElem?_pos,g222B0,hx,hi,k,aq]
   rw [g222L0e]
   simp [ih]
theorem c222 {S:List bV} {t:Ty} (hO:t.Ok) (hk:∀y∈t.d0,y∈S):∀out,gw S out →
   (aN AP).i 222 [.own (out.map .str) 0,.pv t.pv] [] [out.length]=some ([.own ((t.d0.foldl cH out).map .str) 0],[],[(t.d0.foldl cH out).length]):=by
 revert hO hk
 refine Ty.eD (p:=fun t=>t.Ok→(∀y∈t.d0,y∈S)→∀out,gw S out →
   (aN AP).i 222 [.own (out.map .str) 0,.pv t.pv] [] [out.length]=some ([.own ((t.d0.foldl cH out).map .str) 0],[],[(t.d0.foldl cH out).length])) ?_ t
 intro t ih hO hk out hc
 rw [Ty.p8] at hk ⊢
 have hkb:∀y∈(if t.kind=5 then [t.name] else []),y∈S:=fun y hy=>hk y (List.mem_append_left _ hy)
 have hka:∀y∈t.args.flatMap Ty.d0,y∈S:=fun y hy=>hk y (List.mem_append_right _ hy)
 have h:=Pt (S:=S) hO.sm (fun x hx out hc=>ih x hx (hO.fw x hx) (fun y hy=>hka y (by simp only [List.mem_flatMap];exact ⟨x,hx,hy⟩)) out hc) hka _ 0 rfl (by omega) _ (hc.fold hkb)
 have hl:=hc.len
 have k:=c216 hl (y:=t.name)
 have k2:=rG (s:=out) (y:=t.name)
 unfold Sm at hl
 have hb:(out.length+1)*16≤140737488355328:=by omega
 have hh:bI 1 (out.map PV.str)=true:=by cases out<;>simp
 rw [aR (af:=g222) rfl (by simp [g222]),List.foldl_append]
 rw [g222L0e] at h
 by_cases e1:t.kind=5
 · by_cases e2:t.name∈out
   · simp [e2] at k2
     have k3:¬kR out t.name<0:=by omega
     simp [e1,cH,e2] at h
     simp [g222,e1,k,k3,g222L0e,h,cH,e2]
   · simp [e2] at k2
     simp [e1,cH,e2] at h
     simp [g222,e1,k,k2,g222L0e,h,cH,e2,hb,hh]
 · simp [e1] at h
   simp [g222,e1,g222L0e,h]
theorem c196 {S:List bV} (hS:S.length<1099511627776) {t:Ty} (hO:t.Ok) (hk:∀y∈t.d0,y∈S):(aN AP).p 196 [t.pv]=some [.aD ((cr t).map .str)]:=by
 have k:=c222 hO hk [] ⟨by simp,by simp,hS⟩
 rw [au (af:=g196) rfl rfl (by decide)]
 unfold cr
 simp at k
 simp [g196,k]
theorem Ma {t:Ty} {l:List bV} (hl:Sm l) {S:List bV} (hs:∀x∈l,x∈S) {i:Nat}:∀(n k:Nat),l.length-k=n→k≤l.length→∀out,gw S out →
   cl AP g195L1 ⟨[(3,.own (out.map .str) 0),(17,.pv (.aD (t.args.map Ty.pv))),(18,.pv (vI t.args.length)),(19,.pv (vI i)),(24,.pv (.aD (l.map .str))),(25,.pv (vI l.length)),(26,.pv (vI k))],[],[],[out.length]⟩ =
     some (.exit 2,⟨[(3,.own (((l.drop k).foldl cH out).map .str) 0),(17,.pv (.aD (t.args.map Ty.pv))),(18,.pv (vI t.args.length)),(19,.pv (vI i)),(24,.pv (.aD (l.map .str))),(25,.pv (vI l.length)),(26,.pv (vI l.length)),(27,.pv (.bool false))],[],[],[((l.drop k).foldl cH out).length]⟩)
 | 0,k,hn,hk,out,hc=>by
   have:k=l.length:=by omega
   subst this
   rw [g195L1e]
   simp [g195B1]
 | n+1,k,hn,hk,out,hc=>by
   have hk:k<l.length:=by omega
   obtain ⟨x,hx⟩:=bn hk
   have hcl:=hc.len
   have c:=c214 hcl (y:=x)
   unfold Sm at hl hcl
   have hb:(out.length+1)*16≤140737488355328:=by omega
   have hh:bI 1 (out.map PV.str)=true:=by cases out<;>simp
   have ih:=Ma (t:=t) (by unfold Sm;exact hl) hs (i:=i) n (k+1) (by omega) (by omega) _ (hc.put (hs x (bo hx)))
   rw [g195L1e] at ih ⊢
   rw [bC hx]
   by_cases e:x∈out
   · rw [decide_eq_true e] at c
     simp [cH,e] at ih
     simp (disch:=omega) [-getElem?_pos,g195B1,hx,hk,c,cH,e,aq]
     rw [g195L1e]
     simp [ih]
   · rw [decide_eq_false e] at c
     simp [cH,e] at ih
     simp (disch:=omega) [-getElem?_pos,g195B1,hx,hk,c,cH,e,aq,hb,hh]
     rw [g195L1e]
     simp [ih]
theorem Pu {S:List bV} (hf:S.length<1099511627776) {t:Ty} (hS:Sm t.args) (h:∀x∈t.args,(aN AP).p 195 [x.pv]=some [.aD ((cr x).map .str)])
   (hk:∀y∈t.args.flatMap Ty.d0,y∈S):∀(n i:Nat),t.args.length-i=n→i≤t.args.length→∀out,gw S out →
   cl AP g195L0 ⟨[(3,.own (out.map .str) 0),(17,.pv (.aD (t.args.map Ty.pv))),(18,.pv (vI t.args.length)),(19,.pv (vI i))],[],[],[out.length]⟩ =
     some (.exit 0,⟨[(3,.own ((((t.args.drop i).flatMap Ty.d0).foldl cH out).map .str) 0),(17,.pv (.aD (t.args.map Ty.pv))),(18,.pv (vI t.args.length)),(19,.pv (vI t.args.length)),(20,.pv (.bool false))],[],[],[(((t.args.drop i).flatMap Ty.d0).foldl cH out).length]⟩)
 | 0,i,hn,hi,out,hc=>by
   have:i=t.args.length:=by omega
   subst this
   rw [g195L0e]
   simp [g195B0]
 | n+1,i,hn,hi,out,hc=>by
   have hi:i<t.args.length:=by omega
   obtain ⟨x,hx⟩:=bn hi
   unfold Sm at hS
   have hkx:∀y∈x.d0,y∈S:=fun y hy=>hk y (by simp only [List.mem_flatMap];exact ⟨x,bo hx,hy⟩)
   have k:=h x (bo hx)
   have hcx:gw S (cr x):=gw.fold (⟨by simp,by simp,hf⟩:gw S []) hkx
   have k2:=Ma (t:=t) hcx.len hcx.sub (i:=i) _ 0 rfl (by omega) out hc
   have ef:(cr x).foldl cH out=x.d0.foldl cH out:=rO _ _ _
   rw [List.drop_zero,ef] at k2
   have ih:=Pu hf (t:=t) (by unfold Sm;exact hS) h hk n (i+1) (by omega) (by omega) _ (hc.fold hkx)
   rw [g195L0e] at ih ⊢
   rw [g195L1e] at k2
   rw [bC hx]
   simp at k k2 ih
   simp (disch:=omega) [-getElem?_pos,g195B0,hx,hi,k,aq]
   rw [g195L1e]
   simp (disch:=omega) [k2,aq]
   rw [g195L0e]
   simp [ih]
theorem c195 {S:List bV} (hf:S.length<1099511627776) {t:Ty} (hO:t.Ok) (hC:t.Cw) (hk:∀y∈t.d0,y∈S):(aN AP).p 195 [t.pv]=some [.aD ((cr t).map .str)]:=by
 revert hO hC hk
 refine Ty.eD (p:=fun t=>t.Ok→t.Cw→(∀y∈t.d0,y∈S)→(aN AP).p 195 [t.pv]=some [.aD ((cr t).map .str)]) ?_ t
 intro t ih hO hC hk
 rw [Ty.p8] at hk
 have hka:∀y∈t.args.flatMap Ty.d0,y∈S:=fun y hy=>hk y (List.mem_append_right _ hy)
 have h:=Pu hf hO.sm (fun x hx=>ih x hx (hO.fw x hx) (hC.fw x hx) (fun y hy=>hka y (by simp only [List.mem_flatMap];exact ⟨x,hx,hy⟩))) hka _ 0 rfl (by omega) [] ⟨by simp,by simp,hf⟩
 rw [au (af:=g195) rfl rfl (by decide)]
 unfold cr
 rw [Ty.p8]
 rw [g195L0e] at h
 simp at h
 by_cases e1:t.kind=5
 · have ea:=hC.bare (by rw [e1];decide)
   simp [g195,e1,ea,cH]
 · simp [g195,e1,g195L0e,h]
end Go.Ab.Lw
namespace Go.Ab.Lw
open Ev
abbrev mG:List (List UInt8):=varNames
inductive fF (ds:List Dt):Nat→Ex→Prop
 | var {n:Nat} {s:List UInt8}:s∈mG→fF ds n ⟨1,0,s,0,[],[],bR⟩
 | int {n:Nat} {m:Int}:0≤m→m<4→fF ds n ⟨3,0,[],m,[],[],bR⟩
 | d7 {n:Nat} {d:Dt} {c:fW}:d∈ds→c∈d.cons→fF ds n ⟨2,0,c.name,0,[],[],bR⟩
 | gone {n:Nat}:fF ds n ⟨2,0,[71,111,110,101],0,[],[],bR⟩
 | hole {n:Nat}:fF ds n ⟨10,0,[],0,[],[],bR⟩
 | lam {n:Nat} {s:List UInt8} {a:Ex}:s∈mG→fF ds n a→fF ds (n+1) ⟨4,0,s,0,[a],[],bR⟩
 | app {n:Nat} {a b:Ex}:fF ds n a→fF ds n b→fF ds (n+1) ⟨5,0,[],0,[a,b],[],bR⟩
 | Pv {n:Nat} {k:Int} {s:List UInt8} {a b:Ex}:k=6∨k=7→s∈mG→fF ds n a→fF ds n b→fF ds (n+1) ⟨k,0,s,0,[a,b],[],bR⟩
 | Q1 {n:Nat} {a:Ex} {t:Ty}:fF ds n a→gv (·∈ds) [] 2 t→fF ds (n+1) ⟨9,0,[],0,[a],[],t⟩
 | held {n:Nat} {a:Ex}:fF ds n a→fF ds (n+1) ⟨11,0,[],0,[a],[],bR⟩
 | up {n:Nat} {a:Ex}:fF ds n a→fF ds (n+1) a
 | Mb {n:Nat} {d:Dt} {a:Ex} {as:List Ar}:d∈ds→fF ds n a→as.length=d.cons.length→(∀x∈as,fF ds n x.body)→(∀x∈as,x.pos=0∧∀v∈x.vars,v∈mG) →
     (∀(i:Nat) (c:fW) (x:Ar),d.cons[i]?=some c→as[i]?=some x→x.d7=c.name∧x.vars.length=c.fields.length)→fF ds (n+1) ⟨8,0,[],0,[a],as,bR⟩
end Go.Ab.Lw
namespace Go.Ab.Lw
open Ev
def D8 (d:Dt):Prop:=d.params.length≤8∧0<d.cons.length∧d.cons.length≤8∧∀c∈d.cons,c.fields.length≤8
theorem Jb:∀d∈cG,D8 d:=by
 intro d hd
 simp [cG] at hd
 rcases hd with rfl | rfl | rfl | rfl | rfl | rfl | rfl<;>simp [D8]
structure Q2 (e:Ex) (C:List AV):Prop where
 len:C.length=11
 leaf:C.all bm=true
 c_:∀sh,en sh C=some e.cells
 flat:bK.dX C=true
 h_:fJ C=true
def ga (f:Bool) (l:List PV):AV:=if f then .bD l else .pv (.aD l)
def d9 (fk fa fg:Bool) (e:Ex):List AV:=[.pv (vI e.kind),.pv (vI e.pos),.pv (.str e.name),.pv (vI e.num),ga fk (e.kids.map Ex.pv),ga fa (e.aX.map Ar.pv),.pv (vI e.ty.kind),.pv (.str e.ty.name),.pv (vI e.ty.id),.pv (vI e.ty.home),ga fg (e.ty.args.map Ty.pv)]
theorem d6 (fk fa fg:Bool) (e:Ex):Q2 e (d9 fk fa fg e):=by
 refine ⟨rfl,?_,?_,?_,?_⟩
 · cases fk<;>cases fa<;>cases fg<;>rfl
 · intro sh
   rw [Ex.bG]
   cases fk<;>cases fa<;>cases fg<;>simp [d9,ga]
 · cases fk<;>cases fa<;>cases fg<;>simp [d9,ga]
 · cases fk<;>cases fa<;>cases fg<;>simp [d9,ga]
end Go.Ab.Lw
namespace Go.Ab.Lw
open Ev
def Re (pos:Int) (name:bV) (ps:List bV) (cs:List fW):List AV:=[.pv (vI pos),.pv (.str name),.own (ps.map .str) 1,.own (cs.map fW.pv) 2]
@[simp] theorem QH (pos:Int) (name:bV) (ps:List bV) (cs:List fW):Re pos name ps cs=[.pv (vI pos),.pv (.str name),.own (ps.map .str) 1,.own (cs.map fW.pv) 2]:=rfl
end Go.Ab.Lw
namespace Go.Ab.Lw
open Ev
structure Small (ds:List Dt):Prop where
 num:Sm ds
 par:∀d∈ds,Sm d.params
 d7:∀d∈ds,Sm d.cons
 Q3:Sm (ds.flatMap Dt.cons)
 Pw:∀d∈ds,∀c∈d.cons,Sm c.fields∧(∀x∈c.fields,x.Ok)∧∀x∈c.fields,x.Cw
theorem Ld {l:List Dt} {b:Nat} (h:∀d∈l,d.cons.length≤b):(l.flatMap Dt.cons).length≤l.length*b:=by
 induction l with
 | nil=>simp
 | cons a r ih=>
   have h1:=h a (by simp)
   have h2:=ih (fun x hx=>h x (by simp [hx]))
   simp only [List.flatMap_cons,List.length_append,List.length_cons,Nat.add_mul]
   omega
end Go.Ab.Lw
namespace Go.Ab.Lw
open Ev
def yb (a b:Ty):Ty:=⟨4,[45,62],0,0,[a,b]⟩
def pO (n:Nat):List Ty:=(List.range n).map fun i:Nat=>dm i
theorem nH {n:Nat}:(pO n).length=n:=by simp [pO]
theorem FK {n:Nat}:pO (n+1)=pO n++[dm n]:=by simp [pO,List.range_succ]
def FL (d:Dt):List AV:=[.pv (vI d.pos),.pv (.str d.name),.pv (.aD (d.params.map .str)),.pv (.aD (d.cons.map fW.pv))]
@[simp] theorem QI (d:Dt):FL d=[.pv (vI d.pos),.pv (.str d.name),.pv (.aD (d.params.map .str)),.pv (.aD (d.cons.map fW.pv))]:=rfl
def Jc (d:Dt):Ty:=⟨4,d.name,0,0,pO d.params.length⟩
theorem Px {d:Dt} (hS:Sm d.params):∀(n i:Nat),d.params.length-i=n→i≤d.params.length →
   cl AP g221L0 ⟨[(1,.az 1 0),(2,.az 2 0),(3,.own ((pO i).map Ty.pv) 0),(4,.pv (vI i))],[(1,FL d),(2,[.pv (vI 0),.pv (.str []),.pv (vI 0),.pv (vI 0),.own [] 1])],[],[i,0]⟩ =
     some (.exit 0,⟨[(1,.az 1 0),(2,.az 2 0),(3,.own ((pO d.params.length).map Ty.pv) 0),(4,.pv (vI d.params.length)),(9,.pv (.bool false))],[(1,FL d),(2,[.pv (vI 0),.pv (.str []),.pv (vI 0),.pv (vI 0),.own [] 1])],[],[d.params.length,0]⟩)
 | 0,i,hn,hi=>by
   have:i=d.params.length:=by omega
   subst this
   have hl:=nH (n:=d.params.length)
   rw [g221L0e]
   simp [g221B0,hl]
 | n+1,i,hn,hi=>by
   have hi:i<d.params.length:=by omega
   unfold Sm at hS
   have hl:=nH (n:=i)
   have hl2:=nH (n:=i+1)
   have hb:(i+1)*64≤140737488355328:=by omega
   have k:=c72 (n:=i)
   have ih:=Px hS n (i+1) (by omega) (by omega)
   rw [g221L0e] at ih ⊢
   rw [FK] at ih
   simp [dm,hl] at ih k
   simp (disch:=omega) [-getElem?_pos,g221B0,hi,k,hl,hb,aq]
   rw [g221L0e]
   simp [ih,hl]
theorem c221 {d:Dt} (hS:Sm d.params):(aN AP).p 221 [d.pv]=some [(Jc d).pv]:=by
 have h:=Px hS _ 0 rfl (by omega)
 have hl:=nH (n:=d.params.length)
 have k:=c62 (s:=d.name) (l:=pO d.params.length) (by unfold Sm at hS ⊢;omega)
 rw [au (af:=g221) rfl rfl (by decide)]
 rw [g221L0e] at h
 simp [pO] at h
 simp [pO] at k
 simp [g221,g221L0e,h,k,Jc,pO]
def BM (ps:List bV) (fs:List Ty) (t:Ty):Ty:=fs.foldr (fun f t=>yb (f.lX ps) t) t
theorem FM {ps:List bV} {fs:List Ty} {k:Nat} {x t:Ty} (h:fs[k]?=some x):BM ps (fs.take (k+1)) t=BM ps (fs.take k) (yb (x.lX ps) t):=by
 rw [List.take_add_one,h]
 simp [BM]
def pH (ds:List Dt) (s:bV):Option Sc:=(hZ ds s 0).bind fun q=>(ds[q.1]?).bind fun d=>(d.cons[q.2]?).map fun c=>⟨d.params.length,BM d.params c.fields (Jc d)⟩
theorem Py {ds:List Dt} {i:Nat} {d:Dt} (hd:ds[i]?=some d) (hp:Sm d.params) {fs:List Ty} (hS:Sm fs) (hO:∀x∈fs,x.Ok) (hC:∀x∈fs,x.Cw):∀(k:Nat),k≤fs.length→∀t:Ty,
   cl AP g193L0 ⟨[(0,.pv (.aD (ds.map Dt.pv))),(4,.az 4 0),(6,.pv (vI i)),(9,.az 9 0),(10,.pv (.aD (fs.map Ty.pv))),(11,.pv (vI ((k:Int)-1)))],
     [(4,[.pv (vI 0),.pv (vI 0),.pv (.str []),.pv (vI 0),.pv (vI 0),.own [] 0]),(9,K6 t)],[],[0]⟩ =
   some (.exit 0,⟨[(0,.pv (.aD (ds.map Dt.pv))),(4,.az 4 0),(6,.pv (vI i)),(9,.az 9 0),(10,.pv (.aD (fs.map Ty.pv))),(11,.pv (vI (-1))),(40,.pv (.bool false))],
     [(4,[.pv (vI 0),.pv (vI 0),.pv (.str []),.pv (vI 0),.pv (vI 0),.own [] 0]),(9,K6 (BM d.params (fs.take k) t))],[],[0]⟩)
 | 0,hk,t=>by
   rw [g193L0e]
   simp [g193B0,BM]
 | k+1,hk,t=>by
   obtain ⟨x,hx⟩:=bn (l:=fs) (i:=k) (by omega)
   unfold Sm at hS
   have ih:=Py hd hp (fs:=fs) (by unfold Sm;exact hS) hO hC k (by omega) (yb (x.lX d.params) t)
   have e1:((k+1:Nat):Int)-1=k:=by omega
   have q1:=c198 hp (hO x (bo hx)) (hC x (bo hx))
   have q2:=c69 (a:=x.lX d.params) (b:=t)
   rw [g193L0e,e1,FM hx]
   simp [yb] at ih q1 q2
   simp (disch:=omega) [-getElem?_pos,g193B0,hd,hx,q1,q2,aq,ih,yb]
theorem c193 {ds:List Dt} (hS:Sm ds) (hc:∀d∈ds,Sm d.cons) (hp:∀d∈ds,Sm d.params) (hf:∀d∈ds,∀c∈d.cons,Sm c.fields∧(∀x∈c.fields,x.Ok)∧∀x∈c.fields,x.Cw) {s:bV} :
   (aN AP).p 193 [.aD (ds.map Dt.pv),.str s]=some (K3 (pH ds s)):=by
 have k:=c191 hS hc (s:=s)
 rw [au (af:=g193) rfl rfl (by decide)]
 cases e:hZ ds s 0 with
 | none=>
   rw [e] at k
   simp [rF] at k
   simp [g193,k,pH,e,K3,mA]
 | some q=>
   rw [e] at k
   obtain ⟨_,d,c,hd,hcc,_⟩:=uX e
   simp only [Nat.sub_zero] at hd
   obtain ⟨f1,f2,f3⟩:=hf d (bo hd) c (bo hcc)
   have k2:=c221 (hp d (bo hd))
   have h:=Py hd (hp d (bo hd)) f1 f2 f3 c.fields.length (Nat.le_refl _) (Jc d)
   rw [List.take_length] at h
   rw [g193L0e] at h
   unfold Sm at f1
   simp [rF] at k
   simp at k2 h
   simp (disch:=omega) [-getElem?_pos,g193,k,hd,hcc,k2,pH,e,K3,aq,g193L0e,h]
end Go.Ab.Lw
namespace Go.Ab.Lw
open Ev
theorem Pz {sz:Nat} {l:List PV} {k:IntKind} {h:Int} (h0:0≤h) (h1:h≤l.length):cP false sz false true false [.pv (.aD l),.pv (.int k h)]=some (.pv (.aD (l.take h.toNat))):=by
 simp [cP,dY,ee,h0,h1]
def tz (l:List bV):List (PV×PV):=l.map fun s=>(.str s,.bool true)
def vd (l:List bV) (s:bV):List bV:=if s∈l then l else l++[s]
theorem mH {s:bV}:∀{l:List bV},ic .str (tz l) (.str s)=some (if s∈l then some (.bool true) else none)
 | []=>rfl
 | a::r=>by
   have ih:=mH (s:=s) (l:=r)
   unfold tz at ih ⊢
   simp only [List.map_cons,ic,gV]
   by_cases e:s=a
   · subst e;simp
   · rw [show (s == a)=false from by simpa using e]
     simp only [ih,List.mem_cons,e,false_or]
theorem oG {s:bV}:∀{l:List bV},iV .str (tz l) (.str s) (.bool true)=some (tz (vd l s))
 | []=>rfl
 | a::r=>by
   have ih:=oG (s:=s) (l:=r)
   unfold tz vd at ih ⊢
   simp only [List.map_cons,iV,gV]
   by_cases e:s=a
   · subst e;simp
   · rw [show (s == a)=false from by simpa using e]
     simp only [ih,List.mem_cons,e,false_or,Option.map_some]
     split<;>simp
def su:List bV→List bV→Bool
 | _,[]=>false
 | pre,s::r=>decide (s∈pre) || su (pre++[s]) r
def nI (cons:List bV):List fW→Option Int×List bV
 | []=>(none,cons)
 | c::r=>if c.name∈cons then (some c.pos,cons) else nI (cons++[c.name]) r
def rP (types:List bV) (d:Dt):Bool:=decide (d.name=[73,110,116]∨d.name∈types) || su [] d.params
def sv (types cons:List bV):List Dt→Option Int
 | []=>none
 | d::r=>if rP types d=true then some d.pos
   else match nI cons d.cons with
     | (some p,_)=>some p
     | (none,cs)=>sv (types++[d.name]) cs r
def lY (ds:List Dt) (ps:List bV):List fW→Option (Int×Int)
 | []=>none
 | c::r=>if Ty.bZ ds ps c.fields≠0 then some (Ty.bZ ds ps c.fields,c.pos) else lY ds ps r
def sA (ds:List Dt):List Dt→Option (Int×Int)
 | []=>none
 | d::r=>match lY ds d.params d.cons with
   | some q=>some q
   | none=>sA ds r
def check (ds:List Dt):Int×Int:=match sv [] [] ds with
 | some p=>(6,p)
 | none=>(sA ds ds).getD (0,0)
def vn (a b:List (PV×PV)):Sh:=[some [.du a],some [.du b]]
@[simp] theorem QJ (a b:List (PV×PV)):vn a b=[some [.du a],some [.du b]]:=rfl
def Jd (c:fW):List AV:=[.pv (vI c.pos),.pv (.str c.name),.pv (.aD (c.fields.map Ty.pv))]
@[simp] theorem Qo (c:fW):Jd c=[.pv (vI c.pos),.pv (.str c.name),.pv (.aD (c.fields.map Ty.pv))]:=rfl
theorem Mc {ds:List Dt} {d:Dt} {i:Nat} {A B:List (PV×PV)} (hS:Sm d.params):∀(n k:Nat),d.params.length-k=n→k≤d.params.length→∀b:Bool,
   cl AP g188L1 ⟨[(0,.pv (.aD (ds.map Dt.pv))),(2,.az 2 0),(3,.cv 0),(4,.cv 1),(6,.az 6 0),(7,.pv (.bool b)),(22,.pv (.aD (ds.map Dt.pv))),(23,.pv (vI ds.length)),(24,.pv (vI i)),(36,.pv (.aD (d.params.map .str))),(37,.pv (vI d.params.length)),(38,.pv (vI k))],
     [(2,[.pv (vI 0),.pv (vI 0)]),(6,FL d)],vn A B,[]⟩ =
   some (.exit 2,⟨[(0,.pv (.aD (ds.map Dt.pv))),(2,.az 2 0),(3,.cv 0),(4,.cv 1),(6,.az 6 0),(7,.pv (.bool (b || su (d.params.take k) (d.params.drop k)))),(22,.pv (.aD (ds.map Dt.pv))),(23,.pv (vI ds.length)),(24,.pv (vI i)),(36,.pv (.aD (d.params.map .str))),(37,.pv (vI d.params.length)),(38,.pv (vI d.params.length)),(39,.pv (.bool false))],
     [(2,[.pv (vI 0),.pv (vI 0)]),(6,FL d)],vn A B,[]⟩)
 | 0,k,hn,hk,b=>by
   have:k=d.params.length:=by omega
   subst this
   rw [g188L1e]
   simp [g188B1,su]
 | n+1,k,hn,hk,b=>by
   have hk:k<d.params.length:=by omega
   have hk':k≤d.params.length:=by omega
   obtain ⟨x,hx⟩:=bn hk
   have hSt:Sm (d.params.take k):=by unfold Sm at hS ⊢;simp;omega
   unfold Sm at hS
   have q:=c214 hSt (y:=x)
   have sl:=Pz (sz:=1) (l:=d.params.map PV.str) (k:=.i64) (h:=k) (by omega) (by simp;omega)
   have ih:=Mc (ds:=ds) (d:=d) (i:=i) (A:=A) (B:=B) (by unfold Sm;exact hS) n (k+1) (by omega) (by omega)
   have e1:d.params.take (k+1)=d.params.take k++[x]:=by rw [List.take_add_one,hx];rfl
   rw [e1] at ih
   rw [bC hx]
   simp only [su]
   rw [List.map_take] at q
   simp at sl q
   cases b with
   | true=>
     have ih:=ih true
     rw [g188L1e] at ih ⊢
     simp at ih
     simp (disch:=omega) [-getElem?_pos,g188B1,hx,hk,aq]
     rw [g188L1e]
     simp [ih]
   | false=>
     have ih:=ih (decide (x∈d.params.take k))
     rw [g188L1e] at ih ⊢
     simp at ih
     simp (disch:=omega) [-getElem?_pos,g188B1,hx,hk,hk',sl,q,aq]
     rw [g188L1e]
     simp [ih]
theorem Md {ds:List Dt} {i:Nat} {A:List (PV×PV)} {cs:List fW} (hS:Sm cs):∀(n k:Nat),cs.length-k=n→k≤cs.length→∀cons:List bV,
   cl AP g188L2 ⟨[(0,.pv (.aD (ds.map Dt.pv))),(2,.az 2 0),(3,.cv 0),(4,.cv 1),(22,.pv (.aD (ds.map Dt.pv))),(23,.pv (vI ds.length)),(24,.pv (vI i)),(58,.pv (.aD (cs.map fW.pv))),(59,.pv (vI cs.length)),(60,.pv (vI k))],
     [(2,[.pv (vI 0),.pv (vI 0)])],vn A (tz cons),[]⟩ =
   match nI cons (cs.drop k) with
   | (some p,c2)=>some (.ret,⟨[(2,.az 2 0)],[(2,[.pv (vI 6),.pv (vI p)])],vn A (tz c2),[]⟩)
   | (none,c2)=>some (.exit 4,⟨[(0,.pv (.aD (ds.map Dt.pv))),(2,.az 2 0),(3,.cv 0),(4,.cv 1),(22,.pv (.aD (ds.map Dt.pv))),(23,.pv (vI ds.length)),(24,.pv (vI i)),(58,.pv (.aD (cs.map fW.pv))),(59,.pv (vI cs.length)),(60,.pv (vI cs.length)),(61,.pv (.bool false))],
     [(2,[.pv (vI 0),.pv (vI 0)])],vn A (tz c2),[]⟩)
 | 0,k,hn,hk,cons=>by
   have:k=cs.length:=by omega
   subst this
   rw [g188L2e]
   simp [g188B2,nI]
 | n+1,k,hn,hk,cons=>by
   have hk:k<cs.length:=by omega
   obtain ⟨x,hx⟩:=bn hk
   unfold Sm at hS
   have f1:=mH (s:=x.name) (l:=cons)
   have f2:=oG (s:=x.name) (l:=cons)
   have ih:=Md (ds:=ds) (i:=i) (A:=A) (cs:=cs) (by unfold Sm;exact hS) n (k+1) (by omega) (by omega) (cons++[x.name])
   rw [bC hx]
   simp only [nI]
   rw [g188L2e] at ih ⊢
   by_cases e:x.name∈cons
   · simp [e] at f1
     simp (disch:=omega) [-getElem?_pos,g188B2,hx,hk,f1,e]
   · simp [e,vd] at f1 f2
     simp at ih
     simp (disch:=omega) [-getElem?_pos,g188B2,hx,hk,f1,f2,e,aq]
     rw [g188L2e]
     simp [ih]
theorem PA {ds:List Dt} (hS:Sm ds) (hp:∀d∈ds,Sm d.params) (hc:∀d∈ds,Sm d.cons):∀(n i:Nat),ds.length-i=n→i≤ds.length→∀types cons:List bV,∃A B,
   cl AP g188L0 ⟨[(0,.pv (.aD (ds.map Dt.pv))),(2,.az 2 0),(3,.cv 0),(4,.cv 1),(22,.pv (.aD (ds.map Dt.pv))),(23,.pv (vI ds.length)),(24,.pv (vI i))],
     [(2,[.pv (vI 0),.pv (vI 0)])],vn (tz ([73,110,116]::types)) (tz cons),[]⟩ =
   match sv types cons (ds.drop i) with
   | some p=>some (.ret,⟨[(2,.az 2 0)],[(2,[.pv (vI 6),.pv (vI p)])],vn A B,[]⟩)
   | none=>some (.exit 0,⟨[(0,.pv (.aD (ds.map Dt.pv))),(2,.az 2 0),(3,.cv 0),(4,.cv 1),(22,.pv (.aD (ds.map Dt.pv))),(23,.pv (vI ds.length)),(24,.pv (vI ds.length)),(25,.pv (.bool false))],
     [(2,[.pv (vI 0),.pv (vI 0)])],vn A B,[]⟩)
 | 0,i,hn,hi,types,cons=>by
   have:i=ds.length:=by omega
   subst this
   refine ⟨tz ([73,110,116]::types),tz cons,?_⟩
   rw [g188L0e]
   simp [g188B0,sv]
 | n+1,i,hn,hi,types,cons=>by
   have hi:i<ds.length:=by omega
   obtain ⟨d,hd⟩:=bn hi
   unfold Sm at hS
   have hpd:=hp d (bo hd)
   have f1:=mH (s:=d.name) (l:=[73,110,116]::types)
   have f2:=oG (s:=d.name) (l:=[73,110,116]::types)
   have k1:=Mc (ds:=ds) (d:=d) (i:=i) (A:=tz (vd ([73,110,116]::types) d.name)) (B:=tz cons) hpd _ 0 rfl (by omega) (decide (d.name∈[73,110,116]::types))
   have k2:=Md (ds:=ds) (i:=i) (A:=tz (vd ([73,110,116]::types) d.name)) (hc d (bo hd)) _ 0 rfl (by omega) cons
   have eb:(decide (d.name∈[73,110,116]::types) || su (d.params.take 0) (d.params.drop 0))=rP types d:=by
     simp [rP]
   rw [eb] at k1
   rw [bC hd]
   simp only [sv]
   rw [g188L1e] at k1
   rw [g188L2e] at k2
   have hv:(if d.name∈[73,110,116]::types then some (PV.bool true) else none).getD (.bool false)=.bool (decide (d.name∈[73,110,116]::types)):=by
     by_cases e:d.name∈[73,110,116]::types<;>simp only [e,if_true,if_false,decide_true,decide_false]<;>rfl
   by_cases e:rP types d=true
   · refine ⟨tz (vd ([73,110,116]::types) d.name),tz cons,?_⟩
     rw [if_pos e,g188L0e]
     rw [e] at k1
     generalize [73,110,116]::types=T at f1 f2 hv k1 ⊢
     generalize vd T d.name=T' at f2 k1 ⊢
     simp [g188L1e] at k1
     simp (disch:=omega) [-getElem?_pos,g188B0,hd,hi,f1,f2,hv]
     rw [g188L1e]
     simp [k1]
   · have e':rP types d=false:=by simpa using e
     have ea:vd ([73,110,116]::types) d.name=[73,110,116]::(types++[d.name]):=by
       unfold vd
       rw [if_neg]
       · rfl
       · intro h
         apply e
         simp only [rP,Bool.or_eq_true,decide_eq_true_eq]
         left
         simpa using h
     rw [if_neg e]
     rw [e'] at k1
     rw [ea] at f2 k1 k2
     cases hC:nI cons d.cons with
     | mk o cs=>
       rw [List.drop_zero,hC] at k2
       cases o with
       | some p=>
         refine ⟨tz ([73,110,116]::(types++[d.name])),tz cs,?_⟩
         rw [g188L0e]
         generalize [73,110,116]::types=T at f1 f2 hv k1 ⊢
         generalize [73,110,116]::(types++[d.name])=T' at f2 k1 k2 ⊢
         simp at k1 k2
         simp (disch:=omega) [-getElem?_pos,g188B0,hd,hi,f1,f2,hv]
         rw [g188L1e]
         simp [k1]
         rw [g188L2e]
         simp [k2]
       | none=>
         obtain ⟨A,B,ih⟩:=PA (ds:=ds) (by unfold Sm;exact hS) hp hc n (i+1) (by omega) (by omega) (types++[d.name]) cs
         refine ⟨A,B,?_⟩
         rw [g188L0e] at ih ⊢
         generalize [73,110,116]::types=T at f1 f2 hv k1 ⊢
         generalize [73,110,116]::(types++[d.name])=T' at f2 k1 k2 ih ⊢
         simp at k1 k2 ih
         simp (disch:=omega) [-getElem?_pos,g188B0,hd,hi,f1,f2,hv]
         rw [g188L1e]
         simp [k1]
         rw [g188L2e]
         simp (disch:=omega) [k2,aq]
         rw [g188L0e]
         simp [ih]
end Go.Ab.Lw
namespace Go.Ab.Lw
open Ev
theorem Me {ds:List Dt} (hds:Sm ds) {d:Dt} (hp:Sm d.params) {c:fW} {i k:Nat} {A B:List (PV×PV)} (hS:Sm c.fields) (hO:∀x∈c.fields,x.Ok):∀(n j:Nat),c.fields.length-j=n→j≤c.fields.length →
   cl AP g188L5 ⟨[(0,.pv (.aD (ds.map Dt.pv))),(2,.az 2 0),(13,.az 13 0),(15,.az 15 0),(76,.pv (.aD (ds.map Dt.pv))),(77,.pv (vI ds.length)),(78,.pv (vI i)),(83,.pv (.aD (d.cons.map fW.pv))),(84,.pv (vI d.cons.length)),(85,.pv (vI k)),(90,.pv (.aD (c.fields.map Ty.pv))),(91,.pv (vI c.fields.length)),(92,.pv (vI j))],
     [(2,[.pv (vI 0),.pv (vI 0)]),(13,FL d),(15,Jd c)],vn A B,[]⟩ =
   if Ty.bZ ds d.params (c.fields.drop j)≠0 then some (.ret,⟨[(2,.az 2 0)],[(2,[.pv (vI (Ty.bZ ds d.params (c.fields.drop j))),.pv (vI c.pos)])],vn A B,[]⟩)
   else some (.exit 10,⟨[(0,.pv (.aD (ds.map Dt.pv))),(2,.az 2 0),(13,.az 13 0),(15,.az 15 0),(76,.pv (.aD (ds.map Dt.pv))),(77,.pv (vI ds.length)),(78,.pv (vI i)),(83,.pv (.aD (d.cons.map fW.pv))),(84,.pv (vI d.cons.length)),(85,.pv (vI k)),(90,.pv (.aD (c.fields.map Ty.pv))),(91,.pv (vI c.fields.length)),(92,.pv (vI c.fields.length)),(93,.pv (.bool false))],
     [(2,[.pv (vI 0),.pv (vI 0)]),(13,FL d),(15,Jd c)],vn A B,[]⟩)
 | 0,j,hn,hj=>by
   have:j=c.fields.length:=by omega
   subst this
   rw [g188L5e]
   simp [g188B5,Ty.bZ]
 | n+1,j,hn,hj=>by
   have hj:j<c.fields.length:=by omega
   obtain ⟨x,hx⟩:=bn hj
   have q:=c185 hds hp (hO x (bo hx))
   unfold Sm at hS
   have ih:=Me hds hp (c:=c) (i:=i) (k:=k) (A:=A) (B:=B) (by unfold Sm;exact hS) hO n (j+1) (by omega) (by omega)
   rw [bC hx]
   simp only [Ty.bZ]
   rw [g188L5e] at ih ⊢
   simp at ih q
   by_cases e:x.formed ds d.params=0
   · rw [e] at q
     simp (disch:=omega) [-getElem?_pos,g188B5,hx,hj,q,e,aq]
     rw [g188L5e]
     simp [ih]
   · simp (disch:=omega) [-getElem?_pos,g188B5,hx,hj,q,e]
theorem Mf {ds:List Dt} (hds:Sm ds) {d:Dt} (hp:Sm d.params) {i:Nat} {A B:List (PV×PV)} (hS:Sm d.cons) (hf:∀c∈d.cons,Sm c.fields∧∀x∈c.fields,x.Ok):∀(n k:Nat),d.cons.length-k=n→k≤d.cons.length →
   cl AP g188L4 ⟨[(0,.pv (.aD (ds.map Dt.pv))),(2,.az 2 0),(13,.az 13 0),(76,.pv (.aD (ds.map Dt.pv))),(77,.pv (vI ds.length)),(78,.pv (vI i)),(83,.pv (.aD (d.cons.map fW.pv))),(84,.pv (vI d.cons.length)),(85,.pv (vI k))],
     [(2,[.pv (vI 0),.pv (vI 0)]),(13,FL d)],vn A B,[]⟩ =
   match lY ds d.params (d.cons.drop k) with
   | some q=>some (.ret,⟨[(2,.az 2 0)],[(2,[.pv (vI q.1),.pv (vI q.2)])],vn A B,[]⟩)
   | none=>some (.exit 8,⟨[(0,.pv (.aD (ds.map Dt.pv))),(2,.az 2 0),(13,.az 13 0),(76,.pv (.aD (ds.map Dt.pv))),(77,.pv (vI ds.length)),(78,.pv (vI i)),(83,.pv (.aD (d.cons.map fW.pv))),(84,.pv (vI d.cons.length)),(85,.pv (vI d.cons.length)),(86,.pv (.bool false))],
     [(2,[.pv (vI 0),.pv (vI 0)]),(13,FL d)],vn A B,[]⟩)
 | 0,k,hn,hk=>by
   have:k=d.cons.length:=by omega
   subst this
   rw [g188L4e]
   simp [g188B4,lY]
 | n+1,k,hn,hk=>by
   have hk:k<d.cons.length:=by omega
   obtain ⟨c,hx⟩:=bn hk
   obtain ⟨f1,f2⟩:=hf c (bo hx)
   have h:=Me hds hp (c:=c) (i:=i) (k:=k) (A:=A) (B:=B) f1 f2 _ 0 rfl (by omega)
   unfold Sm at hS
   have ih:=Mf hds hp (i:=i) (A:=A) (B:=B) (by unfold Sm;exact hS) hf n (k+1) (by omega) (by omega)
   rw [bC hx]
   simp only [lY]
   rw [g188L4e] at ih ⊢
   rw [g188L5e] at h
   simp at ih h
   by_cases e:Ty.bZ ds d.params c.fields=0
   · simp [e] at h
     simp (disch:=omega) [-getElem?_pos,g188B4,hx,hk,e]
     rw [g188L5e]
     simp (disch:=omega) [h,aq]
     rw [g188L4e]
     simp [ih]
   · simp [e] at h
     simp (disch:=omega) [-getElem?_pos,g188B4,hx,hk,e]
     rw [g188L5e]
     simp [h]
theorem Mg {ds:List Dt} (hds:Sm ds) (hp:∀d∈ds,Sm d.params) (hc:∀d∈ds,Sm d.cons) (hf:∀d∈ds,∀c∈d.cons,Sm c.fields∧∀x∈c.fields,x.Ok) {A B:List (PV×PV)}:∀(n i:Nat),ds.length-i=n→i≤ds.length →
   cl AP g188L3 ⟨[(0,.pv (.aD (ds.map Dt.pv))),(2,.az 2 0),(76,.pv (.aD (ds.map Dt.pv))),(77,.pv (vI ds.length)),(78,.pv (vI i))],
     [(2,[.pv (vI 0),.pv (vI 0)])],vn A B,[]⟩ =
   match sA ds (ds.drop i) with
   | some q=>some (.ret,⟨[(2,.az 2 0)],[(2,[.pv (vI q.1),.pv (vI q.2)])],vn A B,[]⟩)
   | none=>some (.exit 6,⟨[(0,.pv (.aD (ds.map Dt.pv))),(2,.az 2 0),(76,.pv (.aD (ds.map Dt.pv))),(77,.pv (vI ds.length)),(78,.pv (vI ds.length)),(79,.pv (.bool false))],
     [(2,[.pv (vI 0),.pv (vI 0)])],vn A B,[]⟩)
 | 0,i,hn,hi=>by
   have:i=ds.length:=by omega
   subst this
   rw [g188L3e]
   simp [g188B3,sA]
 | n+1,i,hn,hi=>by
   have hi:i<ds.length:=by omega
   obtain ⟨d,hd⟩:=bn hi
   have h:=Mf hds (hp d (bo hd)) (i:=i) (A:=A) (B:=B) (hc d (bo hd)) (hf d (bo hd)) _ 0 rfl (by omega)
   have ih:=Mg hds hp hc hf (A:=A) (B:=B) n (i+1) (by omega) (by omega)
   have hds':=hds
   unfold Sm at hds'
   rw [bC hd]
   simp only [sA]
   rw [g188L3e] at ih ⊢
   rw [g188L4e] at h
   simp at ih h
   cases e:lY ds d.params d.cons with
   | none=>
     rw [e] at h
     simp at h
     simp (disch:=omega) [-getElem?_pos,g188B3,hd,hi]
     rw [g188L4e]
     simp (disch:=omega) [h,aq]
     rw [g188L3e]
     simp [ih]
   | some q=>
     rw [e] at h
     simp at h
     simp (disch:=omega) [-getElem?_pos,g188B3,hd,hi]
     rw [g188L4e]
     simp [h]
theorem c188 {ds:List Dt} (hds:Sm ds) (hp:∀d∈ds,Sm d.params) (hc:∀d∈ds,Sm d.cons) (hf:∀d∈ds,∀c∈d.cons,Sm c.fields∧∀x∈c.fields,x.Ok) :
   (aN AP).p 188 [.aD (ds.map Dt.pv)]=some [.agg [vI (check ds).1,vI (check ds).2]]:=by
 obtain ⟨A,B,h1⟩:=PA hds hp hc _ 0 rfl (by omega) [] []
 have h2:=Mg hds hp hc hf (A:=A) (B:=B) _ 0 rfl (by omega)
 rw [au (af:=g188) rfl rfl (by decide)]
 unfold check
 rw [g188L0e] at h1
 rw [g188L3e] at h2
 have f1:iV .str [] (.str [73,110,116]) (.bool true)=some [(.str [73,110,116],.bool true)]:=rfl
 simp [tz] at h1 h2
 cases e1:sv [] [] ds with
 | some p=>
   rw [e1] at h1
   simp at h1
   simp [g188,f1,g188L0e,h1]
 | none=>
   rw [e1] at h1
   simp at h1
   cases e2:sA ds ds with
   | none=>
     rw [e2] at h2
     simp at h2
     simp [g188,f1,g188L0e,h1,g188L3e,h2]
   | some q=>
     rw [e2] at h2
     simp at h2
     simp [g188,f1,g188L0e,h1,g188L3e,h2]
end Go.Ab.Lw
namespace Go.Ab.Lw
open Ev
theorem ve {s:List bV} {y:bV}:decide (0≤kR s y)=decide (y∈s):=by
 have h:=rG (s:=s) (y:=y)
 by_cases e:y∈s
 · simp [e] at h;simp [e];omega
 · simp [e] at h;simp [e];omega
theorem Mh {ds:List Dt} {d:Dt} {i:Nat} {ty co:List bV} (hS:Sm d.params):∀(n k:Nat),d.params.length-k=n→k≤d.params.length→∀b:Bool,
   cl AP g189L1 ⟨[(0,.pv (.aD (ds.map Dt.pv))),(2,.az 2 0),(3,.own (ty.map .str) 0),(4,.own (co.map .str) 1),(5,.pv (vI i)),(6,.az 6 0),(7,.pv (.bool b)),(8,.pv (vI k))],
     [(2,[.pv (vI 0),.pv (vI 0)]),(6,FL d)],[],[ty.length,co.length]⟩ =
   some (.exit 2,⟨[(0,.pv (.aD (ds.map Dt.pv))),(2,.az 2 0),(3,.own (ty.map .str) 0),(4,.own (co.map .str) 1),(5,.pv (vI i)),(6,.az 6 0),(7,.pv (.bool (b || su (d.params.take k) (d.params.drop k)))),(8,.pv (vI d.params.length)),(39,.pv (.bool false))],
     [(2,[.pv (vI 0),.pv (vI 0)]),(6,FL d)],[],[ty.length,co.length]⟩)
 | 0,k,hn,hk,b=>by
   have:k=d.params.length:=by omega
   subst this
   rw [g189L1e]
   simp [g189B1,su]
 | n+1,k,hn,hk,b=>by
   have hk:k<d.params.length:=by omega
   have hk':k≤d.params.length:=by omega
   obtain ⟨x,hx⟩:=bn hk
   have hSt:Sm (d.params.take k):=by unfold Sm at hS ⊢;simp;omega
   unfold Sm at hS
   have q:=c216 hSt (y:=x)
   have q2:=ve (s:=d.params.take k) (y:=x)
   have sl:=Pz (sz:=1) (l:=d.params.map PV.str) (k:=.i64) (h:=k) (by omega) (by simp;omega)
   have ih:=Mh (ds:=ds) (d:=d) (i:=i) (ty:=ty) (co:=co) (by unfold Sm;exact hS) n (k+1) (by omega) (by omega)
   have e1:d.params.take (k+1)=d.params.take k++[x]:=by rw [List.take_add_one,hx];rfl
   rw [e1] at ih
   rw [bC hx]
   simp only [su]
   rw [List.map_take] at q
   simp at sl q
   cases b with
   | true=>
     have ih:=ih true
     rw [g189L1e] at ih ⊢
     simp at ih
     simp (disch:=omega) [-getElem?_pos,g189B1,hx,hk,aq]
     rw [g189L1e]
     simp [ih]
   | false=>
     have ih:=ih (decide (x∈d.params.take k))
     rw [g189L1e] at ih ⊢
     simp at ih
     simp (disch:=omega) [-getElem?_pos,g189B1,hx,hk,hk',sl,q,q2,aq]
     rw [g189L1e]
     simp [ih]
theorem Mi {ds:List Dt} {d:Dt} {i:Nat} {ty:List bV} (hS:Sm d.cons):∀(n k:Nat),d.cons.length-k=n→k≤d.cons.length→∀cons:List bV,cons.length+n<1099511627776→∃q:aM,
   cl AP g189L2 ⟨[(0,.pv (.aD (ds.map Dt.pv))),(2,.az 2 0),(3,.own (ty.map .str) 0),(4,.own (cons.map .str) 1),(5,.pv (vI i)),(6,.az 6 0),(9,.pv (vI k))],
     [(2,[.pv (vI 0),.pv (vI 0)]),(6,FL d)],[],[ty.length,cons.length]⟩ =
   match nI cons (d.cons.drop k) with
   | (some p,_)=>some (.ret,⟨[(2,.az 2 0)],[(2,[.pv (vI 6),.pv (vI p)])],[],q⟩)
   | (none,c2)=>some (.exit 4,⟨[(0,.pv (.aD (ds.map Dt.pv))),(2,.az 2 0),(3,.own (ty.map .str) 0),(4,.own (c2.map .str) 1),(5,.pv (vI i)),(6,.az 6 0),(9,.pv (vI d.cons.length)),(69,.pv (.bool false))],
     [(2,[.pv (vI 0),.pv (vI 0)]),(6,FL d)],[],[ty.length,c2.length]⟩)
 | 0,k,hn,hk,cons,hb=>by
   have:k=d.cons.length:=by omega
   subst this
   refine ⟨[],?_⟩
   rw [g189L2e]
   simp [g189B2,nI]
 | n+1,k,hn,hk,cons,hb=>by
   have hk:k<d.cons.length:=by omega
   obtain ⟨x,hx⟩:=bn hk
   have q:=c216 (s:=cons) (by unfold Sm;omega) (y:=x.name)
   have q2:=ve (s:=cons) (y:=x.name)
   unfold Sm at hS
   rw [bC hx]
   simp only [nI]
   have hb2:(cons.length+1)*16≤140737488355328:=by omega
   have hh:bI 1 (cons.map PV.str)=true:=by cases cons<;>simp
   by_cases e:x.name∈cons
   · refine ⟨[ty.length,cons.length],?_⟩
     rw [g189L2e]
     simp [e] at q q2
     simp (disch:=omega) [-getElem?_pos,g189B2,hx,hk,q,q2,e]
   · obtain ⟨q',ih⟩:=Mi (ds:=ds) (i:=i) (ty:=ty) (by unfold Sm;exact hS) n (k+1) (by omega) (by omega) (cons++[x.name]) (by simp;omega)
     refine ⟨q',?_⟩
     rw [g189L2e] at ih ⊢
     simp [e] at q q2
     have q3:¬0≤kR cons x.name:=by omega
     simp at ih
     simp (disch:=omega) [-getElem?_pos,g189B2,hx,hk,q,q3,e,aq,hb2,hh]
     rw [g189L2e]
     simp [ih]
theorem PB {ds:List Dt} (hS:Sm ds) (hp:∀d∈ds,Sm d.params) (hc:∀d∈ds,Sm d.cons):∀(n i:Nat),ds.length-i=n→i≤ds.length→∀types cons:List bV,types.length+n<1099511627776→cons.length+((ds.drop i).flatMap Dt.cons).length<1099511627776→∃(q:aM) (ty co:List bV),
   cl AP g189L0 ⟨[(0,.pv (.aD (ds.map Dt.pv))),(2,.az 2 0),(3,.own (types.map .str) 0),(4,.own (cons.map .str) 1),(5,.pv (vI i))],
     [(2,[.pv (vI 0),.pv (vI 0)])],[],[types.length,cons.length]⟩ =
   match sv types cons (ds.drop i) with
   | some p=>some (.ret,⟨[(2,.az 2 0)],[(2,[.pv (vI 6),.pv (vI p)])],[],q⟩)
   | none=>some (.exit 0,⟨[(0,.pv (.aD (ds.map Dt.pv))),(2,.az 2 0),(3,.own (ty.map .str) 0),(4,.own (co.map .str) 1),(5,.pv (vI ds.length)),(18,.pv (.bool false))],
     [(2,[.pv (vI 0),.pv (vI 0)])],[],[ty.length,co.length]⟩)
 | 0,i,hn,hi,types,cons,hb1,hb2=>by
   have:i=ds.length:=by omega
   subst this
   refine ⟨[],types,cons,?_⟩
   rw [g189L0e]
   simp [g189B0,sv]
 | n+1,i,hn,hi,types,cons,hb1,hb2=>by
   have hi:i<ds.length:=by omega
   obtain ⟨d,hd⟩:=bn hi
   unfold Sm at hS
   have hpd:=hp d (bo hd)
   rw [bC hd,List.flatMap_cons,List.length_append] at hb2
   have q:=c216 (s:=types) (by unfold Sm;omega) (y:=d.name)
   have q2:=ve (s:=types) (y:=d.name)
   have k1:=Mh (ds:=ds) (d:=d) (i:=i) (ty:=types) (co:=cons) hpd _ 0 rfl (by omega) (decide (d.name=[73,110,116]) || decide (d.name∈types))
   obtain ⟨q',k2⟩:=Mi (ds:=ds) (i:=i) (ty:=types++[d.name]) (hc d (bo hd)) _ 0 rfl (by omega) cons (by omega)
   have eb:((decide (d.name=[73,110,116]) || decide (d.name∈types)) || su (d.params.take 0) (d.params.drop 0))=rP types d:=by
     simp [rP]
   have hb3:(types.length+1)*16≤140737488355328:=by omega
   have hh:bI 1 (types.map PV.str)=true:=by cases types<;>simp
   rw [eb] at k1
   rw [bC hd]
   simp only [sv]
   rw [g189L1e] at k1
   rw [g189L2e] at k2
   have key:∀X,(cl AP g189L0 X=cl AP g189L0 X)→True:=fun _ _=>trivial
   by_cases e:rP types d=true
   · refine ⟨[types.length,cons.length],[],[],?_⟩
     rw [if_pos e,g189L0e]
     rw [e] at k1
     simp at k1
     by_cases e1:d.name=[73,110,116]
     · simp [e1] at k1
       simp (disch:=omega) [-getElem?_pos,g189B0,hd,hi,e1]
       rw [g189L1e]
       simp [e1,k1]
     · simp [e1] at k1
       simp (disch:=omega) [-getElem?_pos,g189B0,hd,hi,e1,q,q2]
       rw [g189L1e]
       simp [k1]
   · have e':rP types d=false:=by simpa using e
     have e1:¬d.name=[73,110,116]:=by
       intro h;apply e;simp [rP,h]
     rw [if_neg e]
     rw [e'] at k1
     simp [e1] at k1
     cases hC:nI cons d.cons with
     | mk o cs=>
       rw [List.drop_zero,hC] at k2
       cases o with
       | some p=>
         refine ⟨q',[],[],?_⟩
         rw [g189L0e]
         simp at k2
         simp (disch:=omega) [-getElem?_pos,g189B0,hd,hi,e1,q,q2]
         rw [g189L1e]
         simp [k1,hb3,hh]
         rw [g189L2e]
         simp [k2]
       | none=>
         have hcl:cs.length=cons.length+d.cons.length:=by
           have key:∀(l:List fW) (c:List bV),(nI c l).1=none→(nI c l).2.length=c.length+l.length:=by
             intro l
             induction l with
             | nil=>intro c _;simp [nI]
             | cons a r ih=>
               intro c h
               simp only [nI] at h ⊢
               split at h
               · simp at h
               · rename_i hne
                 rw [if_neg hne,ih _ h];simp;omega
           have:=key d.cons cons (by rw [hC])
           rw [hC] at this
           exact this
         obtain ⟨q'',ty,co,ih⟩:=PB (ds:=ds) (by unfold Sm;exact hS) hp hc n (i+1) (by omega) (by omega) (types++[d.name]) cs (by simp;omega) (by omega)
         refine ⟨q'',ty,co,?_⟩
         rw [g189L0e] at ih ⊢
         simp at k2 ih
         simp (disch:=omega) [-getElem?_pos,g189B0,hd,hi,e1,q,q2]
         rw [g189L1e]
         simp [k1,hb3,hh]
         rw [g189L2e]
         simp (disch:=omega) [k2,aq]
         rw [g189L0e]
         simp [ih]
end Go.Ab.Lw
namespace Go.Ab.Lw
open Ev
theorem Mj {ds:List Dt} (hds:Sm ds) {i:Nat} {d:Dt} (hd:ds[i]?=some d) (hp:Sm d.params) {c:fW} {k:Nat} (hS:Sm c.fields) (hO:∀x∈c.fields,x.Ok) (hC:∀x∈c.fields,x.Cw):∀(n j:Nat),c.fields.length-j=n→j≤c.fields.length →
   cl AP g189L5 ⟨[(0,.pv (.aD (ds.map Dt.pv))),(2,.az 2 0),(10,.pv (vI i)),(11,.pv (vI k)),(12,.az 12 0),(13,.pv (vI j))],
     [(2,[.pv (vI 0),.pv (vI 0)]),(12,Jd c)],[],[]⟩ =
   if Ty.bZ ds d.params (c.fields.drop j)≠0 then some (.ret,⟨[(2,.az 2 0)],[(2,[.pv (vI (Ty.bZ ds d.params (c.fields.drop j))),.pv (vI c.pos)])],[],[]⟩)
   else some (.exit 10,⟨[(0,.pv (.aD (ds.map Dt.pv))),(2,.az 2 0),(10,.pv (vI i)),(11,.pv (vI k)),(12,.az 12 0),(13,.pv (vI c.fields.length)),(125,.pv (.bool false))],
     [(2,[.pv (vI 0),.pv (vI 0)]),(12,Jd c)],[],[]⟩)
 | 0,j,hn,hj=>by
   have:j=c.fields.length:=by omega
   subst this
   rw [g189L5e]
   simp [g189B5,Ty.bZ]
 | n+1,j,hn,hj=>by
   have hj:j<c.fields.length:=by omega
   obtain ⟨x,hx⟩:=bn hj
   have q:=c186 hds hp (hO x (bo hx)) (hC x (bo hx))
   unfold Sm at hS
   have ih:=Mj hds hd hp (c:=c) (k:=k) (by unfold Sm;exact hS) hO hC n (j+1) (by omega) (by omega)
   rw [bC hx]
   simp only [Ty.bZ]
   rw [g189L5e] at ih ⊢
   simp at ih q
   by_cases e:x.formed ds d.params=0
   · rw [e] at q
     simp (disch:=omega) [-getElem?_pos,g189B5,hd,hx,hj,q,e,aq]
     rw [g189L5e]
     simp [ih]
   · simp (disch:=omega) [-getElem?_pos,g189B5,hd,hx,hj,q,e]
theorem Mk {ds:List Dt} (hds:Sm ds) {i:Nat} {d:Dt} (hd:ds[i]?=some d) (hp:Sm d.params) (hS:Sm d.cons) (hf:∀c∈d.cons,Sm c.fields∧(∀x∈c.fields,x.Ok)∧∀x∈c.fields,x.Cw):∀(n k:Nat),d.cons.length-k=n→k≤d.cons.length →
   cl AP g189L4 ⟨[(0,.pv (.aD (ds.map Dt.pv))),(2,.az 2 0),(10,.pv (vI i)),(11,.pv (vI k))],[(2,[.pv (vI 0),.pv (vI 0)])],[],[]⟩ =
   match lY ds d.params (d.cons.drop k) with
   | some q=>some (.ret,⟨[(2,.az 2 0)],[(2,[.pv (vI q.1),.pv (vI q.2)])],[],[]⟩)
   | none=>some (.exit 8,⟨[(0,.pv (.aD (ds.map Dt.pv))),(2,.az 2 0),(10,.pv (vI i)),(11,.pv (vI d.cons.length)),(110,.pv (.bool false))],[(2,[.pv (vI 0),.pv (vI 0)])],[],[]⟩)
 | 0,k,hn,hk=>by
   have:k=d.cons.length:=by omega
   subst this
   rw [g189L4e]
   simp [-getElem?_pos,g189B4,lY,hd]
 | n+1,k,hn,hk=>by
   have hk:k<d.cons.length:=by omega
   obtain ⟨c,hx⟩:=bn hk
   obtain ⟨f1,f2,f3⟩:=hf c (bo hx)
   have h:=Mj hds hd hp (c:=c) (k:=k) f1 f2 f3 _ 0 rfl (by omega)
   unfold Sm at hS
   have ih:=Mk hds hd hp (by unfold Sm;exact hS) hf n (k+1) (by omega) (by omega)
   rw [bC hx]
   simp only [lY]
   rw [g189L4e] at ih ⊢
   rw [g189L5e] at h
   simp at ih h
   by_cases e:Ty.bZ ds d.params c.fields=0
   · simp [e] at h
     simp (disch:=omega) [-getElem?_pos,g189B4,hd,hx,hk,e]
     rw [g189L5e]
     simp (disch:=omega) [h,aq]
     rw [g189L4e]
     simp [ih]
   · simp [e] at h
     simp (disch:=omega) [-getElem?_pos,g189B4,hd,hx,hk,e]
     rw [g189L5e]
     simp [h]
theorem Ml {ds:List Dt} (hds:Sm ds) (hp:∀d∈ds,Sm d.params) (hc:∀d∈ds,Sm d.cons) (hf:∀d∈ds,∀c∈d.cons,Sm c.fields∧(∀x∈c.fields,x.Ok)∧∀x∈c.fields,x.Cw):∀(n i:Nat),ds.length-i=n→i≤ds.length →
   cl AP g189L3 ⟨[(0,.pv (.aD (ds.map Dt.pv))),(2,.az 2 0),(10,.pv (vI i))],[(2,[.pv (vI 0),.pv (vI 0)])],[],[]⟩ =
   match sA ds (ds.drop i) with
   | some q=>some (.ret,⟨[(2,.az 2 0)],[(2,[.pv (vI q.1),.pv (vI q.2)])],[],[]⟩)
   | none=>some (.exit 6,⟨[(0,.pv (.aD (ds.map Dt.pv))),(2,.az 2 0),(10,.pv (vI ds.length)),(100,.pv (.bool false))],[(2,[.pv (vI 0),.pv (vI 0)])],[],[]⟩)
 | 0,i,hn,hi=>by
   have:i=ds.length:=by omega
   subst this
   rw [g189L3e]
   simp [g189B3,sA]
 | n+1,i,hn,hi=>by
   have hi:i<ds.length:=by omega
   obtain ⟨d,hd⟩:=bn hi
   have h:=Mk hds hd (hp d (bo hd)) (hc d (bo hd)) (hf d (bo hd)) _ 0 rfl (by omega)
   have ih:=Ml hds hp hc hf n (i+1) (by omega) (by omega)
   have hds':=hds
   unfold Sm at hds'
   rw [bC hd]
   simp only [sA]
   rw [g189L3e] at ih ⊢
   rw [g189L4e] at h
   simp at ih h
   cases e:lY ds d.params d.cons with
   | none=>
     rw [e] at h
     simp at h
     simp (disch:=omega) [-getElem?_pos,g189B3,hd,hi]
     rw [g189L4e]
     simp (disch:=omega) [h,aq]
     rw [g189L3e]
     simp [ih]
   | some q=>
     rw [e] at h
     simp at h
     simp (disch:=omega) [-getElem?_pos,g189B3,hd,hi]
     rw [g189L4e]
     simp [h]
theorem c189 {ds:List Dt} (hds:Sm ds) (hp:∀d∈ds,Sm d.params) (hc:∀d∈ds,Sm d.cons) (hT:Sm (ds.flatMap Dt.cons)) (hf:∀d∈ds,∀c∈d.cons,Sm c.fields∧(∀x∈c.fields,x.Ok)∧∀x∈c.fields,x.Cw) :
   (aN AP).p 189 [.aD (ds.map Dt.pv)]=some [.agg [vI (check ds).1,vI (check ds).2]]:=by
 have hds':=hds
 unfold Sm at hds' hT
 obtain ⟨q,ty,co,h1⟩:=PB hds hp hc _ 0 rfl (by omega) [] [] (by simp;omega) (by simpa using hT)
 have h2:=Ml hds hp hc hf _ 0 rfl (by omega)
 rw [au (af:=g189) rfl rfl (by decide)]
 unfold check
 rw [g189L0e] at h1
 rw [g189L3e] at h2
 simp at h1 h2
 cases e1:sv [] [] ds with
 | some p=>
   rw [e1] at h1
   simp at h1
   simp [g189,g189L0e,h1]
 | none=>
   rw [e1] at h1
   simp at h1
   cases e2:sA ds ds with
   | none=>
     rw [e2] at h2
     simp at h2
     simp [g189,g189L0e,h1,g189L3e,h2]
   | some q=>
     rw [e2] at h2
     simp at h2
     simp [g189,g189L0e,h1,g189L3e,h2]
end Go.Ab.Lw
namespace Go.Ab.Lw
open Ev
theorem BN {l:List bV} {t:Ty} (h:t.Ok):(t.lX l).Ok:=by
 revert h
 refine Ty.eD (p:=fun t=>t.Ok→(t.lX l).Ok) ?_ t
 intro t ih h
 rw [Ty.BL]
 split
 · exact cW rfl
 · refine ⟨by have:=h.sm;unfold Sm at this ⊢;simpa using this,?_⟩
   intro x hx
   simp only [List.mem_map] at hx
   obtain ⟨y,hy,rfl⟩:=hx
   exact ih y hy (h.fw y hy)
end Go.Ab.Lw
namespace Go.Ab.Lw
open Ev
def fieldsOf (ds:List Dt) (s:bV) (as:List Ty):Option (List Ty):=(hZ ds s 0).bind fun q=>(ds[q.1]?).bind fun d=>(d.cons[q.2]?).bind fun c=>if as.length=d.params.length then some (c.fields.map fun f=>(f.lX d.params).mC as) else none
def PC (o:Option (List Ty)):List PV:=[.aD ((o.getD []).map Ty.pv),.bool o.isSome]
theorem PD {ds:List Dt} {i:Nat} {d:Dt} (hd:ds[i]?=some d) (hp:Sm d.params) {as:List Ty} (ha:Sm as) {fs:List Ty} (hS:Sm fs) (hO:∀x∈fs,x.Ok) (hC:∀x∈fs,x.Cw):∀(n j:Nat),fs.length-j=n→j≤fs.length→∀acc:List Ty,acc=(fs.take j).map (fun f=>(f.lX d.params).mC as) →
   cl AP g207L0 ⟨[(0,.pv (.aD (ds.map Dt.pv))),(2,.pv (.aD (as.map Ty.pv))),(8,.pv (vI i)),(11,.own (acc.map Ty.pv) 0),(12,.pv (.aD (fs.map Ty.pv))),(13,.pv (vI j))],[],[],[acc.length]⟩ =
     some (.exit 0,⟨[(0,.pv (.aD (ds.map Dt.pv))),(2,.pv (.aD (as.map Ty.pv))),(8,.pv (vI i)),(11,.own ((fs.map (fun f=>(f.lX d.params).mC as)).map Ty.pv) 0),(12,.pv (.aD (fs.map Ty.pv))),(13,.pv (vI fs.length)),(46,.pv (.bool false))],[],[],[fs.length]⟩)
 | 0,j,hn,hj,acc,hacc=>by
   have:j=fs.length:=by omega
   subst this
   subst hacc
   rw [g207L0e]
   simp [g207B0]
 | n+1,j,hn,hj,acc,hacc=>by
   have hj:j<fs.length:=by omega
   obtain ⟨x,hx⟩:=bn hj
   have q1:=c198 hp (hO x (bo hx)) (hC x (bo hx))
   have q2:=c48 ha (t:=x.lX d.params) (BN (hO x (bo hx)))
   unfold Sm at hS
   have hb:(acc.length+1)*64≤140737488355328:=by subst hacc;simp;omega
   have ih:=PD hd hp ha (fs:=fs) (by unfold Sm;exact hS) hO hC n (j+1) (by omega) (by omega) (acc++[(x.lX d.params).mC as]) (by rw [List.take_add_one,hx,hacc];simp)
   generalize x.lX d.params=u at q1 q2 ih
   generalize u.mC as=v at q2 ih
   rw [g207L0e] at ih ⊢
   simp at ih q1 q2
   simp (disch:=omega) [-getElem?_pos,g207B0,hd,hx,hj,q1,q2,hb,aq]
   rw [g207L0e]
   simp [ih]
theorem c207 {ds:List Dt} (h:Small ds) {as:List Ty} (ha:Sm as) {s:bV}:(aN AP).p 207 [.aD (ds.map Dt.pv),.str s,.aD (as.map Ty.pv)]=some (PC (fieldsOf ds s as)):=by
 have k:=c191 h.num h.d7 (s:=s)
 rw [au (af:=g207) rfl rfl (by decide)]
 cases e:hZ ds s 0 with
 | none=>
   rw [e] at k
   simp [rF] at k
   simp [g207,k,fieldsOf,e,PC]
 | some q=>
   rw [e] at k
   obtain ⟨_,d,c,hd,hc,_⟩:=uX e
   simp only [Nat.sub_zero] at hd
   obtain ⟨f1,f2,f3⟩:=h.Pw d (bo hd) c (bo hc)
   have hl:=PD hd (h.par d (bo hd)) ha f1 f2 f3 _ 0 rfl (by omega) [] rfl
   rw [g207L0e] at hl
   simp [rF] at k
   by_cases e2:as.length=d.params.length
   · simp at hl
     simp (disch:=omega) [-getElem?_pos,g207,k,hd,hc,fieldsOf,e,PC,e2,g207L0e,hl]
   · have e3:¬(as.length:Int)=d.params.length:=by omega
     simp (disch:=omega) [-getElem?_pos,g207,k,hd,hc,fieldsOf,e,PC,e2,e3]
end Go.Ab.Lw
namespace Go.Ab.Lw
open Ev
theorem yc {S:List Ty} (hf:S.length<1099511627776) {l:List Ty} (hG:∀t∈l,Good S t):Sm (vars l):=by
 have c0:iy (S.map Ty.id) []:=nu (by simpa using hf)
 refine (c0.fold (l:=l.flatMap Ty.nodes) ?_).len
 intro x hx hk
 simp only [List.mem_flatMap] at hx
 obtain ⟨t,ht,hx⟩:=hx
 exact List.mem_map_of_mem ((hG t ht).sub x (oD (hG t ht).wf x hx hk))
end Go.Ab.Lw
namespace Go.Ab.Lw
open Ev
mutual
def Ty.jz (k:Int):Ty→Bool
 | ⟨q,_,_,_,as⟩=>decide (q=k) || Ty.yd k as
def Ty.yd (k:Int):List Ty→Bool
 | []=>false
 | a::r=>a.jz k || Ty.yd k r
end
theorem Ty.tD (k:Int):∀l:List Ty,Ty.yd k l=l.any (Ty.jz k)
 | []=>by simp [Ty.yd]
 | a::r=>by simp [Ty.yd,Ty.tD k r]
theorem Ty.Le (k:Int) (t:Ty):t.jz k=(decide (t.kind=k) || t.args.any (Ty.jz k)):=by
 cases t;simp only [Ty.jz,Ty.tD]
theorem PE {t:Ty} {k:Int} (hS:Sm t.args) (h:∀x∈t.args,(aN AP).p 351 [x.pv,vI k]=some [.bool (x.jz k)]):∀(n i:Nat),t.args.length-i=n→i≤t.args.length →
   cl AP g351L0 ⟨[(1,.pv (vI k)),(2,.az 2 0),(5,.pv (vI i))],[(2,[.pv (vI t.kind),.pv (.str t.name),.pv (vI t.id),.pv (vI t.home),.pv (.aD (t.args.map Ty.pv))])],[],[]⟩ =
     if (t.args.drop i).any (Ty.jz k)=true then some (.ret,⟨[(4,.pv (.bool true))],[],[],[]⟩)
     else some (.exit 0,⟨[(1,.pv (vI k)),(2,.az 2 0),(5,.pv (vI t.args.length)),(14,.pv (.bool false))],[(2,[.pv (vI t.kind),.pv (.str t.name),.pv (vI t.id),.pv (vI t.home),.pv (.aD (t.args.map Ty.pv))])],[],[]⟩)
 | 0,i,hn,hi=>by
   have:i=t.args.length:=by omega
   subst this
   rw [g351L0e]
   simp [g351B0]
 | n+1,i,hn,hi=>by
   have hi:i<t.args.length:=by omega
   obtain ⟨x,hx⟩:=bn hi
   unfold Sm at hS
   have c:=h x (bo hx)
   have ih:=PE hS h n (i+1) (by omega) (by omega)
   rw [g351L0e] at ih ⊢
   rw [bC hx,List.any_cons]
   cases e:x.jz k with
   | true=>
     rw [e] at c
     simp at c
     simp (disch:=omega) [-getElem?_pos,g351B0,hx,hi,c]
   | false=>
     rw [e] at c
     simp at c
     rw [Bool.false_or,←ih]
     simp (disch:=omega) [-getElem?_pos,g351B0,hx,hi,c,aq]
     rw [g351L0e]
     simp [g351B0]
theorem c351 {t:Ty} {k:Int} (hO:t.Ok):(aN AP).p 351 [t.pv,vI k]=some [.bool (t.jz k)]:=by
 revert hO
 refine Ty.eD (p:=fun t=>t.Ok→(aN AP).p 351 [t.pv,vI k]=some [.bool (t.jz k)]) ?_ t
 intro t ih hO
 have h:=PE (k:=k) hO.sm (fun x hx=>ih x hx (hO.fw x hx)) _ 0 rfl (by omega)
 rw [au (af:=g351) rfl rfl (by decide),Ty.Le]
 rw [g351L0e] at h
 by_cases e:t.kind=k
 · simp [g351,e]
 · cases e':t.args.any (Ty.jz k) with
   | true=>simp only [List.drop_zero,e'] at h;simp at h;simp [g351,e,g351L0e,h]
   | false=>simp only [List.drop_zero,e'] at h;simp at h;simp [g351,e,g351L0e,h]
end Go.Ab.Lw
namespace Go.Ab.Lw
open Ev
def vr (x:Ty):List Int:=if x.kind=1 then [x.id] else []
end Go.Ab.Lw
namespace Go.Ab.Lw
open Ev
def j_ (h:Int):Nat→List Ty
 | 0=>[]
 | n+1=>j_ h n++[np h n]
theorem kV (h:Int):∀n,(j_ h n).length=n
 | 0=>rfl
 | n+1=>by simp [j_,kV h n]
theorem PF {T:Ty} {h:Int} {nm:List bV} {q:List AV} (hq7:q=T.cl) (hS:nm.length<1000000000):∀(n i:Nat),nm.length-i=n→i≤nm.length →
   cl AP g327L0 ⟨[(1,.pv (vI h)),(4,.az 4 0),(5,.az 5 0),(6,.pv (.aD (nm.map .str))),(7,.az 7 0),(8,.own ((j_ h i).map Ty.pv) 0),(9,.pv (vI i))],
     [(4,[.pv (vI 0),.pv (.str []),.pv (vI 0),.pv (vI 0),.own [] 1]),(5,[.pv (vI 0),.pv (vI 0),.pv (.str []),.pv (vI 0),.pv (vI 0),.own [] 2]),(7,q)],[],[i,0,0]⟩ =
     some (.exit 0,⟨[(1,.pv (vI h)),(4,.az 4 0),(5,.az 5 0),(6,.pv (.aD (nm.map .str))),(7,.az 7 0),(8,.own ((j_ h nm.length).map Ty.pv) 0),(9,.pv (vI nm.length)),(18,.pv (.bool false))],
     [(4,[.pv (vI 0),.pv (.str []),.pv (vI 0),.pv (vI 0),.own [] 1]),(5,[.pv (vI 0),.pv (vI 0),.pv (.str []),.pv (vI 0),.pv (vI 0),.own [] 2]),(7,q)],[],[nm.length,0,0]⟩)
 | 0,i,hn,hi=>by
   have:i=nm.length:=by omega
   subst this
   have hl:=kV h nm.length
   subst hq7
   generalize j_ h nm.length=R at *
   rw [g327L0e]
   simp [g327B0,hl,Ty.cl]
 | n+1,i,hn,hi=>by
   have hi:i<nm.length:=by omega
   have ih:=PF (h:=h) hq7 hS n (i+1) (by omega) (by omega)
   have k:=c71 (n:=h) (m:=i)
   have hl:=kV h i
   have hb:(i+1)*64≤140737488355328:=by omega
   have hr:(j_ h (i+1)).map Ty.pv=(j_ h i).map Ty.pv++[(np h i).pv]:=by simp [j_]
   rw [hr] at ih
   subst hq7
   generalize j_ h i=R at *
   rw [g327L0e] at ih ⊢
   simp [hl,Ty.cl,np] at ih k
   simp (disch:=omega) [-getElem?_pos,g327B0,hi,hl,k,hb,Ty.cl,aq]
   rw [g327L0e]
   simp [hl,ih]
theorem c327 {S:List bV} (hf:S.length<1000000000) {t:Ty} (hO:t.Ok) (hC:t.Cw) (hk:∀y∈t.d0,y∈S) {h:Int}:(aN AP).p 327 [t.pv,vI h]=some [((t.lX (cr t)).mC (j_ h (cr t).length)).pv,(As.mk (cr t).length (t.lX (cr t))).pv]:=by
 have hcn:=gw.fold (S:=S) (l:=t.d0) (out:=[]) ⟨by simp,by simp,by omega⟩ hk
 have hnl:(cr t).length<1000000000:=by
   have:=fY hcn.nodup hcn.sub
   unfold cr
   omega
 have k1:=c196 (S:=S) (by omega) hO hk
 have k2:=c198 (l:=cr t) (by unfold Sm;omega) hO hC
 have hbO:=BN (l:=cr t) hO
 have k3:=c48 (s:=j_ h (cr t).length) (by unfold Sm;rw [kV];omega) hbO
 generalize cr t=nm at *
 generalize t.lX nm=T at *
 have h4:=PF (h:=h) (T:=T) (nm:=nm) rfl hnl _ 0 rfl (by omega)
 generalize j_ h nm.length=R at *
 generalize T.mC R=U at *
 rw [g327L0e] at h4
 simp [j_,Ty.cl] at h4
 simp at k1 k2 k3
 rw [au (af:=g327) rfl rfl (by decide)]
 simp [g327,k1,k2,g327L0e,h4,k3]
end Go.Ab.Lw
namespace Go.Ab.Lw
open Ev
theorem c325 {S:List bV} (hf:S.length<1000000000) {t:Ty} (hO:t.Ok) (hC:t.Cw) (hk:∀y∈t.d0,y∈S):(aN AP).p 325 [t.pv]=some [((t.lX (cr t)).mC (j_ 98 (cr t).length)).pv]:=by
 have k:=c327 hf hO hC hk (h:=98)
 generalize (t.lX (cr t)).mC (j_ 98 (cr t).length)=U at *
 simp at k
 rw [au (af:=g325) rfl rfl (by decide)]
 simp [g325,k]
theorem PG {vs:List Int} (hv:Sm vs) {t:Ty}:∀(n i:Nat),vs.length-i=n→i≤vs.length→∀acc:List As,acc.length≤i →
   cl AP g363L0 ⟨[(1,.az 1 0),(2,.az 2 0),(3,.pv (.aD (vs.map vI))),(4,.own (acc.map As.pv) 0),(5,.pv (vI i))],[(1,tC t),(2,zC 1)],[],[acc.length,0]⟩ =
     some (.exit 0,⟨[(1,.az 1 0),(2,.az 2 0),(3,.pv (.aD (vs.map vI))),(4,.own ((acc++(vs.drop i).map fun v=>As.mk v bw).map As.pv) 0),(5,.pv (vI vs.length)),(12,.pv (.bool false))],[(1,tC t),(2,zC 1)],[],[(acc++(vs.drop i).map fun v=>(⟨v,bw⟩:As)).length,0]⟩)
 | 0,i,hn,hi,acc,ha=>by
   have:i=vs.length:=by omega
   subst this
   rw [g363L0e]
   simp [g363B0,tC,zC]
 | n+1,i,hn,hi,acc,ha=>by
   have hi:i<vs.length:=by omega
   obtain ⟨x,hx⟩:=bn hi
   unfold Sm at hv
   have hb:(acc.length+1)*72≤140737488355328:=by omega
   have k:=c34
   have ih:=PG (t:=t) hv n (i+1) (by omega) (by omega) (acc++[⟨x,bw⟩]) (by simp;omega)
   rw [g363L0e] at ih ⊢
   rw [bC hx]
   simp [tC,zC,bw] at ih k
   simp (disch:=omega) [-getElem?_pos,g363B0,tC,zC,bw,hx,hi,k,aq,hb]
   rw [g363L0e]
   simp [ih]
theorem c363 {S:List Ty} (hf:S.length<1099511627776) (hSo:∀x∈S,x.Ok) {t:Ty} (hG:Good S t):(aN AP).p 363 [t.pv]=some [(t.sub ((vars [t]).map fun v=>As.mk v bw)).pv]:=by
 have k1:=g56 hf hSo (l:=[t]) (by simp [Sm]) (by simpa using hG)
 have hv:=yc hf (l:=[t]) (by simpa using hG)
 have h:=PG (t:=t) hv _ 0 rfl (by omega) [] (by simp)
 have k2:=c46 (s:=(vars [t]).map fun v=>As.mk v bw) (by unfold Sm at *;simpa using hv) hG.ok
 generalize vars [t]=vs at *
 rw [g363L0e] at h
 simp [tC,zC] at h
 simp at k1 k2
 rw [au (af:=g363) rfl rfl (by decide)]
 simp [g363,k1,k2,g363L0e,h]
end Go.Ab.Lw
namespace Go.Ab.Lw
open Ev
def gz (k:Nat):List AV:=[.pv (vI 0),.pv (vI 0),.pv (.str []),.pv (vI 0),.pv (vI 0),.own [] k]
end Go.Ab.Lw
namespace Go.Ab.Lw
open Ev
theorem PH {l:List Ex} (hl:l.length≤2000) {k:Int} (IH:∀x∈l,∃b,(aN AP).p 307 [x.pv,vI k]=some [.bool b]):∀(n i:Nat),l.length-i=n→i≤l.length →
   cl AP g307L0 ⟨[(1,.pv (vI k)),(5,.pv (.aD (l.map Ex.pv))),(6,.pv (vI i))],[],[],[]⟩=some (.ret,⟨[(4,.pv (.bool true))],[],[],[]⟩) ∨
   cl AP g307L0 ⟨[(1,.pv (vI k)),(5,.pv (.aD (l.map Ex.pv))),(6,.pv (vI i))],[],[],[]⟩=some (.exit 0,⟨[(1,.pv (vI k)),(5,.pv (.aD (l.map Ex.pv))),(6,.pv (vI l.length)),(16,.pv (.bool false))],[],[],[]⟩)
 | 0,i,hn,hi=>by
   have:i=l.length:=by omega
   subst this
   refine .inr ?_
   rw [g307L0e]
   simp [g307B0]
 | n+1,i,hn,hi=>by
   have hi:i<l.length:=by omega
   obtain ⟨x,hx⟩:=bn hi
   obtain ⟨b,c⟩:=IH x (bo hx)
   have he:=IL.len x
   have ho:=IL.of x
   cases b with
   | true=>
     refine .inl ?_
     simp at c he ho
     rw [g307L0e]
     simp (disch:=omega) [-getElem?_pos,g307B0,hx,hi,c,he,ho]
   | false=>
     have ih:=PH hl IH n (i+1) (by omega) (by omega)
     have e1:cl AP g307L0 ⟨[(1,.pv (vI k)),(5,.pv (.aD (l.map Ex.pv))),(6,.pv (vI i))],[],[],[]⟩=cl AP g307L0 ⟨[(1,.pv (vI k)),(5,.pv (.aD (l.map Ex.pv))),(6,.pv (vI (i+1:Nat)))],[],[],[]⟩:=by
       conv=>lhs;rw [g307L0e]
       simp at c he ho
       simp (disch:=omega) [-getElem?_pos,g307B0,hx,hi,c,aq,he,ho]
     rw [e1]
     exact ih
theorem c307 {e:Ex} (h:e.Ok) (k:Int):∃b,(aN AP).p 307 [e.pv,vI k]=some [.bool b]:=by
 induction h with
 | @mk e hk ha hv ht hc ih=>
   have k1:=c145 (Ex.Ok.mk hk ha hv ht hc)
   have hl:e.ch.length≤2000:=by rw [Ex.fQ];omega
   have L:=PH hl ih _ 0 rfl (by omega)
   rw [g307L0e] at L
   simp at L k1
   by_cases q:e.kind=k
   · refine ⟨true,?_⟩
     rw [au (af:=g307) rfl rfl (by decide)]
     simp [g307,q]
   · rcases L with L | L
     · refine ⟨true,?_⟩
       rw [au (af:=g307) rfl rfl (by decide)]
       simp [g307,q,k1,g307L0e,L]
     · refine ⟨false,?_⟩
       rw [au (af:=g307) rfl rfl (by decide)]
       simp [g307,q,k1,g307L0e,L]
end Go.Ab.Lw
namespace Go.Ab.Lw
open Ev
def gF (i:Nat):List Int→List As
 | []=>[]
 | v::r=>⟨v,cm i⟩::gF (i+1) r
theorem Je {i:Nat} {l:List Int}:(gF i l).length=l.length:=by
 induction l generalizing i with
 | nil=>rfl
 | cons a r ih=>simp [gF,ih]
theorem Mm {l:List Ty} {vs:List Int} (hv:Sm vs):∀(n i:Nat),vs.length-i=n→i≤vs.length→∀acc:List As,acc.length≤i →
   cl AP g395L0 ⟨[(0,.pv (.aD (l.map Ty.pv))),(3,.pv (.aD (vs.map vI))),(4,.own (acc.map As.pv) 0),(5,.pv (vI i))],[],[],[acc.length]⟩ =
     some (.exit 0,⟨[(0,.pv (.aD (l.map Ty.pv))),(3,.pv (.aD (vs.map vI))),(4,.own ((acc++gF i (vs.drop i)).map As.pv) 0),(5,.pv (vI vs.length)),(13,.pv (.bool false))],[],[],[(acc++gF i (vs.drop i)).length]⟩)
 | 0,i,hn,hi,acc,ha=>by
   have:i=vs.length:=by omega
   subst this
   rw [g395L0e]
   simp [g395B0,gF]
 | n+1,i,hn,hi,acc,ha=>by
   have hi:i<vs.length:=by omega
   obtain ⟨x,hx⟩:=bn hi
   unfold Sm at hv
   have hb:(acc.length+1)*72≤140737488355328:=by omega
   have k:=c63 (n:=i)
   have ih:=Mm (l:=l) hv n (i+1) (by omega) (by omega) (acc++[As.mk x (cm i)]) (by simp;omega)
   rw [g395L0e] at ih ⊢
   rw [bC hx]
   simp [cm] at ih k
   simp (disch:=omega) [-getElem?_pos,g395B0,hx,hi,k,aq,hb,gF,cm]
   rw [g395L0e]
   simp [ih]
theorem Mn {l:List Ty} (hl:Sm l) (hO:∀t∈l,t.Ok) {s:List As} (hs:Sm s):∀(n i:Nat),l.length-i=n→i≤l.length→∀acc:List Ty,acc.length≤i →
   cl AP g395L1 ⟨[(0,.pv (.aD (l.map Ty.pv))),(4,.own (s.map As.pv) 0),(6,.own (acc.map Ty.pv) 1),(7,.pv (vI i))],[],[],[s.length,acc.length]⟩ =
     some (.exit 2,⟨[(0,.pv (.aD (l.map Ty.pv))),(4,.own (s.map As.pv) 0),(6,.own ((acc++(l.drop i).map (Ty.sub s)).map Ty.pv) 1),(7,.pv (vI l.length)),(29,.pv (.bool false))],[],[],[s.length,(acc++(l.drop i).map (Ty.sub s)).length]⟩)
 | 0,i,hn,hi,acc,ha=>by
   have:i=l.length:=by omega
   subst this
   rw [g395L1e]
   simp [g395B1]
 | n+1,i,hn,hi,acc,ha=>by
   have hi:i<l.length:=by omega
   obtain ⟨x,hx⟩:=bn hi
   have hl':=hl
   unfold Sm at hl
   have hb:(acc.length+1)*64≤140737488355328:=by omega
   have k:=c46 hs (hO x (bo hx))
   have ih:=Mn hl' hO hs n (i+1) (by omega) (by omega) (acc++[x.sub s]) (by simp;omega)
   rw [g395L1e] at ih ⊢
   rw [bC hx]
   simp at ih k
   simp (disch:=omega) [-getElem?_pos,g395B1,hx,hi,k,aq,hb]
   rw [g395L1e]
   simp [ih]
theorem c395i {S:List Ty} (hf:S.length<1099511627776) (hSo:∀x∈S,x.Ok) {l:List Ty} (hl:Sm l) (hG:∀t∈l,Good S t):(aN AP).i 395 [.pv (.aD (l.map Ty.pv))] [] []=some ([.own ((l.map (Ty.sub (gF 0 (vars l)))).map Ty.pv) 0],[],[l.length]):=by
 have k1:=g56 hf hSo hl hG
 have hv:=yc hf hG
 have h1:=Mm (l:=l) hv _ 0 rfl (by omega) [] (by simp)
 have hs:Sm (gF 0 (vars l)):=by unfold Sm at *;rw [Je];exact hv
 have h2:=Mn hl (fun t ht=>(hG t ht).ok) hs _ 0 rfl (by omega) [] (by simp)
 generalize vars l=vs at *
 rw [g395L0e] at h1
 rw [g395L1e] at h2
 simp at h1 h2 k1
 generalize gF 0 vs=s at *
 rw [aR (af:=g395) rfl (by simp [g395])]
 simp [g395,k1,g395L0e,h1,g395L1e,h2]
end Go.Ab.Lw
namespace Go.Ab.Lw
open Ev
theorem c377 {s:List As} (hs:Sm s) {c:Sc} (hO:c.ty.Ok):(aN AP).p 377 [.aD (s.map As.pv),c.pv]=some [(As.mk c.id (c.ty.sub s)).pv]:=by
 have k:=c22 hs hO
 generalize c.ty.sub s=u at *
 simp at k
 rw [au (af:=g377) rfl rfl (by decide)]
 simp [g377,k]
theorem Mo {l:List En} (hl:Sm l) {g:Ty} {b:PV}:∀(n i:Nat),l.length-i=n→i≤l.length→∀acc:List Ty,acc.length≤i →
   cl AP g376L0 ⟨[(2,.pv b),(3,.az 3 0),(6,.az 6 0),(8,.own (acc.map Ty.pv) 0),(9,.pv (.aD (l.map En.pv))),(10,.pv (vI i))],[(3,tC g),(6,[.own [] 1,.own [] 2])],[],[acc.length,0,0]⟩ =
     some (.exit 0,⟨[(2,.pv b),(3,.az 3 0),(6,.az 6 0),(8,.own ((acc++(l.drop i).map fun x=>x.sc.ty).map Ty.pv) 0),(9,.pv (.aD (l.map En.pv))),(10,.pv (vI l.length)),(21,.pv (.bool false))],[(3,tC g),(6,[.own [] 1,.own [] 2])],[],[(acc++(l.drop i).map fun x=>x.sc.ty).length,0,0]⟩)
 | 0,i,hn,hi,acc,ha=>by
   have:i=l.length:=by omega
   subst this
   rw [g376L0e]
   simp [g376B0,tC]
 | n+1,i,hn,hi,acc,ha=>by
   have hi:i<l.length:=by omega
   obtain ⟨x,hx⟩:=bn hi
   unfold Sm at hl
   have hb:(acc.length+1)*64≤140737488355328:=by omega
   have ih:=Mo (g:=g) (b:=b) hl n (i+1) (by omega) (by omega) (acc++[x.sc.ty]) (by simp;omega)
   rw [g376L0e] at ih ⊢
   rw [bC hx]
   simp [tC] at ih
   simp (disch:=omega) [-getElem?_pos,g376B0,tC,hx,hi,aq,hb]
   rw [g376L0e]
   simp [ih]
end Go.Ab.Lw
namespace Go.Ab.Lw
open Ev
def sB:Nat→dS
 | 0=>⟨[],[]⟩
 | i+1=>dq (sB i) 1000000 false
theorem Jf:∀i,ub (sB i).sl=i
 | 0=>rfl
 | i+1=>by
   have:=Jf i
   simp only [ub] at this
   simp [sB,dq,ub,List.countP_append,this]
theorem vf:∀i,Inv i (i*i+4*i) (ew i) (sB i)
 | 0=>⟨rfl,by simp [sB,ub],by simp [sB],by simp [sB],⟨fun _=>0,by rintro i v ⟨k,x,_,h,_⟩;simp [sB] at h⟩,by simp [sB]⟩
 | i+1=>by
   have I:=vf i
   refine tv I 1000000 false ?_
   rw [Jf]
   have:(i+1)*(i+1)=i*i+2*i+1:=by rw [Nat.add_mul,Nat.mul_add];omega
   omega
theorem Mp {vs:List Int} (hv:vs.length≤5000):∀(n i:Nat),vs.length-i=n→i≤vs.length→∀acc:List As,acc.length≤i →
   cl AP g376L1 ⟨[(2,.pv (.aD [])),(6,.az 6 0),(11,.pv (.aD (vs.map vI))),(12,.az 12 0),(13,.own (acc.map As.pv) 0),(14,.pv (vI i))],[(6,[.own [] 1,.own [] 2]),(12,sC (sB i))],[],[acc.length,0,0]⟩ =
     some (.exit 2,⟨[(2,.pv (.aD [])),(6,.az 6 0),(11,.pv (.aD (vs.map vI))),(12,.az 12 0),(13,.own ((acc++gF i (vs.drop i)).map As.pv) 0),(14,.pv (vI vs.length)),(42,.pv (.bool false))],[(6,[.own [] 1,.own [] 2]),(12,sC (sB vs.length))],[],[(acc++gF i (vs.drop i)).length,0,0]⟩)
 | 0,i,hn,hi,acc,ha=>by
   have:i=vs.length:=by omega
   subst this
   rw [g376L1e]
   simp [g376B1,sC,gF]
 | n+1,i,hn,hi,acc,ha=>by
   have hi:i<vs.length:=by omega
   obtain ⟨x,hx⟩:=bn hi
   have hb:(acc.length+1)*72≤140737488355328:=by omega
   have k0:=c95 (s:=[]) (by simp [Sm]) (y:=x)
   have I:=vf i
   have hq:i*i≤5000*5000:=Nat.mul_le_mul (by omega) (by omega)
   have k:=c381 I.JG (by omega) (by omega) 1000000 false
   rw [I.len] at k
   have ih:=Mp hv n (i+1) (by omega) (by omega) (acc++[As.mk x (cm i)]) (by simp;omega)
   simp only [sB] at ih
   generalize dq (sB i) 1000000 false=s1 at *
   generalize sB i=s0 at *
   rw [g376L1e] at ih ⊢
   rw [bC hx]
   simp [cm] at k
   simp [sC,cm] at ih
   simp at k0
   simp (disch:=omega) [-getElem?_pos,g376B1,sC,hx,hi,k,k0,aq,hb,gF,cm]
   rw [g376L1e]
   simp [ih]
end Go.Ab.Lw
namespace Go.Ab.Lw
open Ev
theorem c376 {S:List Ty} (hf:S.length≤5000) (hSo:∀x∈S,x.Ok) {g:Ty} (hg:Good S g) {l:List En} (hl:Sm l) (hl2:l.length<1000000) (hG:∀x∈l,Good S x.sc.ty):∃vs:List Int,vs=vars (g::(dD l).map fun x=>x.sc.ty)∧vs.length≤5000 ∧
   (aN AP).p 376 [g.pv,.aD (l.map En.pv),.aD []]=some [(sB vs.length).pv,.aD ((gF 0 vs).map As.pv)]:=by
 have hsl:=rC l
 have k1:=c201 hl
 have hG2:∀t∈(g::(dD l).map fun x=>x.sc.ty),Good S t:=by
   intro t ht
   simp only [List.mem_cons,List.mem_map] at ht
   rcases ht with rfl | ⟨x,hx,rfl⟩
   · exact hg
   · exact hG x (rB l x hx)
 have hs:Sm (dD l):=by unfold Sm at *;omega
 have h1:=Mo hs (g:=g) (b:=.aD []) _ 0 rfl (by omega) [] (by simp)
 have k2:=g56 (by omega) hSo (l:=g::(dD l).map fun x=>x.sc.ty) (by unfold Sm at *;simp;omega) hG2
 have hv:(vars (g::(dD l).map fun x=>x.sc.ty)).length≤5000:=by
   have c0:iy (S.map Ty.id) []:=nu (by simp;omega)
   have c1:=c0.fold (l:=(g::(dD l).map fun x=>x.sc.ty).flatMap Ty.nodes) (by
     intro x hx hk
     simp only [List.mem_flatMap] at hx
     obtain ⟨t,ht,hx⟩:=hx
     exact List.mem_map_of_mem ((hG2 t ht).sub x (oD (hG2 t ht).wf x hx hk)))
   have:=fY c1.nodup c1.sub
   rw [List.length_map] at this
   unfold vars
   omega
 refine ⟨_,rfl,hv,?_⟩
 generalize vars (g::(dD l).map fun x=>x.sc.ty)=vs at *
 have h2:=Mp hv _ 0 rfl (by omega) [] (by simp)
 have k3:=c388
 have hb:(1+(dD l).length)*64≤140737488355328:=by omega
 rw [g376L0e] at h1
 rw [g376L1e] at h2
 generalize sB vs.length=s2 at *
 simp [tC] at h1
 simp [sB,sC] at h2
 have hh:=Cl.head ((dD l).map fun x=>x.sc.ty)
 generalize dD l=E at *
 simp at k1 k2 k3 hh
 rw [au (af:=g376) rfl rfl (by decide)]
 by_cases hE:E=[]
 · subst hE
   simp at h1 k1 k2
   simp (disch:=omega) [g376,k1,g376L0e,h1,hb,hh,k2,k3,g376L1e,h2]
 · simp (disch:=omega) [g376,k1,g376L0e,h1,hb,hh,hE,k2,k3,g376L1e,h2]
end Go.Ab.Lw
namespace Go.Ab.Lw
open Ev
def nJ (s:dS):Nat→dS
 | 0=>s
 | i+1=>dq (nJ s i) 1000000 false
theorem Mq {s:List Sl}:ub s≤s.length:=List.countP_le_length
theorem lI {n M:Nat} {s:dS} (I:Inv n M (ew n) s):∀i,Inv (n+i) (M+i*(2*(n+i)+4)) (ew (n+i)) (nJ s i)
 | 0=>by simpa [nJ] using I
 | i+1=>by
   have J:=lI I i
   have hu:ub (nJ s i).sl≤n+i:=by have:=Mq (s:=(nJ s i).sl);rw [J.len] at this;exact this
   refine tv J 1000000 false ?_
   have:(i+1)*(2*(n+(i+1))+4)=i*(2*(n+i)+4)+i*2+(2*(n+(i+1))+4):=by
     rw [Nat.add_mul,Nat.one_mul,show 2*(n+(i+1))+4=(2*(n+i)+4)+2 by omega,Nat.mul_add]
   omega
def ye (c:Sc):List AV:=[.pv (vI c.id),.pv (vI c.ty.kind),.pv (.str c.ty.name),.pv (vI c.ty.id),.pv (vI c.ty.home),.pv (.aD (c.ty.args.map Ty.pv))]
theorem Mr {n M:Nat} {s:dS} (I:Inv n M (ew n) s) {c:Sc} {K:Nat} (hc:c.id=K) (hN:n+K≤10000) (hM:M≤1000000) {g:Ty} {p3:PV} {p4:PV}:∀(k i:Nat),K-i=k→i≤K→∀acc:List Ty,acc.length=i →
   cl AP g389L0 ⟨[(3,.pv p3),(4,.pv p4),(5,.az 5 0),(6,.az 6 0),(7,.az 7 0),(13,.own (acc.map Ty.pv) 0),(14,.pv (vI i))],[(5,sC (nJ s i)),(6,ye c),(7,tC g)],[],[acc.length]⟩ =
     some (.exit 0,⟨[(3,.pv p3),(4,.pv p4),(5,.az 5 0),(6,.az 6 0),(7,.az 7 0),(13,.own ((acc++(List.range' i (K-i)).map fun j=>cm (n+j:Nat)).map Ty.pv) 0),(14,.pv (vI K)),(39,.pv (.bool false))],[(5,sC (nJ s K)),(6,ye c),(7,tC g)],[],[K]⟩)
 | 0,i,hk,hi,acc,ha=>by
   have:i=K:=by omega
   subst this
   rw [g389L0e]
   simp [g389B0,sC,ye,tC,hc,ha]
 | k+1,i,hk,hi,acc,ha=>by
   have hi:i<K:=by omega
   have J:=lI I i
   have hq:i*(2*(n+i)+4)≤10000*20004:=Nat.mul_le_mul (by omega) (by omega)
   have c1:=c381 J.JG (by omega) (by omega) 1000000 false
   rw [J.len] at c1
   have ih:=Mr I hc hN hM (g:=g) (p3:=p3) (p4:=p4) k (i+1) (by omega) (by omega) (acc++[cm (n+i:Nat)]) (by simp;omega)
   have hr:List.range' i (K-i)=i::List.range' (i+1) (K-(i+1)):=by
     rw [show K-i=(K-(i+1))+1 by omega,List.range'_succ]
   have hb:(acc.length+1)*64≤140737488355328:=by omega
   simp only [nJ] at ih
   rw [hr]
   generalize dq (nJ s i) 1000000 false=s1 at *
   generalize nJ s i=s0 at *
   rw [g389L0e] at ih ⊢
   simp [cm] at c1
   simp [sC,ye,tC,cm,hc] at ih
   simp (disch:=omega) [-getElem?_pos,g389B0,sC,ye,tC,hc,hi,c1,aq,hb,cm]
   rw [g389L0e]
   simp [ih]
end Go.Ab.Lw
namespace Go.Ab.Lw
open Ev
def yg (t:Ty):Prop:=t.Ok∧t.Kw
theorem Ms {s:dS} {x:Ty} (hx:x.Ok) {ns:List Nat} (hns:ns.length=x.args.length) (IH:∀(i:Nat) a n,x.args[i]?=some a→ns[i]?=some n→∃u:Ty,(aN AP).p 373 [s.pv,a.pv]=some [u.pv]∧yg u∧u.nodes.length=n):∀(k i:Nat),x.args.length-i=k→i≤x.args.length→∀acc:List Ty,acc.length=i→(∀u∈acc,yg u)→(acc.flatMap Ty.nodes).length=(ns.take i).sum→∃us:List Ty,
   cl AP g373L0 ⟨[(2,.az 2 0),(3,.az 3 0),(4,.az 4 0),(5,.az 5 0),(6,.pv (vI i))],[(2,sC s),(3,tC x),(4,zC 0),(5,uC x acc 1)],[],[0,acc.length]⟩ =
     some (.exit 0,⟨[(2,.az 2 0),(3,.az 3 0),(4,.az 4 0),(5,.az 5 0),(6,.pv (vI x.args.length)),(16,.pv (.bool false))],[(2,sC s),(3,tC x),(4,zC 0),(5,uC x us 1)],[],[0,us.length]⟩)∧us.length=x.args.length∧(∀u∈us,yg u)∧(us.flatMap Ty.nodes).length=ns.sum
 | 0,i,hk,hi,acc,ha,hu,hc=>by
   have:i=x.args.length:=by omega
   subst this
   refine ⟨acc,?_,ha,hu,by rw [hc,←hns,List.take_length]⟩
   rw [g373L0e]
   simp [g373B0,sC,tC,zC,uC]
 | k+1,i,hk,hi,acc,ha,hu,hc=>by
   have hi:i<x.args.length:=by omega
   obtain ⟨a,hax⟩:=bn hi
   obtain ⟨n,hn⟩:=bn (l:=ns) (i:=i) (by omega)
   have hsm:=hx.sm
   unfold Sm at hsm
   obtain ⟨u,e,hO,hnn⟩:=IH i a n hax hn
   obtain ⟨us,e',h1,h2,h3⟩:=Ms hx hns IH k (i+1) (by omega) (by omega) (acc++[u]) (by simp;omega) (by
     intro y hy;simp at hy;rcases hy with hy | rfl
     · exact hu y hy
     · exact hO) (by rw [List.take_add_one,hn,List.flatMap_append,List.length_append,hc];simp [hnn])
   refine ⟨us,?_,h1,h2,h3⟩
   have hb:(acc.length+1)*64≤140737488355328:=by omega
   rw [g373L0e] at e' ⊢
   simp at e
   simp [sC,tC,zC,uC] at e'
   simp (disch:=omega) [-getElem?_pos,g373B0,sC,tC,zC,uC,hi,hax,aq,e,hb]
   rw [g373L0e]
   simp [e']
theorem c373k {s:dS} (hs:Sm s.sl) (hO:∀x∈s.sl,x.ty.Ok) (hW:∀x∈s.sl,x.ty.Kw) (r:Nat):∀t:Ty,Tr s.sl t r→yg t→∃u:Ty,(aN AP).p 373 [s.pv,t.pv]=some [u.pv]∧yg u∧u.nodes.length=r:=by
 induction r using Nat.strongRecOn with
 | ind r ih=>
   intro t ht hto
   have k:=c386 hs (t:=t)
   have hw:(wk s.sl (s.sl.length+1) t).Ok:=kS hO hto.1
   have hk:(wk s.sl (s.sl.length+1) t).Kw:=nG hW hto.2
   obtain ⟨ns,hn,hr⟩:=ht.inv
   unfold jY at hn
   obtain ⟨us,e,h1,h2,h3⟩:=Ms (s:=s) hw hn.1 (fun i a n hi hni=>by
     have:=uT hni
     exact ih n (by omega) a (hn.2 i a n hi hni) ⟨hw.fw a (bo hi),hk.fw a (bo hi)⟩) _ 0 rfl (by omega) [] rfl (by simp) rfl
   refine ⟨⟨(wk s.sl (s.sl.length+1) t).kind,(wk s.sl (s.sl.length+1) t).name,(wk s.sl (s.sl.length+1) t).id,(wk s.sl (s.sl.length+1) t).home,us⟩,?_,⟨⟨by have:=hw.sm;unfold Sm at *;simp only;omega,fun y hy=>(h2 y hy).1⟩,.mk (fun q=>?_) fun y hy=>(h2 y hy).2⟩,by rw [Ty.bp];simp only [List.length_cons];omega⟩
   · rw [au (af:=g373) rfl rfl (by decide)]
     rw [g373L0e] at e
     generalize wk s.sl (s.sl.length+1) t=x at *
     simp at k
     simp [sC,tC,zC,uC] at e
     simp [g373,k,g373L0e,e]
   · have:=hk.hd q
     refine ⟨this.1,?_⟩
     rw [this.2] at h1
     exact List.length_eq_zero_iff.1 h1
theorem NG:bR.Kw:=.bare rfl (by simp [bR])
theorem c358k {s:dS} (hs:Sm s.sl) (hO:∀x∈s.sl,x.ty.Ok) (hW:∀x∈s.sl,x.ty.Kw) {t:Ty} (ht:yg t):∃(u:Ty) (b:Bool),(aN AP).p 358 [s.pv,t.pv]=some [u.pv,.bool b]∧yg u∧u.nodes.length≤4000:=by
 obtain ⟨r,e,h1,h2,h3⟩:=c355 hs hO (m:=4000) (by omega) ht.1
 simp at e
 by_cases hr:r≤4000
 · obtain ⟨u,e2,hu,hnu⟩:=c373k hs hO hW r t (h3 hr) ht
   refine ⟨u,true,?_,hu,by omega⟩
   simp at e2
   have hr':¬(4000:Int)<r:=by omega
   rw [au (af:=g358) rfl rfl (by decide)]
   simp [g358,e,hr',e2]
 · refine ⟨bR,false,?_,⟨cW rfl,NG⟩,by rw [Ty.bp];simp [bR]⟩
   have hr':(4000:Int)<r:=by omega
   rw [au (af:=g358) rfl rfl (by decide)]
   simp [g358,e,hr',bR]
def mI (n:Nat):Ty:=⟨4,[45,62],0,0,[cm n,cm (n+1:Nat)]⟩
theorem rQ {n:Int}:(cm n).Kw:=.bare rfl (by simp [cm])
theorem nK {S:List Int} {n:Int} (h:n∈S):Fit S (cm n):=⟨cW rfl,rQ,fun w ho=>by rw [jf (t:=cm n) rfl ho];exact h⟩
theorem rR {n:Nat}:Fit (ew (n+2)) (mI n) where
 ok:=⟨by simp [mI,Sm],by intro x hx;simp [mI] at hx;rcases hx with rfl | rfl<;>exact cW rfl⟩
 wf:=.mk (by simp [mI]) (by intro x hx;simp [mI] at hx;rcases hx with rfl | rfl<;>exact rQ)
 lG:=by
   intro w ho
   cases ho with
   | var q=>simp [mI] at q
   | arg _ ha ho=>
     simp [mI] at ha
     rcases ha with rfl | rfl
     · exact (nK (S:=ew (n+2)) (eE.2 (by omega))).lG w ho
     · exact (nK (S:=ew (n+2)) (eE.2 (by omega))).lG w ho
theorem vg {s:dS} {i:Nat} {v:Sl} (h:s.sl[i]?=some v):∀k,(nJ s k).sl[i]?=some v
 | 0=>h
 | k+1=>by
   have ih:=vg h k
   have hl:i<(nJ s k).sl.length:=by obtain ⟨h,_⟩:=List.getElem?_eq_some_iff.1 ih;exact h
   simp only [nJ,dq]
   rw [List.getElem?_append_left hl]
   exact ih
theorem BO {s:dS} {v:Int}:∀{k:Nat},oA (nJ s k).sl v→oA s.sl v
 | 0,h=>h
 | k+1,h=>by
   obtain ⟨j,x,e,hx,hb⟩:=h
   simp only [nJ,dq] at hx
   by_cases hl:j<(nJ s k).sl.length
   · rw [List.getElem?_append_left hl] at hx
     exact BO (k:=k) ⟨j,x,e,hx,hb⟩
   · rw [List.getElem?_append_right (by omega)] at hx
     have:j-(nJ s k).sl.length=0:=by
       have:=(List.getElem?_eq_some_iff.1 hx).1
       simpa using this
     rw [this] at hx
     simp at hx
     subst hx
     cases hb
theorem NH {s:List Sl} {v:Int} (h:oA s v):v<s.length:=by
 obtain ⟨k,x,e,hx,_⟩:=h
 have:=(List.getElem?_eq_some_iff.1 hx).1
 omega
theorem Lf {n M:Nat} {s:dS} (I:Inv n M (ew n) s) {i:Nat} {v:Sl} (hv:s.sl[i]?=some v) (hf:¬oA s.sl (i:Int)) :
   Inv (n+2) (M+2*(2*(n+2)+4)) (ew (n+2)) (gD (nJ s 2) i v ⟨true,mI n,v.home,v.base⟩):=by
 have J:=lI I 2
 have h1:=vg hv 2
 have fi:¬oA (nJ s 2).sl (i:Int):=fun h=>hf (BO h)
 have hi:i<n:=by have:=(List.getElem?_eq_some_iff.1 hv).1;rw [I.len] at this;exact this
 refine (x8 J (t:=mI n) h1 fi Kp.refl (by omega) h1 rR.ok rR.wf rR.lG ?_ rfl rfl).1
 rintro ⟨w,ho,hr⟩
 have hw:n≤w:=by
   cases ho with
   | var q=>simp [mI] at q
   | arg _ ha ho=>
     simp [mI] at ha
     rcases ha with rfl | rfl
     · rw [jf (t:=cm n) rfl ho];simp [cm]
     · have:=jf (t:=cm ((n:Int)+1)) rfl ho;simp [cm] at this;omega
 have hnb:¬oA (nJ s 2).sl w:=fun h=>by
   have:=NH (BO h)
   rw [I.len] at this
   omega
 have:=rJ hr hnb
 omega
end Go.Ab.Lw
namespace Go.Ab.Lw
open Ev
theorem Fit.gE {S S':List Int} {t:Ty} (h:Fit S t) (hS:∀w∈S,w∈S'):Fit S' t:=⟨h.ok,h.wf,fun w ho=>hS w (h.lG w ho)⟩
theorem tE {n m:Nat} (h:n≤m):∀w∈ew n,w∈ew m:=fun w hw=>by have:=eE.1 hw;exact eE.2 (by omega)
structure PI (m M:Nat) (s:dS) (t w g:Ty) (args:List Ty) (vs:List As):Prop where
 inv:Inv m M (ew m) s
 t:Fit (ew m) t
 w:Fit (ew m) w
 g:Fit (ew m) g
 args:∀a∈args,Fit (ew m) a
 vs:∀x∈vs,Fit (ew m) x.ty
theorem Fit.wk {m M:Nat} {s:dS} (I:Inv m M (ew m) s) {t:Ty} (h:Fit (ew m) t):Fit (ew m) (jY s.sl t):=⟨kS I.ok h.ok,nG I.wf h.wf,j8 I.lG h.lG⟩
theorem c194a {a b:Ty}:(aN AP).p 194 [(Ty.mk 4 [45,62] 0 0 [a,b]).pv]=some [a.pv,b.pv,.bool true]:=by
 rw [au (af:=g194) rfl rfl (by decide)]
 simp [g194]
theorem c194f {S:List Int} {t:Ty} (ht:Fit S t):∃(a b:Ty) (c:Bool),(aN AP).p 194 [t.pv]=some [a.pv,b.pv,.bool c]∧(c=true→t.kind=4∧Fit S a∧Fit S b):=by
 obtain ⟨a,b,c,e,_,_,h⟩:=c194g ht.ok
 refine ⟨a,b,c,e,?_⟩
 intro hc
 have q:=h hc
 have hk:t.kind=4:=by rw [q]
 have ha:a∈t.args:=by rw [q];simp
 have hb:b∈t.args:=by rw [q];simp
 have hn:t.kind≠1:=by rw [hk];decide
 exact ⟨hk,⟨ht.ok.fw a ha,ht.wf.fw a ha,fun w ho=>ht.lG w (.arg hn ha ho)⟩,⟨ht.ok.fw b hb,ht.wf.fw b hb,fun w ho=>ht.lG w (.arg hn hb ho)⟩⟩
def kW (q:aM):Option (bf×St):=some (.ret,⟨[(10,.bD []),(11,.bD []),(12,.pv (.bool false))],[],[],q⟩)
def kh (vs:List As) (N:Nat) (s:dS) (g w t:Ty) (args:List Ty):St:=⟨[(3,.pv (.aD (vs.map As.pv))),(4,.pv (vI N)),(5,.az 5 0),(7,.az 7 0),(16,.az 16 0),(17,.az 17 0),(18,.own (args.map Ty.pv) 0)],[(5,sC s),(7,tC g),(16,tC w),(17,tC t)],[],[args.length]⟩
theorem PJ {m M:Nat} {s:dS} {t w g:Ty} {args:List Ty} {vs:List As} (E:PI m M s t w g args vs) (hm:m≤30000) (hM:M≤10000000) {N:Nat} (hl:args.length<N) (hN:N≤1000) :
   (∃q,cl AP g389L1 (kh vs N s g w t args)=kW q)∨∃m' M' s' t' args',m≤m'∧m'≤m+2∧M'≤M+200000∧args'.length=args.length+1∧PI m' M' s' t' w g args' vs∧cl AP g389L1 (kh vs N s g w t args)=cl AP g389L1 (kh vs N s' g w t' args'):=by
 have hsl:=E.inv.len
 have hsm:Sm s.sl:=by unfold Sm;omega
 have k1:=c386 hsm (t:=t)
 have F:=E.t.wk E.inv
 have fr:=rN E.inv.I7 (t:=t)
 change (aN AP).p 386 [s.pv,t.pv]=some [(jY s.sl t).pv] at k1
 generalize jY s.sl t=x at *
 have hb:(args.length+1)*64≤140737488355328:=by omega
 have hlN:(args.length:Int)<N:=by omega
 have wk2:∀w∈ew m,w∈ew (m+2):=tE (by omega)
 by_cases hk:x.kind=1
 · have B0:=eE.1 (F.lG _ (.var hk))
   obtain ⟨i,hi⟩:∃i:Nat,x.id=i:=⟨x.id.toNat,by omega⟩
   have him:i<m:=by omega
   have his:i<s.sl.length:=by omega
   obtain ⟨o,ho⟩:=bn his
   have fi:¬oA s.sl (i:Int):=by rw [←hi];exact iT hk fr
   cases hbs:o.base with
   | true=>
     left
     obtain ⟨a,b,c,k2,h2⟩:=c194f F
     have hc:c=false:=by
       cases c with
       | false=>rfl
       | true=>have:=(h2 rfl).1;omega
     subst hc
     simp [hk,hi] at k1 k2
     rw [g389L1e]
     simp (disch:=omega) [-getElem?_pos,g389B1,kh,kW,sC,tC,hlN,k1,hk,hi,his,ho,hbs,k2]
   | false=>
     right
     have J:=lI E.inv 1
     have hu:ub (nJ s 1).sl≤m+1:=by have:=Mq (s:=(nJ s 1).sl);rw [J.len] at this;exact this
     have c1:=c381 E.inv.JG (by omega) (by omega) 1000000 false
     have c2:=c381 J.JG (by omega) (by omega) 1000000 false
     have J2:=lI E.inv 2
     have h2:=vg ho 2
     have c4:=c393 J2.JG (by omega) (by omega) h2 ⟨true,mI m,o.home,o.base⟩
     have c3:=c69 (a:=cm m) (b:=cm (m+1:Nat))
     have c5:=c194a (a:=cm m) (b:=cm (m+1:Nat))
     have I:=Lf E.inv ho fi
     have e1:nJ s 1=dq s 1000000 false:=rfl
     have e2:nJ s 2=dq (dq s 1000000 false) 1000000 false:=rfl
     have hl2:(nJ s 2).sl.length=m+2:=J2.len
     rw [hsl] at c1
     rw [J.len,e1] at c2
     refine ⟨m+2,M+200000,gD (nJ s 2) i o ⟨true,mI m,o.home,o.base⟩,cm (m+1:Nat),args++[cm m],by omega,by omega,by omega,by simp,⟨I.gE (by omega) (fun _ h=>h),nK (eE.2 (by omega)),E.w.gE wk2,E.g.gE wk2,?_,fun x hx=>(E.vs x hx).gE wk2⟩,?_⟩
     · intro a ha
       simp at ha
       rcases ha with ha | rfl
       · exact (E.args a ha).gE wk2
       · exact nK (eE.2 (by omega))
     · rw [e2] at c4 h2 hl2 ⊢
       generalize gD (dq (dq s 1000000 false) 1000000 false) i o ⟨true,mI m,o.home,o.base⟩=s3 at *
       generalize dq (dq s 1000000 false) 1000000 false=s2 at *
       generalize dq s 1000000 false=s1 at *
       have hi2:i<s2.sl.length:=by omega
       simp [hk,hi] at k1
       simp [cm,hbs] at c1 c2 c3 c4 c5
       simp [mI,cm] at c4
       conv=>lhs;rw [g389L1e]
       simp (disch:=omega) [-getElem?_pos,g389B1,kh,sC,tC,hlN,k1,hk,hi,his,ho,hbs,c1,c2,h2,hi2,c3,c4,c5,cm,hb]
 · obtain ⟨a,b,c,k2,h2⟩:=c194f F
   simp at k1 k2
   cases c with
   | false=>
     left
     rw [g389L1e]
     simp (disch:=omega) [-getElem?_pos,g389B1,kh,kW,sC,tC,hlN,k1,hk,k2]
   | true=>
     right
     obtain ⟨_,fa,fb⟩:=h2 rfl
     refine ⟨m,M,s,b,args++[a],by omega,by omega,by omega,by simp,⟨E.inv,fb,E.w,E.g,?_,E.vs⟩,?_⟩
     · intro y hy
       simp at hy
       rcases hy with hy | rfl
       · exact E.args y hy
       · exact fa
     · conv=>lhs;rw [g389L1e]
       simp (disch:=omega) [-getElem?_pos,g389B1,kh,sC,tC,hlN,k1,hk,k2,hb]
theorem Mu {vs:List As} {N:Nat} (hN:N≤1000) {w g:Ty}:∀(k m M:Nat) (s:dS) (t:Ty) (args:List Ty),N-args.length=k→args.length≤N→PI m M s t w g args vs→m+2*k≤30000→M+200000*k≤10000000 →
   (∃q,cl AP g389L1 (kh vs N s g w t args)=kW q)∨∃m' M' s' t' args',m'≤30000∧M'≤10000000∧args'.length=N∧PI m' M' s' t' w g args' vs∧cl AP g389L1 (kh vs N s g w t args)=some (.exit 2,⟨[(3,.pv (.aD (vs.map As.pv))),(4,.pv (vI N)),(5,.az 5 0),(7,.az 7 0),(16,.az 16 0),(17,.az 17 0),(18,.own (args'.map Ty.pv) 0),(59,.pv (.bool false))],[(5,sC s'),(7,tC g),(16,tC w),(17,tC t')],[],[args'.length]⟩)
 | 0,m,M,s,t,args,hk,ha,E,h1,h2=>by
   have hl:args.length=N:=by omega
   refine .inr ⟨m,M,s,t,args,by omega,by omega,hl,E,?_⟩
   rw [g389L1e]
   simp [g389B1,kh,sC,tC,hl]
 | k+1,m,M,s,t,args,hk,ha,E,h1,h2=>by
   rcases PJ E (by omega) (by omega) (N:=N) (by omega) hN with h | ⟨m',M',s',t',args',a1,a2,a3,a4,E',e⟩
   · exact .inl h
   · rw [e]
     exact Mu hN k m' M' s' t' args' (by omega) (by omega) E' (by omega) (by omega)
end Go.Ab.Lw
namespace Go.Ab.Lw
open Ev
def FN (u:Ty):Prop:=yg u∧u.nodes.length≤4000
theorem Mv {m M:Nat} {s:dS} (I:Inv m M (ew m) s) (hm:m≤1000000) {vs:List As} (hv:vs.length≤100000) (hF:∀x∈vs,Fit (ew m) x.ty) {args:List Ty}:∀(k i:Nat),vs.length-i=k→i≤vs.length→∀acc:List Ty,acc.length=i→(∀u∈acc,FN u) →
   (∃q,cl AP g389L2 ⟨[(3,.pv (.aD (vs.map As.pv))),(5,.az 5 0),(18,.own (args.map Ty.pv) 0),(29,.own (acc.map Ty.pv) 1),(30,.pv (vI i))],[(5,sC s)],[],[args.length,acc.length]⟩=kW q) ∨
   ∃us:List Ty,us.length=vs.length∧(∀u∈us,FN u)∧cl AP g389L2 ⟨[(3,.pv (.aD (vs.map As.pv))),(5,.az 5 0),(18,.own (args.map Ty.pv) 0),(29,.own (acc.map Ty.pv) 1),(30,.pv (vI i))],[(5,sC s)],[],[args.length,acc.length]⟩ =
     some (.exit 4,⟨[(3,.pv (.aD (vs.map As.pv))),(5,.az 5 0),(18,.own (args.map Ty.pv) 0),(29,.own (us.map Ty.pv) 1),(30,.pv (vI vs.length)),(153,.pv (.bool false))],[(5,sC s)],[],[args.length,us.length]⟩)
 | 0,i,hk,hi,acc,ha,hu=>by
   have:i=vs.length:=by omega
   subst this
   refine .inr ⟨acc,ha,hu,?_⟩
   rw [g389L2e]
   simp [g389B2,sC]
 | k+1,i,hk,hi,acc,ha,hu=>by
   have hi:i<vs.length:=by omega
   obtain ⟨x,hx⟩:=bn hi
   have fx:=hF x (bo hx)
   have hsm:Sm s.sl:=by unfold Sm;rw [I.len];omega
   obtain ⟨r,k1,_,_,_⟩:=c355 hsm I.ok (m:=200) (by omega) fx.ok
   have hb:(acc.length+1)*64≤140737488355328:=by omega
   by_cases hr:(200:Int)<r
   · left
     simp at k1
     rw [g389L2e]
     simp (disch:=omega) [-getElem?_pos,g389B2,kW,sC,hx,hi,k1,hr]
   · obtain ⟨u,b,k2,hu1,hu2⟩:=c358k hsm I.ok I.wf ⟨fx.ok,fx.wf⟩
     have ih:=Mv I hm hv hF (args:=args) k (i+1) (by omega) (by omega) (acc++[u]) (by simp;omega) (by
       intro y hy;simp at hy;rcases hy with hy | rfl
       · exact hu y hy
       · exact ⟨hu1,hu2⟩)
     have e1:cl AP g389L2 ⟨[(3,.pv (.aD (vs.map As.pv))),(5,.az 5 0),(18,.own (args.map Ty.pv) 0),(29,.own (acc.map Ty.pv) 1),(30,.pv (vI i))],[(5,sC s)],[],[args.length,acc.length]⟩=cl AP g389L2 ⟨[(3,.pv (.aD (vs.map As.pv))),(5,.az 5 0),(18,.own (args.map Ty.pv) 0),(29,.own ((acc++[u]).map Ty.pv) 1),(30,.pv (vI (i+1:Nat)))],[(5,sC s)],[],[args.length,(acc++[u]).length]⟩:=by
       simp at k1 k2
       conv=>lhs;rw [g389L2e]
       simp (disch:=omega) [-getElem?_pos,g389B2,sC,hx,hi,k1,hr,k2,hb,aq]
     rw [e1]
     exact ih
theorem Mw {m M:Nat} {s:dS} (I:Inv m M (ew m) s) (hm:m≤1000000) {p3:PV} {args:List Ty} (hv:args.length≤100000) (hF:∀x∈args,Fit (ew m) x) {V:Nat}:∀(k i:Nat),args.length-i=k→i≤args.length→∀acc:List Ty,acc.length≤V+i→V≤100000→(∀u∈acc,FN u) →
   ∃us:List Ty,us.length≤V+args.length∧(∀u∈us,FN u)∧acc.length≤us.length∧cl AP g389L3 ⟨[(3,.pv p3),(5,.az 5 0),(18,.own (args.map Ty.pv) 0),(29,.own (acc.map Ty.pv) 1),(33,.pv (vI i))],[(5,sC s)],[],[args.length,acc.length]⟩ =
     some (.exit 6,⟨[(3,.pv p3),(5,.az 5 0),(18,.own (args.map Ty.pv) 0),(29,.own (us.map Ty.pv) 1),(33,.pv (vI args.length)),(181,.pv (.bool false))],[(5,sC s)],[],[args.length,us.length]⟩)
 | 0,i,hk,hi,acc,ha,hV,hu=>by
   have:i=args.length:=by omega
   subst this
   refine ⟨acc,ha,hu,Nat.le_refl _,?_⟩
   rw [g389L3e]
   simp [g389B3,sC]
 | k+1,i,hk,hi,acc,ha,hV,hu=>by
   have hi:i<args.length:=by omega
   obtain ⟨x,hx⟩:=bn hi
   have fx:=hF x (bo hx)
   have hsm:Sm s.sl:=by unfold Sm;rw [I.len];omega
   have hb:(acc.length+1)*64≤140737488355328:=by omega
   obtain ⟨u,b,k2,hu1,hu2⟩:=c358k hsm I.ok I.wf ⟨fx.ok,fx.wf⟩
   obtain ⟨us,q1,q2,q3,e⟩:=Mw I hm hv hF (p3:=p3) (V:=V) k (i+1) (by omega) (by omega) (acc++[u]) (by simp;omega) hV (by
       intro y hy;simp at hy;rcases hy with hy | rfl
       · exact hu y hy
       · exact ⟨hu1,hu2⟩)
   refine ⟨us,q1,q2,by simp at q3;omega,?_⟩
   rw [g389L3e] at e ⊢
   simp [sC] at e
   simp at k2
   simp (disch:=omega) [-getElem?_pos,g389B3,sC,hx,hi,k2,hb,aq]
   rw [g389L3e]
   simp [e]
theorem Lg {l:List Ty} {t:Ty}:∀w,gU (t.mC l) w→gU t w∨∃x∈l,gU x w:=by
 refine Ty.eD (p:=fun t=>∀w,gU (t.mC l) w→gU t w∨∃x∈l,gU x w) ?_ t
 intro t ih w h
 rw [Ty.mD] at h
 cases e:JE l t with
 | some x=>
   rw [e] at h
   obtain ⟨_,_,_,hx⟩:=nE e
   exact .inr ⟨x,bo hx,h⟩
 | none=>
   rw [e] at h
   simp only [Option.getD_none] at h
   generalize hy:(Ty.mk t.kind t.name t.id t.home (t.args.map (Ty.mC l)))=y at h
   cases h with
   | var q=>subst hy;exact .inl (.var q)
   | arg q ha ho=>
     subst hy
     simp only [List.mem_map] at ha
     obtain ⟨a,ha,rfl⟩:=ha
     rcases ih a ha _ ho with h | h
     · exact .inl (.arg q ha h)
     · exact .inr h
theorem PK {sz τ:Nat} {l:List PV} {k:IntKind} {h:Int} (h0:0≤h) (h1:h≤l.length) (hs:bI sz l=true):cP false sz true false false [.own l τ,.pv (.int k h)]=some (.pv (.aD (l.drop h.toNat))):=by
 simp [cP,dY,ee,h0,h1,hs]
end Go.Ab.Lw
namespace Go.Ab.Lw
open Ev
abbrev Mt:=List (Int×Ty)
def ka:Mt→Int→Option Ty
 | [],_=>none
 | (j,x)::r,i=>if i=j then some x else ka r i
def oH:Mt→Int→Ty→Mt
 | [],i,t=>[(i,t)]
 | (j,x)::r,i,t=>if i=j then (i,t)::r else (j,x)::oH r i t
def mp (m:Mt):List (PV×PV):=m.map fun a=>(vI a.1,a.2.pv)
theorem p9 {i j:Int} {t:Ty}:∀{m:Mt},ka (oH m i t) j=if j=i then some t else ka m j
 | []=>by simp [oH,ka]
 | (k,x)::r=>by
   have ih:=p9 (i:=i) (j:=j) (t:=t) (m:=r)
   simp only [oH,ka]
   by_cases e:i=k
   · subst e
     by_cases e2:j=i<;>simp [ka,e2]
   · by_cases e2:j=i
     · subst e2;simp [ka,e,ih]
     · have e':¬k=i:=fun h=>e h.symm
       by_cases e3:j=k<;>simp [ka,e,e',e2,e3,ih]
def BP (m:Mt):Prop:=∀i x,ka m i=some x→x.Ok
theorem BP.put {m:Mt} (h:BP m) {t:Ty} (ht:t.Ok) {i:Int}:BP (oH m i t):=by
 intro j x hx
 rw [p9] at hx
 split at hx
 · cases hx;exact ht
 · exact h j x hx
def PL (p t:Ty):Bool:=decide (p.kind=t.kind) && decide (p.name=t.name) && decide (p.id=t.id) && decide (p.home=t.home) && decide (p.args.length=t.args.length)
end Go.Ab.Lw
namespace Go.Ab.Lw
open Ev
def QK:Ty:=⟨0,[],0,0,[]⟩
def gA (m:Mt) (n:Nat):List Ty:=(List.range n).map fun i:Nat=>(ka m i).getD QK
theorem iA {m:Mt} {n:Nat}:(gA m n).length=n:=by simp [gA]
def rI:Option (List Ty)→List PV
 | some l=>[.aD (l.map Ty.pv),.bool true]
 | none=>[.aD [],.bool false]
end Go.Ab.Lw
namespace Go.Ab.Lw
open Ev
def Mx (m:Mt) (n:Nat):List Bool:=(List.range n).map fun i:Nat=>(ka m i).isSome
theorem p_ {m:Mt} {n:Nat}:(Mx m n).length=n:=by simp [Mx]
theorem oI {m:Mt} {n i:Nat} (h:i<n):(gA m n)[i]?=some ((ka m i).getD QK):=by simp [gA,h]
theorem vh {m:Mt} {n i:Nat} (h:i<n):(Mx m n)[i]?=some (ka m i).isSome:=by simp [Mx,h]
theorem FO {m:Mt} {n i:Nat} {t:Ty}:gA (oH m i t) n=(gA m n).set i t:=by
 apply List.ext_getElem?
 intro j
 by_cases hj:j<n
 · rw [oI hj,List.getElem?_set,p9]
   by_cases e:i=j
   · subst e;simp [iA,hj]
   · have e':¬(j:Int)=i:=by omega
     simp [e,e',oI hj]
 · rw [List.getElem?_eq_none (by rw [iA];omega),List.getElem?_eq_none (by simp [iA];omega)]
theorem Lh {m:Mt} {n i:Nat} {t:Ty}:Mx (oH m i t) n=(Mx m n).set i true:=by
 apply List.ext_getElem?
 intro j
 by_cases hj:j<n
 · rw [vh hj,List.getElem?_set,p9]
   by_cases e:i=j
   · subst e;simp [p_,hj]
   · have e':¬(j:Int)=i:=by omega
     simp [e,e',vh hj]
 · rw [List.getElem?_eq_none (by rw [p_];omega),List.getElem?_eq_none (by simp [p_];omega)]
theorem tF:∀{l:List Ty} {i:Nat},i≤l.length→(l.flatMap Ty.cl).take (i*5)=(l.take i).flatMap Ty.cl
 | _,0,_=>by simp
 | [],i+1,h=>by simp at h
 | a::r,i+1,h=>by
   have ih:=tF (l:=r) (i:=i) (by simp at h;omega)
   have e:(i+1)*5=a.cl.length+i*5:=by simp [Ty.cl];omega
   rw [List.flatMap_cons,List.take_succ_cons,List.flatMap_cons,e,List.take_length_add_append,ih]
theorem oJ:∀{l:List Ty} {i:Nat},i≤l.length→(l.flatMap Ty.cl).drop (i*5)=(l.drop i).flatMap Ty.cl
 | _,0,_=>by simp
 | [],i+1,h=>by simp at h
 | a::r,i+1,h=>by
   have ih:=oJ (l:=r) (i:=i) (by simp at h;omega)
   have e:(i+1)*5=a.cl.length+i*5:=by simp [Ty.cl];omega
   rw [List.flatMap_cons,List.drop_succ_cons,e,List.drop_length_add_append,ih]
theorem Li {l:List Ty} {i:Nat} {t:Ty} (h:i<l.length):bA (jj l 0) (i*5) t.cl=jj (l.set i t) 0:=by
 have e0:∀l:List Ty,jj l 0=l.flatMap Ty.cl:=fun l=>by simp [jj]
 rw [aP,e0,e0,tF (by omega)]
 have e1:i*5+t.cl.length=(i+1)*5:=by simp [Ty.cl];omega
 rw [e1,oJ (by omega),List.set_eq_take_append_cons_drop,if_pos h]
 simp
theorem Lj {l:List Ty} {i:Nat} {x:Ty} (h:l[i]?=some x):((jj l 0).drop (i*5)).take 5=x.cl:=by
 have hi:i<l.length:=(List.getElem?_eq_some_iff.1 h).1
 have e0:jj l 0=l.flatMap Ty.cl:=by simp [jj]
 rw [e0,oJ (by omega),bC h,List.flatMap_cons]
 have:(5:Nat)=x.cl.length:=by simp [Ty.cl]
 rw [this,List.take_left]
mutual
noncomputable def Ty.rt (t:Ty) (m:Mt):Ty→Bool×Mt
 | ⟨k,n,i,h,as⟩=>if k=2 then (match ka m i with | some x=>(decide (x=t),m) | none=>(true,oH m i t)) else if PL ⟨k,n,i,h,as⟩ t=true then Ty.Cv t.args m as else (false,m)
noncomputable def Ty.Cv (ts:List Ty) (m:Mt):List Ty→Bool×Mt
 | []=>(true,m)
 | p::ps=>match ts with
   | []=>(true,m)
   | t::ts=>if (Ty.rt t m p).1=true then Ty.Cv ts (Ty.rt t m p).2 ps else (false,(Ty.rt t m p).2)
end
theorem Ty.My (t:Ty) (m:Mt) (p:Ty):Ty.rt t m p=if p.kind=2 then (match ka m p.id with | some x=>(decide (x=t),m) | none=>(true,oH m p.id t)) else if PL p t=true then Ty.Cv t.args m p.args else (false,m):=by
 cases p;simp only [Ty.rt]
end Go.Ab.Lw
namespace Go.Ab.Lw
open Ev
def yy (m:Mt) (n:Nat):List AV:=(Mx m n).map fun b=>.pv (.bool b)
theorem vi {m:Mt} {n:Nat}:(yy m n).length=n:=by simp [yy,p_]
theorem Ll {m:Mt} {n i:Nat} (h:i<n):(yy m n)[i]?=some (.pv (.bool (ka m i).isSome)):=by simp [yy,vh h]
theorem BQ {m:Mt} {n:Nat}:∀v∈yy m n,∃p,v=AV.pv p:=by
 intro v hv
 simp only [yy,List.mem_map] at hv
 obtain ⟨b,_,rfl⟩:=hv
 exact ⟨_,rfl⟩
theorem yh {m:Mt} {n:Nat}:cR (yy m n)=false:=db BQ
theorem Lm {m:Mt} {n i:Nat} {t:Ty} (h:i<n):bA (yy m n) (i*1) [.pv (.bool true)]=yy (oH m i t) n:=by
 have hl:i<(yy m n).length:=by rw [vi];exact h
 rw [aP]
 have e:yy (oH m i t) n=(yy m n).set i (.pv (.bool true)):=by
   unfold yy
   rw [Lh,List.map_set]
 rw [e,List.set_eq_take_append_cons_drop,if_pos hl]
 simp
theorem Ln {m:Mt} {n i:Nat} {t:Ty} (h:i<n):bA (jj (gA m n) 0) (i*5) t.cl=jj (gA (oH m i t) n) 0:=by
 rw [FO];exact Li (by rw [iA];exact h)
def mh (m:Mt) (n:Nat):Sh:=[some (jj (gA m n) 0),some (yy m n)]
theorem ej {m:Mt} {n:Nat}:bq (mh m n):=bq.app (bq.one uR) (bq.one BQ)
theorem yi {m m':Mt} {n n':Nat}:(mh m' n').take (mh m n).length=mh m' n':=rfl
def Lo (n:Nat) (p:Ty):Prop:=∀x∈p.nodes,x.kind=2→0≤x.id∧x.id<n
theorem Lo.fw {n:Nat} {p:Ty} (h:Lo n p):∀y∈p.args,Lo n y:=by
 intro y hy x hx
 refine h x ?_
 rw [Ty.bp p]
 simp only [List.mem_cons,List.mem_flatMap]
 exact .inr ⟨y,hy,hx⟩
theorem Jg:∀{ps ts:List Ty} {m:Mt},(∀p∈ps,∀t∈ts,∀m,BP m→BP (Ty.rt t m p).2)→BP m→BP (Ty.Cv ts m ps).2
 | [],ts,m,_,h=>by simpa [Ty.Cv] using h
 | p::ps,[],m,_,h=>by simpa [Ty.Cv] using h
 | p::ps,t::ts,m,hp,h=>by
   have h1:=hp p (by simp) t (by simp) m h
   simp only [Ty.Cv]
   split
   · exact Jg (fun q hq u hu=>hp q (by simp [hq]) u (by simp [hu])) h1
   · exact h1
theorem PM {p:Ty}:∀{t:Ty},t.Ok→∀m,BP m→BP (Ty.rt t m p).2:=by
 refine Ty.eD (p:=fun p=>∀{t:Ty},t.Ok→∀m,BP m→BP (Ty.rt t m p).2) ?_ p
 intro p ih t ht m hm
 rw [Ty.My]
 split
 · split
   · exact hm
   · exact hm.put ht
 · split
   · exact Jg (fun q hq u hu m hm=>ih q hq (ht.fw u hu) m hm) hm
   · exact hm
theorem PN {N:Nat} {p t:Ty} (hS:Sm t.args) (hl:p.args.length=t.args.length) (h:∀x∈p.args,∀y∈t.args,∀m,BP m→(aN AP).i 240 [.pv x.pv,.pv y.pv,.bu 0 5 N true,.bu 1 1 N false] (mh m N) []=some ([.pv (.bool (Ty.rt y m x).1)],mh (Ty.rt y m x).2 N,[]))
   (hO:t.Ok):∀(n i:Nat),t.args.length-i=n→i≤t.args.length→∀m,BP m →
   cl AP g240L0 ⟨[(2,.bu 0 5 N true),(3,.bu 1 1 N false),(4,.az 4 0),(5,.az 5 0),(9,.pv (vI i))],[(4,[.pv (vI p.kind),.pv (.str p.name),.pv (vI p.id),.pv (vI p.home),.pv (.aD (p.args.map Ty.pv))]),(5,[.pv (vI t.kind),.pv (.str t.name),.pv (vI t.id),.pv (vI t.home),.pv (.aD (t.args.map Ty.pv))])],mh m N,[]⟩ =
     if (Ty.Cv (t.args.drop i) m (p.args.drop i)).1=true then some (.exit 0,⟨[(2,.bu 0 5 N true),(3,.bu 1 1 N false),(4,.az 4 0),(5,.az 5 0),(9,.pv (vI t.args.length)),(80,.pv (.bool false))],[(4,[.pv (vI p.kind),.pv (.str p.name),.pv (vI p.id),.pv (vI p.home),.pv (.aD (p.args.map Ty.pv))]),(5,[.pv (vI t.kind),.pv (.str t.name),.pv (vI t.id),.pv (vI t.home),.pv (.aD (t.args.map Ty.pv))])],mh (Ty.Cv (t.args.drop i) m (p.args.drop i)).2 N,[]⟩)
     else some (.ret,⟨[(8,.pv (.bool false))],[],mh (Ty.Cv (t.args.drop i) m (p.args.drop i)).2 N,[]⟩)
 | 0,i,hn,hi,m,hm=>by
   have:i=t.args.length:=by omega
   subst this
   have e1:p.args.drop t.args.length=[]:=by rw [←hl];simp
   have h1:=(ej (m:=m) (n:=N)).norm
   rw [g240L0e,e1]
   simp [g240B0,Ty.Cv,h1,hl]
 | n+1,i,hn,hi,m,hm=>by
   have hi:i<t.args.length:=by omega
   obtain ⟨y,hy⟩:=bn hi
   obtain ⟨x,hx⟩:=bn (l:=p.args) (i:=i) (by omega)
   have hix:i<p.args.length:=by omega
   unfold Sm at hS
   have h1:=(ej (m:=m) (n:=N)).norm
   have h2:=(ej (m:=(Ty.rt y m x).2) (n:=N)).norm
   have h3:=(ej (m:=(Ty.rt y m x).2) (n:=N)).shift
   have k:=h x (bo hx) y (bo hy) m hm
   have ih:=PN hS hl h hO n (i+1) (by omega) (by omega) (Ty.rt y m x).2 (PM (hO.fw y (bo hy)) m hm)
   rw [g240L0e] at ih ⊢
   rw [bC hx,bC hy]
   simp only [Ty.Cv]
   simp [h2] at k ih
   by_cases e:(Ty.rt y m x).1=true
   · rw [e] at k
     simp only [if_pos e]
     simp (disch:=omega) [-getElem?_pos,g240B0,hx,hy,hi,hix,k,aq,h1,h2,h3]
     rw [g240L0e]
     simp [ih,h2]
   · have e':(Ty.rt y m x).1=false:=by simpa using e
     rw [e'] at k
     simp only [if_neg e]
     simp (disch:=omega) [-getElem?_pos,g240B0,hx,hy,hi,hix,k,aq,h1,h2,h3]
theorem c240 {N:Nat} (hN:N<1099511627776) {p:Ty}:∀{t:Ty},t.Ok→Lo N p→∀m,BP m→(aN AP).i 240 [.pv p.pv,.pv t.pv,.bu 0 5 N true,.bu 1 1 N false] (mh m N) []=some ([.pv (.bool (Ty.rt t m p).1)],mh (Ty.rt t m p).2 N,[]):=by
 refine Ty.eD (p:=fun p=>∀{t:Ty},t.Ok→Lo N p→∀m,BP m→(aN AP).i 240 [.pv p.pv,.pv t.pv,.bu 0 5 N true,.bu 1 1 N false] (mh m N) []=some ([.pv (.bool (Ty.rt t m p).1)],mh (Ty.rt t m p).2 N,[])) ?_ p
 intro p ih t ht hR m hm
 have h1:=(ej (m:=m) (n:=N)).norm
 have h2:=(ej (m:=m) (n:=N)).shift
 rw [aR (af:=g240) rfl (by simp [g240]),Ty.My]
 by_cases e2:p.kind=2
 · obtain ⟨i0,i1⟩:=hR p (by rw [Ty.bp];simp) e2
   obtain ⟨k,hk,hkN⟩:=mz i0 i1
   have kl:=Ll (m:=m) hkN
   have kl2:=vi (m:=m) (n:=N)
   have al:=xQ (d:=gA m N) (m:=0)
   rw [iA] at al
   have fl:=oI (m:=m) hkN
   have gl:=Lj fl
   have hlen:k*5+5≤(jj (gA m N) 0).length:=by omega
   have hk1:k+1≤N:=hkN
   rw [if_pos e2,hk]
   cases hf:ka m k with
   | none=>
     rw [hf] at kl
     have s1:=Ln (m:=m) (t:=t) hkN
     have s2:=Lm (m:=m) (t:=t) hkN
     have h3:=(ej (m:=oH m k t) (n:=N)).norm
     simp [mh,Ty.cl] at h1 h2 h3 kl s1 s2
     simp (disch:=omega) [-getElem?_pos,g240,e2,hk,hkN,hk1,mh,h1,h2,h3,kl,kl2,yh,s1,s2,hlen]
   | some x=>
     rw [hf] at kl gl
     have q:=c20 (a:=x) (b:=t) (hm _ _ hf)
     simp [mh,Ty.cl] at h1 h2 kl gl q
     simp (disch:=omega) [-getElem?_pos,g240,e2,hk,hkN,hk1,mh,h1,h2,kl,kl2,yh,gl,hlen,q]
 · rw [if_neg e2]
   by_cases e:PL p t=true
   · rw [if_pos e]
     simp [PL] at e
     obtain ⟨⟨⟨⟨e1,e2'⟩,e3⟩,e4⟩,e5⟩:=e
     have h:=PN (N:=N) (p:=p) (t:=t) ht.sm e5 (fun x hx y hy m hm=>ih x hx (ht.fw y hy) (hR.fw x hx) m hm) ht _ 0 rfl (by omega) m hm
     have h3:=(ej (m:=(Ty.Cv t.args m p.args).2) (n:=N)).norm
     rw [g240L0e] at h
     have e2t:¬t.kind=2:=by rw [←e1];exact e2
     simp [h1,e1,e2',e3,e4] at h
     cases e6:(Ty.Cv t.args m p.args).1 with
     | true=>simp [e6] at h;simp [g240,e2t,e1,e2',e3,e4,e5,h1,h2,h3,yi,g240L0e,h]
     | false=>simp [e6] at h;simp [g240,e2t,e1,e2',e3,e4,e5,h1,h2,h3,yi,g240L0e,h]
   · rw [if_neg e]
     have:¬(p.kind=t.kind∧p.name=t.name∧p.id=t.id∧p.home=t.home∧p.args.length=t.args.length):=by
       rintro ⟨h1,h2,h3,h4,h5⟩;apply e;simp [PL,h1,h2,h3,h4,h5]
     by_cases q1:p.kind=t.kind
     · have e2':¬t.kind=2:=by rw [←q1];exact e2
       by_cases q2:p.name=t.name
       · by_cases q3:p.id=t.id
         · by_cases q4:p.home=t.home
           · have h5:¬p.args.length=t.args.length:=fun h5=>this ⟨q1,q2,q3,q4,h5⟩
             have h5':¬(p.args.length:Int)=t.args.length:=by omega
             simp [g240,e2',q1,q2,q3,q4,h5',h1,h2]
           · simp [g240,e2',q1,q2,q3,q4,h1,h2]
         · simp [g240,e2',q1,q2,q3,h1,h2]
       · simp [g240,e2',q1,q2,h1,h2]
     · simp [g240,e2,q1,h1,h2]
end Go.Ab.Lw
namespace Go.Ab.Lw
open Ev
theorem Mz {n:Nat}:jj (gA [] n) 0=(List.replicate n [.pv (vI 0),.pv (.str []),.pv (vI 0),.pv (vI 0),.pv (.aD [])]).flatten:=by
 have e:gA [] n=List.replicate n QK:=by
   exact List.eq_replicate_iff.2 ⟨by simp [gA],by intro b hb;simp [gA,ka] at hb;exact hb.2.symm⟩
 rw [e]
 simp only [jj,List.replicate_zero,List.flatten_nil,List.append_nil,List.flatMap_def,List.map_replicate]
 rfl
theorem Q4 {n:Nat}:yy [] n=List.replicate n (.pv (.bool false)):=List.eq_replicate_iff.2 ⟨vi,by intro b hb;simp [yy,Mx,ka] at hb;exact hb.2.symm⟩
end Go.Ab.Lw
namespace Go.Ab.Lw
open Ev
theorem sD {s:List As} (hs:∀a∈s,a.ty.args=[]) {t:Ty} (hW:t.Wf):(t.sub s).nodes.length=t.nodes.length:=by
 revert hW
 refine Ty.eD (p:=fun t=>t.Wf→(t.sub s).nodes.length=t.nodes.length) ?_ t
 intro t ih hW
 rw [Ty.sub_eq]
 by_cases e:t.kind=1
 · rw [if_pos e]
   have ea:=hW.var e
   cases hf:ki s t.id with
   | none=>rfl
   | some u=>
     obtain ⟨a,ha,rfl⟩:=lD hf
     rw [Option.getD_some,Ty.bp,Ty.bp t,hs a ha,ea];simp
 · rw [if_neg e,Ty.bp,Ty.bp t]
   simp only [List.length_cons,List.flatMap_map]
   have key:∀(l:List Ty),(∀y∈l,y∈t.args)→(l.flatMap fun y=>(y.sub s).nodes).length=(l.flatMap Ty.nodes).length:=by
     intro l
     induction l with
     | nil=>intro _;rfl
     | cons a r ihr=>
       intro hl
       simp only [List.flatMap_cons,List.length_append]
       rw [ih a (hl a (by simp)) (hW.fw a (hl a (by simp))),ihr (fun y hy=>hl y (by simp [hy]))]
   rw [key t.args (fun _ h=>h)]
end Go.Ab.Lw
namespace Go.Ab.Lw
open Ev
noncomputable def Jh (N:Nat) (p t:Ty):Option (List Ty):=if (Ty.rt t [] p).1=true then some (gA (Ty.rt t [] p).2 N) else none
theorem c238 {N:Nat} (hN:N<1000000) {p t:Ty} (ht:t.Ok) (hR:Lo N p):(aN AP).p 238 [(As.mk N p).pv,t.pv]=some (rI (Jh N p t)):=by
 have k:=c240 (N:=N) (by omega) ht hR [] (by intro i x h;cases h)
 rw [au (af:=g238) rfl rfl (by decide)]
 unfold Jh
 generalize hm:(Ty.rt t [] p).2=m at k ⊢
 have hfr:=Iu (d:=gA m N)
 have hle:=xQ (d:=gA m N) (m:=0)
 rw [iA] at hfr hle
 have h1:=(ej (m:=[]) (n:=N)).norm
 have h2:=(ej (m:=m) (n:=N)).norm
 have h3:=(ej (m:=m) (n:=N)).shift
 have h4:=(bq.one (uR (d:=gA [] N) (m:=0))).norm
 have b1:(N:Int)≤9223372036854775807:=by omega
 have b2:(N:Int)*64≤140737488355328:=by omega
 have b3:(N:Int)≤140737488355328:=by omega
 have e0:mh [] N=[some ((List.replicate N [.pv (vI 0),.pv (.str []),.pv (vI 0),.pv (vI 0),.pv (.aD [])]).flatten),some (List.replicate N (.pv (.bool false)))]:=by unfold mh;rw [Mz,Q4]
 rw [e0] at k h1
 rw [Mz] at h4
 have h5:=(bq.one (BQ (m:=[]) (n:=N))).norm
 rw [Q4] at h5
 simp [mh] at hfr hle k h1 h2 h3 h4 h5
 cases e:(Ty.rt t [] p).1 with
 | true=>
   rw [e] at k
   simp (disch:=omega) [g238,b1,b2,b3,h1,h2,h3,h4,h5,k,hfr,hle,rI]
 | false=>
   rw [e] at k
   simp (disch:=omega) [g238,b1,b2,b3,h1,h2,h3,h4,h5,k,rI]
end Go.Ab.Lw
namespace Go.Ab.Lw
open Ev
theorem Cx:∀{l:List Int} {i:Nat} {v:Int} {x:Ty},ki (gF i l) v=some x→∃k:Nat,x=cm k
 | [],i,v,x,h=>by simp [gF,ki] at h
 | a::r,i,v,x,h=>by
   simp only [gF,ki] at h
   split at h
   · cases h;exact ⟨i,rfl⟩
   · exact Cx h
theorem tG {l:List Int} {i:Nat}:∀a∈gF i l,a.ty.args=[]:=by
 induction l generalizing i with
 | nil=>simp [gF]
 | cons v r ih=>
   intro a ha
   simp only [gF,List.mem_cons] at ha
   rcases ha with rfl | ha
   · rfl
   · exact ih a ha
theorem Lp {l:List Int} {i:Nat}:∀a∈gF i l,a.ty.Ok:=fun a ha=>cW (tG a ha)
theorem Lq {l:List Int} {u:Ty} (h:FN u):FN (u.sub (gF 0 l)):=by
 refine ⟨⟨BA Lp h.1.1,?_⟩,?_⟩
 · refine BK (K:=KS) h.1.2 (fun k q _=>q) ?_ (.inl (by simp))
   intro i x hx
   obtain ⟨k,rfl⟩:=Cx hx
   exact rQ
 · rw [sD tG h.1.2.wf]
   exact h.2
theorem Ji {l:List Ty} {k:Int} (h:∀u∈l,FN u):(l.flatMap (Ty.eN k)).length≤l.length*4000:=by
 induction l with
 | nil=>simp
 | cons a r ih=>
   have h1:=(h a (by simp)).2
   have h2:=nF (k:=k) (t:=a)
   have h3:=ih fun u hu=>h u (by simp [hu])
   simp only [List.flatMap_cons,List.length_append,List.length_cons]
   omega
theorem c395k {l:List Ty} (hl:l.length≤1000000) (h:∀u∈l,FN u):(aN AP).i 395 [.pv (.aD (l.map Ty.pv))] [] []=some ([.own ((l.map (Ty.sub (gF 0 (vars l)))).map Ty.pv) 0],[],[l.length]):=by
 have hlen:=Ji (k:=1) h
 refine c395i (S:=l.flatMap (Ty.eN 1)) (by omega) ?_ (by unfold Sm;omega) ?_
 · intro x hx
   simp only [List.mem_flatMap] at hx
   obtain ⟨u,_,hx⟩:=hx
   exact cW (kU x hx)
 · intro t ht
   refine ⟨(h t ht).1.1,(h t ht).1.2.wf,?_⟩
   intro x hx
   simp only [List.mem_flatMap]
   exact ⟨t,ht,hx⟩
structure Qp (n M:Nat) (s:dS) (c:Sc) (K:Nat) (g:Ty) (vs:List As):Prop where
 inv:Inv n M (ew n) s
 hn:n≤6000
 hm:M≤1000000
 id:c.id=K
 k:K≤100
 ok:c.ty.Ok
 kn:c.ty.Kn KV
 PO:Lo K c.ty
 lG:∀w,gU c.ty w→w∈ew n
 g:Fit (ew n) g
 Rf:∀x∈vs,Fit (ew n) x.ty
 vl:vs.length≤5000
theorem c389 {n M:Nat} {s:dS} {c:Sc} {K:Nat} {g:Ty} {vs:List As} (E:Qp n M s c K g vs) {N:Nat} (hN:N≤10):∃(l1 l2:List Ty) (b:Bool),
   (aN AP).p 389 [s.pv,c.pv,g.pv,.aD (vs.map As.pv),vI N]=some [.aD (l1.map Ty.pv),.aD (l2.map Ty.pv),.bool b]∧(∀u∈l1++l2,FN u)∧l1.length≤6000∧l2.length≤10:=by
 have h0:=Mr E.inv E.id (by have:=E.hn;have:=E.k;omega) (by have:=E.hm;omega) (g:=g) (p3:=.aD (vs.map As.pv)) (p4:=vI N) K 0 (by omega) (by omega) [] rfl
 have I1:=lI E.inv K
 have hnk:n+K≤6100:=by have:=E.hn;have:=E.k;omega
 have hM1:M+K*(2*(n+K)+4)≤5000000:=by
   have:K*(2*(n+K)+4)≤100*12204:=Nat.mul_le_mul E.k (by omega)
   have:=E.hm
   omega
 have e0:nJ s 0=s:=rfl
 rw [e0] at h0
 have hin:([]++(List.range' 0 (K-0)).map fun j=>cm (n+j:Nat))=(List.range K).map fun j=>cm (n+j:Nat):=by rw [List.nil_append,Nat.sub_zero,List.range_eq_range']
 rw [hin] at h0
 have hiv:∀x∈(List.range K).map (fun j=>cm (n+j:Nat)),∃j:Nat,j<K∧x=cm (n+j:Nat):=by
   intro x hx
   simp only [List.mem_map,List.mem_range] at hx
   obtain ⟨j,hj,rfl⟩:=hx
   exact ⟨j,hj,rfl⟩
 have hil:((List.range K).map (fun j=>cm (n+j:Nat))).length=K:=by simp
 generalize (List.range K).map (fun j=>cm (n+j:Nat))=ins at *
 have hii:∀x∈ins,Fit (ew (n+K)) x:=by
   intro x hx
   obtain ⟨j,hj,rfl⟩:=hiv x hx
   exact nK (eE.2 (by omega))
 have k1:=c48 (s:=ins) (by unfold Sm;omega) E.ok
 have mono:=tE (n:=n) (m:=n+K) (by omega)
 have W:Fit (ew (n+K)) (c.ty.mC ins):=by
   refine ⟨I2 (fun x hx=>(hii x hx).ok) E.ok,I6 E.kn (by simp only [KV,KS];omega) (fun x hx=>(hii x hx).wf) (fun y hy hk=>by have:=E.PO y hy hk;omega),?_⟩
   intro w ho
   rcases Lg w ho with h | ⟨x,hx,h⟩
   · exact mono w (E.lG w h)
   · exact (hii x hx).lG w h
 have X:PI (n+K) (M+K*(2*(n+K)+4)) (nJ s K) (c.ty.mC ins) (c.ty.mC ins) g [] vs:=⟨I1,W,W,E.g.gE mono,by simp,fun x hx=>(E.Rf x hx).gE mono⟩
 generalize c.ty.mC ins=w at *
 generalize nJ s K=s1 at *
 have hpv:c.pv=.agg [vI c.id,vI c.ty.kind,.str c.ty.name,vI c.ty.id,vI c.ty.home,.aD (c.ty.args.map Ty.pv)]:=rfl
 have hK:=E.id
 rw [g389L0e] at h0
 simp [sC,ye,tC,hK] at h0 k1
 have bad:∀r,(aN AP).p 389 [s.pv,c.pv,g.pv,.aD (vs.map As.pv),vI N]=some [.aD [],.aD [],.bool false]→r=r→∃(l1 l2:List Ty) (b:Bool),
     (aN AP).p 389 [s.pv,c.pv,g.pv,.aD (vs.map As.pv),vI N]=some [.aD (l1.map Ty.pv),.aD (l2.map Ty.pv),.bool b]∧(∀u∈l1++l2,FN u)∧l1.length≤6000∧l2.length≤10:=fun (_:Nat) h _=>⟨[],[],false,h,by simp,by simp,by simp⟩
 rcases Mu (vs:=vs) (N:=N) (by omega) N (n+K) _ s1 w [] (by simp) (by simp) X (by omega) (by omega) with ⟨q,h1⟩ | ⟨m,M',s2,t2,args,hm,hM,hal,E2,h1⟩
 · refine bad 0 ?_ rfl
   rw [g389L1e] at h1
   simp [kh,kW,sC,tC] at h1
   rw [au (af:=g389) rfl rfl (by decide)]
   simp [g389,hK,g389L0e,h0,k1,g389L1e,h1]
 · have hsl:=E2.inv.len
   have hsm:Sm s2.sl:=by unfold Sm;omega
   have k2:=c386 hsm (t:=t2)
   have F:=E2.t.wk E2.inv
   change (aN AP).p 386 [s2.pv,t2.pv]=some [(jY s2.sl t2).pv] at k2
   generalize jY s2.sl t2=x at *
   obtain ⟨a,b,cc,k3,_⟩:=c194f F
   rw [g389L1e] at h1
   simp [kh,sC,tC] at h1 k2 k3
   cases cc with
   | true=>
     refine bad 0 ?_ rfl
     rw [au (af:=g389) rfl rfl (by decide)]
     simp [g389,hK,g389L0e,h0,k1,g389L1e,h1,k2,k3]
   | false=>
     have nl:∀w∈ew m,w<m:=fun w h=>(eE.1 h).2
     obtain ⟨s3,k4,I3⟩:=c394 (NF (by omega) (by omega)) nl E2.inv F
     obtain ⟨s4,k5,I4⟩:=c394 (NF (by omega) (by omega)) nl I3 E2.g
     obtain ⟨s5,e,k6,I5⟩:=c385 (NF (by omega) (by omega)) I4 F E2.g
     have hsm5:Sm s5.sl:=by unfold Sm;rw [I5.len];omega
     obtain ⟨r,k7,_,_,_⟩:=c355 hsm5 I5.ok (m:=200) (by omega) E2.w.ok
     simp at k4 k5 k6 k7
     by_cases he:e=0
     · subst he
       by_cases hr:(200:Int)<r
       · refine bad 0 ?_ rfl
         rw [au (af:=g389) rfl rfl (by decide)]
         simp [g389,hK,g389L0e,h0,k1,g389L1e,h1,k2,k3,k4,k5,k6,k7,hr]
       · rcases Mv I5 (by omega) (vs:=vs) (by have:=E.vl;omega) E2.vs (args:=args) _ 0 rfl (by omega) [] rfl (by simp) with ⟨q,h2⟩ | ⟨us,hul,huo,h2⟩
         · refine bad 0 ?_ rfl
           rw [g389L2e] at h2
           simp [kW,sC] at h2
           rw [au (af:=g389) rfl rfl (by decide)]
           simp [g389,hK,g389L0e,h0,k1,g389L1e,h1,k2,k3,k4,k5,k6,k7,hr,g389L2e,h2]
         · obtain ⟨vs2,g1,g2,g3,h3⟩:=Mw I5 (by omega) (p3:=.aD (vs.map As.pv)) (args:=args) (by omega) E2.args (V:=vs.length) _ 0 rfl (by omega) us (by omega) (by have:=E.vl;omega) huo
           have hvl:=E.vl
           have k8:=c395k (l:=vs2) (by omega) g2
           have hl3:(vs2.map (Ty.sub (gF 0 (vars vs2)))).length=vs2.length:=by simp
           have ho3:∀u∈vs2.map (Ty.sub (gF 0 (vars vs2))),FN u:=by
             intro u hu
             simp only [List.mem_map] at hu
             obtain ⟨y,hy,rfl⟩:=hu
             exact Lq (g2 y hy)
           generalize vs2.map (Ty.sub (gF 0 (vars vs2)))=l at *
           refine ⟨l.take vs.length,l.drop vs.length,true,?_,by rw [List.take_append_drop];exact ho3,by simp;omega,by simp;omega⟩
           have q1:=O_ (sz:=5) (τ:=2) (l:=l.map Ty.pv) (k:=.i64) (h:=(vs.length:Int)) (by omega) (by simp;omega)
           have q2:=PK (sz:=5) (τ:=2) (l:=l.map Ty.pv) (k:=.i64) (h:=(vs.length:Int)) (by omega) (by simp;omega) (Cl.head l)
           rw [g389L2e] at h2
           rw [g389L3e] at h3
           simp [sC] at h2 h3
           simp at k8 q1 q2
           rw [au (af:=g389) rfl rfl (by decide)]
           simp [g389,hK,g389L0e,h0,k1,g389L1e,h1,k2,k3,k4,k5,k6,k7,hr,g389L2e,h2,g389L3e,h3,k8,q1,q2]
     · refine bad 0 ?_ rfl
       rw [au (af:=g389) rfl rfl (by decide)]
       simp [g389,hK,g389L0e,h0,k1,g389L1e,h1,k2,k3,k4,k5,k6,he]
end Go.Ab.Lw
namespace Go.Ab.Lw
open Ev
structure Hd where
 name:bV
 d7:Bool
 args:List Ty
 types:List Ty
def Hd.pv (h:Hd):PV:=.agg [.str h.name,.bool h.d7,.aD (h.args.map Ty.pv),.aD (h.types.map Ty.pv)]
@[simp] theorem Hd.kN (h:Hd):h.pv=.agg [.str h.name,.bool h.d7,.aD (h.args.map Ty.pv),.aD (h.types.map Ty.pv)]:=rfl
theorem Jj:El Hd.pv 4 true:=⟨fun _=>rfl,fun _=>rfl⟩
@[simp] theorem Oa {l:List Hd}:bI 4 (l.map Hd.pv)=true:=Jj.head l
def rS (h:Hd):Prop:=h.args.length≤10∧∀u∈h.args,FN u
def hC (nm:bV) (cn:Bool):List AV:=[.pv (.str nm),.pv (.bool cn),.pv (.aD []),.pv (.aD [])]
theorem NI {n M:Nat} {s:dS} {c:Sc} {K:Nat} {g:Ty} {vs:List As} (E:Qp n M s c K g vs) {nm:bV} {cn:Bool}:∀(k i:Nat),4-i=k→i≤4→∀acc:List Hd,acc.length≤i→(∀h∈acc,rS h) →
   ∃hs:List Hd,hs.length≤4∧(∀h∈hs,rS h)∧cl AP g378L0 ⟨[(3,.pv (.aD (vs.map As.pv))),(4,.pv (vI 3)),(6,.az 6 0),(7,.az 7 0),(8,.az 8 0),(11,.az 11 0),(13,.own (acc.map Hd.pv) 0),(14,.pv (vI i))],[(6,sC s),(7,ye c),(8,tC g),(11,hC nm cn)],[],[acc.length]⟩ =
     some (.exit 0,⟨[(3,.pv (.aD (vs.map As.pv))),(4,.pv (vI 3)),(6,.az 6 0),(7,.az 7 0),(8,.az 8 0),(11,.az 11 0),(13,.own (hs.map Hd.pv) 0),(14,.pv (vI 4)),(21,.pv (.bool false))],[(6,sC s),(7,ye c),(8,tC g),(11,hC nm cn)],[],[hs.length]⟩)
 | 0,i,hk,hi,acc,ha,ho=>by
   have:i=4:=by omega
   subst this
   refine ⟨acc,ha,ho,?_⟩
   rw [g378L0e]
   simp [g378B0,sC,ye,tC,hC]
 | k+1,i,hk,hi,acc,ha,ho=>by
   have hi:i<4:=by omega
   have hi3:(i:Int)≤3:=by omega
   obtain ⟨l1,l2,b,e,hO,n1,n2⟩:=c389 E (N:=i) (by omega)
   simp at e
   cases b with
   | false=>
     obtain ⟨hs,h1,h2,e'⟩:=NI E (nm:=nm) (cn:=cn) k (i+1) (by omega) (by omega) acc (by omega) ho
     refine ⟨hs,h1,h2,?_⟩
     rw [g378L0e] at e' ⊢
     simp [sC,ye,tC,hC] at e'
     simp (disch:=omega) [-getElem?_pos,g378B0,sC,ye,tC,hC,hi3,e,aq]
     rw [g378L0e]
     simp [e']
   | true=>
     have hb1:l1.length*64≤140737488355328:=by omega
     have hb2:l2.length*64≤140737488355328:=by omega
     have hb3:(acc.length+1)*72≤140737488355328:=by omega
     have hh1:=Cl.head l1
     have hh2:=Cl.head l2
     obtain ⟨hs,h1,h2,e'⟩:=NI E (nm:=nm) (cn:=cn) k (i+1) (by omega) (by omega) (acc++[⟨nm,cn,l2,l1⟩]) (by simp;omega) (by
       intro h hh;simp at hh;rcases hh with hh | rfl
       · exact ho h hh
       · exact ⟨n2,fun u hu=>hO u (by simp [hu])⟩)
     refine ⟨hs,h1,h2,?_⟩
     rw [g378L0e] at e' ⊢
     simp [sC,ye,tC,hC] at e'
     by_cases z1:l1=[]
     · by_cases z2:l2=[]
       · subst z1;subst z2
         simp at e e'
         simp (disch:=omega) [-getElem?_pos,g378B0,sC,ye,tC,hC,hi3,e,aq,hb3]
         rw [g378L0e]
         simp [e']
       · subst z1
         simp at e e'
         simp (disch:=omega) [-getElem?_pos,g378B0,sC,ye,tC,hC,hi3,e,aq,hb2,hb3,hh2,z2]
         rw [g378L0e]
         simp [e']
     · by_cases z2:l2=[]
       · subst z2
         simp at e e'
         simp (disch:=omega) [-getElem?_pos,g378B0,sC,ye,tC,hC,hi3,e,aq,hb1,hb3,hh1,z1]
         rw [g378L0e]
         simp [e']
       · simp (disch:=omega) [-getElem?_pos,g378B0,sC,ye,tC,hC,hi3,e,aq,hb1,hb2,hb3,hh1,hh2,z1,z2]
         rw [g378L0e]
         simp [e']
theorem c378 {n M:Nat} {s:dS} {c:Sc} {K:Nat} {g:Ty} {vs:List As} (E:Qp n M s c K g vs) {nm:bV} {cn:Bool}:∃hs:List Hd,hs.length≤4∧(∀h∈hs,rS h) ∧
   (aN AP).p 378 [s.pv,c.pv,g.pv,.aD (vs.map As.pv),vI 3,.agg [.str nm,.bool cn,.aD [],.aD []]]=some [.aD (hs.map Hd.pv)]:=by
 obtain ⟨hs,h1,h2,e⟩:=NI E (nm:=nm) (cn:=cn) _ 0 rfl (by omega) [] (by simp) (by simp)
 refine ⟨hs,h1,h2,?_⟩
 rw [au (af:=g378) rfl rfl (by decide)]
 rw [g378L0e] at e
 simp [sC,ye,tC,hC] at e
 simp [g378,g378L0e,e]
end Go.Ab.Lw
namespace Go.Ab.Lw
open Ev
theorem FP {t:Ty}:∀y∈t.args,∀v∈y.nodes,v∈t.nodes:=by
 intro y hy v hv
 rw [Ty.bp]
 simp only [List.mem_cons,List.mem_flatMap]
 exact .inr ⟨y,hy,hv⟩
theorem Kn.yl {K:Int→Prop} (t:Ty):(∀y∈t.nodes,y.kind≠4→K y.kind∧y.args=[])→t.Kn K:=by
 refine Ty.eD (p:=fun t=>(∀y∈t.nodes,y.kind≠4→K y.kind∧y.args=[])→t.Kn K) ?_ t
 intro t ih h
 refine .mk (h t (by rw [Ty.bp];simp)) fun x hx=>ih x hx fun y hy=>h y (FP x hx y hy)
theorem pI (t:Ty):(∀y∈t.nodes,y.args.length≤100)→t.Ok:=by
 refine Ty.eD (p:=fun t=>(∀y∈t.nodes,y.args.length≤100)→t.Ok) ?_ t
 intro t ih h
 refine .mk (by have:=h t (by rw [Ty.bp];simp);unfold Sm;omega) fun x hx=>ih x hx fun y hy=>h y (FP x hx y hy)
theorem Jk {K:Int→Prop} {t:Ty} {w:Int} (h:gU t w):t.Kn K→¬K 1→False:=by
 induction h with
 | @var t q=>intro hk h1;have:=(hk.hd (by rw [q];decide)).1;rw [q] at this;exact h1 this
 | arg _ ha _ ih=>intro hk h1;exact ih (hk.kd _ ha) h1
structure ck (t:Ty):Prop where
 ok:t.Ok
 kn:t.Kn KG
structure km (c:Sc):Prop where
 ok:c.ty.Ok
 kn:c.ty.Kn KC
 PO:∃K:Nat,c.id=K∧K≤100∧Lo K c.ty
theorem ck.fit {S:List Int} {t:Ty} (h:ck t):Fit S t:=⟨h.ok,h.kn.imp L9,fun _ ho=>(Jk ho h.kn (by simp)).elim⟩
theorem ck.fw {t:Ty} (h:ck t):∀x∈t.args,ck x:=fun x hx=>⟨h.ok.fw x hx,h.kn.kd x hx⟩
theorem km.Q5 {c:Sc} (h:km c) {g:Ty} (hg:ck g):∃K,Qp 0 0 (sB 0) c K g []:=by
 obtain ⟨K,h1,h2,h3⟩:=h.PO
 exact ⟨K,⟨vf 0,by omega,by omega,h1,h2,h.ok,h.kn.imp Pp,h3,fun _ ho=>(Jk ho h.kn (by simp)).elim,hg.fit,by simp,by simp⟩⟩
theorem ck.mono {t:Ty} (h:ck t):km ⟨0,t⟩:=⟨h.ok,h.kn.imp Po,0,rfl,by omega,fun y hy hk=>by have:=(h.kn.nodes y hy (by rw [hk];decide)).1;rw [hk] at this;simp at this⟩
theorem qa:ck bw:=⟨cW rfl,.bare rfl (by simp [bw])⟩
def Lr (c:Sc):Bool:=c.ty.nodes.all fun y=>decide (y.args.length≤100) && (decide (y.kind=4) || (decide (y.kind=0) || decide (y.kind=2) || decide (y.kind=3)) && decide (y.args.length=0)) && (decide (y.kind≠2) || decide (0≤y.id) && decide (y.id<c.id))
theorem Cy {c:Sc} {K:Nat} (hc:c.id=K) (hK:K≤100) (h:Lr c=true):km c:=by
 simp only [Lr,List.all_eq_true,Bool.and_eq_true,Bool.or_eq_true,decide_eq_true_eq] at h
 refine ⟨pI _ fun y hy=>(h y hy).1.1,Kn.yl _ fun y hy hk=>?_,K,hc,hK,fun y hy hk=>?_⟩
 · rcases (h y hy).1.2 with q | ⟨q,q2⟩
   · exact absurd q hk
   · exact ⟨by simp only [KC];omega,List.length_eq_zero_iff.1 q2⟩
 · rcases (h y hy).2 with q | q
   · exact absurd hk q
   · omega
theorem Ls:∀d∈cG,d.params.length≤100∧∀c∈d.cons,Lr ⟨d.params.length,BM d.params c.fields (Jc d)⟩=true:=by decide +kernel
theorem FQ {ds:List Dt} (hD:∀d∈ds,d∈cG) {s:bV}:km ((pH ds s).getD mA):=by
 cases e:pH ds s with
 | none=>exact ⟨cW rfl,.bare rfl (by simp [mA]),0,rfl,by omega,by intro y hy hk;simp [mA,Ty.bp] at hy;rw [hy] at hk;simp at hk⟩
 | some sc=>
   simp only [pH,Option.bind_eq_some_iff,Option.map_eq_some_iff] at e
   obtain ⟨q,_,d,hd,c,hc,rfl⟩:=e
   obtain ⟨h1,h2⟩:=Ls d (hD d (bo hd))
   exact Cy (K:=d.params.length) rfl h1 (h2 c (bo hc))
theorem d3:∀d∈cG,d.params.length≤8∧d.cons.length≤8∧∀c∈d.cons,c.fields.length≤8∧∀x∈c.fields,x.nodes.all (fun y=>decide (y.args.length≤100) && (decide (y.kind=4) || decide (y.kind=5) && decide (y.args.length=0)))=true:=by decide +kernel
theorem Cz {d:Dt} (hd:d∈cG):∀c∈d.cons,Sm c.fields∧(∀x∈c.fields,x.Ok)∧∀x∈c.fields,x.Kn (·=5):=by
 intro c hc
 obtain ⟨_,_,h⟩:=d3 d hd
 obtain ⟨h1,h2⟩:=h c hc
 simp only [List.all_eq_true,Bool.and_eq_true,Bool.or_eq_true,decide_eq_true_eq] at h2
 refine ⟨by unfold Sm;omega,fun x hx=>pI _ fun y hy=>(h2 x hx y hy).1,fun x hx=>Kn.yl _ fun y hy hk=>?_⟩
 rcases (h2 x hx y hy).2 with q | ⟨q,q2⟩
 · exact absurd q hk
 · exact ⟨q,List.length_eq_zero_iff.1 q2⟩
structure pP (ds:List Dt):Prop where
 all:∀d∈ds,d∈cG
 len:ds.length≤8
theorem pP.c193 {ds:List Dt} (h:pP ds) {s:bV}:(aN AP).p 193 [.aD (ds.map Dt.pv),.str s]=some (K3 (pH ds s)):=
 Lw.c193 (by have:=h.len;unfold Sm;omega) (fun d hd=>by have:=(d3 d (h.all d hd)).2.1;unfold Sm;omega) (fun d hd=>by have:=(d3 d (h.all d hd)).1;unfold Sm;omega) (fun d hd c hc=>by
   obtain ⟨a,b,c2⟩:=Cz (h.all d hd) c hc
   exact ⟨a,b,fun x hx=>(c2 x hx).cw⟩)
theorem Lt {l:List Ty} (h:∀t∈l,∃K:Int→Prop,t.Kn K∧¬K 1):vars l=[]:=by
 have:∀y∈l.flatMap Ty.nodes,y.kind≠1:=by
   intro y hy hk
   simp only [List.mem_flatMap] at hy
   obtain ⟨t,ht,hy⟩:=hy
   obtain ⟨K,hK,h1⟩:=h t ht
   have:=(hK.nodes y hy (by rw [hk];decide)).1
   rw [hk] at this
   exact h1 this
 unfold vars
 generalize l.flatMap Ty.nodes=m at *
 induction m with
 | nil=>rfl
 | cons a r ih=>
   have:dg [] a=[]:=by simp [dg,this a (by simp)]
   rw [List.foldl_cons,this]
   exact ih fun y hy=>by rename_i h2;exact h2 y (by simp [hy])
theorem Jl {k:Int} {t:Ty}:∀y∈t.eN k,y∈t.nodes∧y.kind=k:=by
 refine Ty.eD (p:=fun t=>∀y∈t.eN k,y∈t.nodes∧y.kind=k) ?_ t
 intro t ih y hy
 rw [Ty.kQ] at hy
 rw [Ty.bp]
 split at hy
 · rename_i q
   simp at hy
   subst hy
   exact ⟨by simp,q.1⟩
 · simp only [List.mem_flatMap] at hy
   obtain ⟨a,ha,hy⟩:=hy
   have:=ih a ha y hy
   exact ⟨by simp only [List.mem_cons,List.mem_flatMap];exact .inr ⟨a,ha,this.1⟩,this.2⟩
theorem CA {K:Int→Prop} {t:Ty} (h:t.Kn K) (h1:¬K 1) (hO:t.Ok):Good [] t:=⟨hO,h.wf,by
 intro y hy
 obtain ⟨a,b⟩:=Jl y hy
 have:=(h.nodes y a (by rw [b];decide)).1
 rw [b] at this
 exact absurd this h1⟩
end Go.Ab.Lw
namespace Go.Ab.Lw
open Ev
theorem ym (t:Ty):t.sub []=t:=by
 refine Ty.eD (p:=fun t=>t.sub []=t) ?_ t
 intro t ih
 rw [Ty.sub_eq]
 split
 · simp [ki]
 · have:t.args.map (Ty.sub [])=t.args:=by
     conv=>rhs;rw [←List.map_id t.args]
     exact List.map_congr_left fun x hx=>by simpa using ih x hx
   rw [this]
   cases t;rfl
def vp:List AV:=[.pv (.aD []),.pv (.aD [])]
theorem MA {g:Ty} (hg:ck g) {ds:List Dt} {E:List En} (hE:Sm E) (hc:∀x∈E,km x.sc) {T:Nat} (hT:T≤1000000):∀(n i:Nat),E.length-i=n→i≤E.length→∀acc:List Hd,acc.length+4*n≤T→(∀h∈acc,rS h) →
   ∃hs:List Hd,hs.length≤T∧(∀h∈hs,rS h)∧cl AP g362L0 ⟨[(0,.pv (.aD (ds.map Dt.pv))),(4,.pv (vI 3)),(14,.az 14 0),(15,.pv (.aD [])),(16,.az 16 0),(17,.own (acc.map Hd.pv) 0),(18,.pv (.aD (E.map En.pv))),(19,.pv (vI i))],[(14,vp),(16,tC g)],[],[acc.length]⟩ =
     some (.exit 0,⟨[(0,.pv (.aD (ds.map Dt.pv))),(4,.pv (vI 3)),(14,.az 14 0),(15,.pv (.aD [])),(16,.az 16 0),(17,.own (hs.map Hd.pv) 0),(18,.pv (.aD (E.map En.pv))),(19,.pv (vI E.length)),(51,.pv (.bool false))],[(14,vp),(16,tC g)],[],[hs.length]⟩)
 | 0,i,hn,hi,acc,ha,ho=>by
   have:i=E.length:=by omega
   subst this
   refine ⟨acc,by omega,ho,?_⟩
   rw [g362L0e]
   simp [g362B0,vp,tC]
 | n+1,i,hn,hi,acc,ha,ho=>by
   have hi:i<E.length:=by omega
   obtain ⟨x,hx⟩:=bn hi
   have hs:=hc x (bo hx)
   obtain ⟨K,El⟩:=hs.Q5 hg
   obtain ⟨l,q1,q2,k2⟩:=c378 El (nm:=x.name) (cn:=false)
   have k1:=c377 (s:=[]) (by simp [Sm]) hs.ok
   rw [ym] at k1
   obtain ⟨hs,h1,h2,e'⟩:=MA hg (ds:=ds) hE hc hT n (i+1) (by omega) (by omega) (acc++l) (by simp;omega) (by
     intro h hh;simp at hh;rcases hh with hh | hh
     · exact ho h hh
     · exact q2 h hh)
   refine ⟨hs,h1,h2,?_⟩
   unfold Sm at hE
   have hb:(acc.length+l.length)*72≤140737488355328:=by omega
   have hb0:acc.length*72≤140737488355328:=by omega
   have hh:=Jj.head l
   rw [g362L0e] at e' ⊢
   simp [vp,tC] at e'
   simp [sB] at k1 k2 hh
   by_cases z:l=[]
   · subst z
     simp at k2 e'
     simp (disch:=omega) [-getElem?_pos,g362B0,vp,tC,hx,hi,k1,k2,hb0,aq]
     rw [g362L0e]
     simp [e']
   · simp (disch:=omega) [-getElem?_pos,g362B0,vp,tC,hx,hi,k1,k2,hb,hh,z,aq]
     rw [g362L0e]
     simp [e']
theorem MB {g:Ty} (hg:ck g) {ds:List Dt} (hD:pP ds) {I:Nat} {d:Dt} (hd:ds[I]?=some d) {T:Nat} (hT:T≤1000000):∀(n i:Nat),d.cons.length-i=n→i≤d.cons.length→∀acc:List Hd,acc.length+4*n≤T→(∀h∈acc,rS h) →
   ∃hs:List Hd,hs.length≤T∧(∀h∈hs,rS h)∧cl AP g362L2 ⟨[(0,.pv (.aD (ds.map Dt.pv))),(4,.pv (vI 3)),(14,.az 14 0),(15,.pv (.aD [])),(16,.az 16 0),(17,.own (acc.map Hd.pv) 0),(21,.pv (vI I)),(22,.pv (vI i))],[(14,vp),(16,tC g)],[],[acc.length]⟩ =
     some (.exit 4,⟨[(0,.pv (.aD (ds.map Dt.pv))),(4,.pv (vI 3)),(14,.az 14 0),(15,.pv (.aD [])),(16,.az 16 0),(17,.own (hs.map Hd.pv) 0),(21,.pv (vI I)),(22,.pv (vI d.cons.length)),(88,.pv (.bool false))],[(14,vp),(16,tC g)],[],[hs.length]⟩)
 | 0,i,hn,hi,acc,ha,ho=>by
   have:i=d.cons.length:=by omega
   subst this
   refine ⟨acc,by omega,ho,?_⟩
   have hI:=(List.getElem?_eq_some_iff.1 hd).1
   rw [g362L2e]
   simp [-getElem?_pos,g362B2,vp,tC,hd,hI]
 | n+1,i,hn,hi,acc,ha,ho=>by
   have hi:i<d.cons.length:=by omega
   have hI:=(List.getElem?_eq_some_iff.1 hd).1
   obtain ⟨c,hc⟩:=bn hi
   have k1:=hD.c193 (s:=c.name)
   have hs:=FQ hD.all (s:=c.name)
   have hc8:=(d3 d (hD.all d (bo hd))).2.1
   generalize hsc:(pH ds c.name).getD mA=sc at *
   obtain ⟨K,El⟩:=hs.Q5 hg
   obtain ⟨l,q1,q2,k2⟩:=c378 El (nm:=c.name) (cn:=true)
   obtain ⟨hs,h1,h2,e'⟩:=MB hg hD hd hT n (i+1) (by omega) (by omega) (acc++l) (by simp;omega) (by
     intro h hh;simp at hh;rcases hh with hh | hh
     · exact ho h hh
     · exact q2 h hh)
   refine ⟨hs,h1,h2,?_⟩
   have hb:(acc.length+l.length)*72≤140737488355328:=by omega
   have hb0:acc.length*72≤140737488355328:=by omega
   have hh:=Jj.head l
   rw [g362L2e] at e' ⊢
   simp [vp,tC] at e'
   simp [sB] at k2 hh
   simp [K3,hsc] at k1
   by_cases z:l=[]
   · subst z
     simp at k2 e'
     simp (disch:=omega) [-getElem?_pos,g362B2,vp,tC,hd,hI,hc,hi,k1,k2,hb0,aq]
     rw [g362L2e]
     simp [e']
   · simp (disch:=omega) [-getElem?_pos,g362B2,vp,tC,hd,hI,hc,hi,k1,k2,hb,hh,z,aq]
     rw [g362L2e]
     simp [e']
theorem MC {g:Ty} (hg:ck g) {ds:List Dt} (hD:pP ds) {T:Nat} (hT:T≤1000000):∀(n i:Nat),ds.length-i=n→i≤ds.length→∀acc:List Hd,acc.length+32*n≤T→(∀h∈acc,rS h) →
   ∃hs:List Hd,hs.length≤T∧(∀h∈hs,rS h)∧cl AP g362L1 ⟨[(0,.pv (.aD (ds.map Dt.pv))),(4,.pv (vI 3)),(14,.az 14 0),(15,.pv (.aD [])),(16,.az 16 0),(17,.own (acc.map Hd.pv) 0),(21,.pv (vI i))],[(14,vp),(16,tC g)],[],[acc.length]⟩ =
     some (.exit 2,⟨[(0,.pv (.aD (ds.map Dt.pv))),(4,.pv (vI 3)),(14,.az 14 0),(15,.pv (.aD [])),(16,.az 16 0),(17,.own (hs.map Hd.pv) 0),(21,.pv (vI ds.length)),(78,.pv (.bool false))],[(14,vp),(16,tC g)],[],[hs.length]⟩)
 | 0,i,hn,hi,acc,ha,ho=>by
   have:i=ds.length:=by omega
   subst this
   refine ⟨acc,by omega,ho,?_⟩
   rw [g362L1e]
   simp [g362B1,vp,tC]
 | n+1,i,hn,hi,acc,ha,ho=>by
   have hi:i<ds.length:=by omega
   obtain ⟨d,hd⟩:=bn hi
   have hc8:=(d3 d (hD.all d (bo hd))).2.1
   obtain ⟨l,q1,q2,e⟩:=MB hg hD hd (T:=acc.length+32) (by omega) _ 0 rfl (by omega) acc (by omega) ho
   obtain ⟨hs,h1,h2,e'⟩:=MC hg hD hT n (i+1) (by omega) (by omega) l (by omega) q2
   refine ⟨hs,h1,h2,?_⟩
   have hl:=hD.len
   rw [g362L1e] at e' ⊢
   rw [g362L2e] at e
   simp [vp,tC] at e' e
   simp (disch:=omega) [-getElem?_pos,g362B1,vp,tC,hd,hi,aq]
   rw [g362L2e]
   simp (disch:=omega) [e,aq]
   rw [g362L1e]
   simp [e']
theorem c362 {g:Ty} (hg:ck g) {ds:List Dt} (hD:pP ds) {l:List En} (hl:l.length≤10000) (hc:∀x∈l,km x.sc):∃hs:List Hd,hs.length≤100000∧(∀h∈hs,rS h) ∧
   (aN AP).p 362 [.aD (ds.map Dt.pv),.aD (l.map En.pv),g.pv,.aD [],vI 3]=some [.aD (hs.map Hd.pv)]:=by
 obtain ⟨a,b,c,k1,_⟩:=c194g hg.ok
 have hdl:=hD.len
 cases c with
 | true=>
   refine ⟨[],by simp,by simp,?_⟩
   simp at k1
   rw [au (af:=g362) rfl rfl (by decide)]
   simp [g362,k1]
 | false=>
   have hsub:∀x∈dD l,km x.sc:=fun x hx=>hc x (rB l x hx)
   have hsl:=rC l
   obtain ⟨vs,hv,_,k2⟩:=c376 (S:=[]) (by simp) (by simp) (CA hg.kn (by simp) hg.ok) (l:=l) (by unfold Sm;omega) (by omega) (fun x hx=>CA (hc x hx).kn (by simp) (hc x hx).ok)
   have hv0:vs=[]:=by
     rw [hv]
     refine Lt ?_
     intro t ht
     simp only [List.mem_cons,List.mem_map] at ht
     rcases ht with rfl | ⟨x,hx,rfl⟩
     · exact ⟨KG,hg.kn,by simp⟩
     · exact ⟨KC,(hsub x hx).kn,by simp⟩
   subst hv0
   have k3:=c46 (s:=[]) (by simp [Sm]) hg.ok
   rw [ym] at k3
   have k4:=c201 (l:=l) (by unfold Sm;omega)
   obtain ⟨o1,a1,a2,h1⟩:=MA hg (ds:=ds) (E:=dD l) (by unfold Sm;omega) hsub (T:=40000) (by omega) _ 0 rfl (by omega) [] (by simp;omega) (by simp)
   obtain ⟨o2,b1,b2,h2⟩:=MC hg hD (T:=100000) (by omega) _ 0 rfl (by omega) o1 (by omega) a2
   refine ⟨o2,b1,b2,?_⟩
   rw [g362L0e] at h1
   rw [g362L1e] at h2
   generalize dD l=E at *
   simp [vp,tC] at h1 h2
   simp at k1 k3 k4
   simp [sB,gF] at k2
   rw [au (af:=g362) rfl rfl (by decide)]
   simp [g362,k1,k2,k3,k4,g362L0e,h1,g362L1e,h2]
end Go.Ab.Lw
namespace Go.Ab.Lw
open Ev
def m6:List AV:=[.pv (vI 0),.pv (vI 0),.pv (.str []),.pv (vI 0),.own [] 0,.own [] 1,.pv (vI 0),.pv (.str []),.pv (vI 0),.pv (vI 0),.own [] 2]
def qb (d:Dt):List AV:=[.pv (vI d.pos),.pv (.str d.name),.pv (.aD (d.params.map .str)),.pv (.aD (d.cons.map fW.pv))]
def Lu (a:Ex) (as:List Ar):List AV:=[.pv (vI 8),.pv (vI 0),.pv (.str []),.pv (vI 0),.own [a.pv] 3,.own (as.map Ar.pv) 4,.pv (vI 0),.pv (.str []),.pv (vI 0),.pv (vI 0),.own [] 5]
def PQ (c:fW) (vs:List bV):List AV:=[.pv (vI 0),.pv (.str c.name),.own (vs.map .str) 6,.pv (vI 0),.pv (vI 0),.pv (.str []),.pv (vI 0),.own [] 7,.own [] 8,.pv (vI 0),.pv (.str []),.pv (vI 0),.pv (vI 0),.own [] 9]
def BR (ds:List Dt) (dep:Nat) (d:Dt) (as:List Ar):Prop:=
 (∀x∈as,fF ds dep x.body)∧(∀x∈as,x.pos=0∧∀v∈x.vars,v∈mG)∧(∀(i:Nat) (c:fW) (x:Ar),d.cons[i]?=some c→as[i]?=some x→x.d7=c.name∧x.vars.length=c.fields.length)
end Go.Ab.Lw
namespace Go.Ab.Lw
open Ev
structure Tape (L:List Int) (tm:Nat) (TP:Int→Sh):Prop where
 get:∀i,(TP i)[tm]?=some (some [.pv (.aD (L.map vI)),.pv (vI i)])
 set:∀i j,(TP i).set tm (some [.pv (.aD (L.map vI)),.pv (vI j)])=TP j
 quiet:∀i,bq (TP i)
theorem Tape.norm {L:List Int} {tm:Nat} {TP:Int→Sh} (h:Tape L tm TP):∀i aW ts,b_ aW ts (TP i)=(TP i,aW,ts):=fun i=>(h.quiet i).norm
theorem Tape.shift {L:List Int} {tm:Nat} {TP:Int→Sh} (h:Tape L tm TP):∀i n,fK n (TP i)=TP i:=fun i=>(h.quiet i).shift
theorem Tape.take {L:List Int} {tm:Nat} {TP:Int→Sh} (h:Tape L tm TP):∀i j,(TP j).take (TP i).length=TP j:=by
 intro i j
 refine List.take_of_length_le ?_
 rw [←h.set i j,List.length_set]
 exact Nat.le_refl _
theorem CB {L:List Int} {A B:Sh} (hA:bq A) (hB:bq B):Tape L A.length (fun i=>A++[some [.pv (.aD (L.map vI)),.pv (vI i)]]++B) where
 get:=fun i=>by simp
 set:=fun i j=>by simp [List.set_append]
 quiet:=fun i=>(hA.app (bq.one (by intro v hv;simp at hv;rcases hv with rfl | rfl<;>exact ⟨_,rfl⟩))).app hB
theorem mJ {L:List Int} {tm:Nat} {TP:Int→Sh} (hT:Tape L tm TP) (hL:Sm L) {i:Nat} (hi:i≤L.length) {n:Int} (h1:1≤n) (h2:n<4611686018427387904) :
   ∃(r:Int) (j:Nat),(aN AP).i 68 [.a_ tm 0,.pv (vI n)] (TP i) []=some ([.pv (vI r)],TP j,[])∧0≤r∧r<n∧j≤L.length:=by
 unfold Sm at hL
 have tn:=hT.norm
 have tsh:=hT.shift
 have tg:=hT.get
 have tset:=hT.set
 have tl:=hT.take
 rw [aR (af:=g68) rfl (by simp [g68])]
 by_cases h:i<L.length
 · obtain ⟨x,hx⟩:=bn h
   obtain ⟨r,e,e1,e2⟩:=c26 (n:=x) h1 h2
   refine ⟨r,i+1,?_,e1,e2,h⟩
   have h':¬L.length≤i:=by omega
   simp (disch:=omega) [-getElem?_pos,g68,h',aq,hx,e,tn,tsh,tg,tset,tl]
 · have h':L.length≤i:=by omega
   refine ⟨0,i,?_,by omega,by omega,hi⟩
   simp [-getElem?_pos,g68,h',tn,tsh,tg,tset,tl]
theorem FR {L:List Int} {tm:Nat} {TP:Int→Sh} (hT:Tape L tm TP) (hL:Sm L) {i:Nat} (hi:i≤L.length):∃(s:List UInt8) (j:Nat),(aN AP).i 175 [.a_ tm 0] (TP i) []=some ([.pv (.str s)],TP j,[])∧s∈varNames∧j≤L.length:=by
 have tn:=hT.norm
 have tsh:=hT.shift
 have tl:=hT.take
 obtain ⟨k,j,e,k0,k8,hj⟩:=mJ hT hL hi (n:=8) (by omega) (by omega)
 obtain ⟨m,rfl,hm⟩:=mz (n:=varNames.length) k0 (by simpa [varNames] using k8)
 obtain ⟨s,hs⟩:=bn hm
 refine ⟨s,j,?_,bo hs,hj⟩
 try simp [tn,tsh,tl] at e
 rw [aR (af:=g175) rfl (by simp [tn,tsh,tl,g175])]
 have hs':([PV.str [120],.str [121],.str [122],.str [102],.str [103],.str [118,49],.str [118,50],.str [105,100]]:List PV)[m]?=some (.str s):=by
   have:([PV.str [120],.str [121],.str [122],.str [102],.str [103],.str [118,49],.str [118,50],.str [105,100]]:List PV)=varNames.map PV.str:=rfl
   rw [this];simp [tn,tsh,tl,hs]
 simp [tn,tsh,tl,-getElem?_pos,g175,e,hs']
def nM (L:List Int) (tm:Nat) (TP:Int→Sh) (ds:List Dt) (lv:List Ty) (dep:Nat):Prop:=∀i:Nat,i≤L.length→∃(t:Ty) (j:Nat),
 (aN AP).i 27 [.a_ tm 0,.pv (.aD (ds.map Dt.pv)),.pv (.aD (lv.map Ty.pv)),.pv (vI dep)] (TP i) []=some ([t.av],TP j,[])∧gv (·∈ds) lv dep t∧j≤L.length
theorem PR {L:List Int} {tm:Nat} {TP:Int→Sh} (hT:Tape L tm TP) {ds:List Dt} {lv:List Ty} {dep:Nat} (hdep:dep<1000) (hg:nM L tm TP ds lv dep) {d:Dt} (hS:Sm d.params):∀(n k:Nat),d.params.length-k=n→k≤d.params.length→∀(acc:List Ty) (i:Nat),acc.length=k→(∀x∈acc,gv (·∈ds) lv dep x)→i≤L.length →
   ∃(r:List Ty) (j:Nat),cl AP g27L0 ⟨[(0,.a_ tm 0),(1,.pv (.aD (ds.map Dt.pv))),(2,.pv (.aD (lv.map Ty.pv))),(3,.pv (vI (dep+1))),(8,.az 8 0),(10,.az 10 0),(11,.own (acc.map Ty.pv) 0),(12,.pv (vI k))],
     [(8,[.pv (vI 0),.pv (.str []),.pv (vI 0),.pv (vI 0),.own [] 1]),(10,[.pv (vI d.pos),.pv (.str d.name),.pv (.aD (d.params.map .str)),.pv (.aD (d.cons.map fW.pv))])],TP i,[acc.length,0]⟩ =
     some (.exit 1,⟨[(0,.a_ tm 0),(1,.pv (.aD (ds.map Dt.pv))),(2,.pv (.aD (lv.map Ty.pv))),(3,.pv (vI (dep+1))),(8,.az 8 0),(10,.az 10 0),(11,.own (r.map Ty.pv) 0),(12,.pv (vI d.params.length)),(65,.pv (.bool false))],
     [(8,[.pv (vI 0),.pv (.str []),.pv (vI 0),.pv (vI 0),.own [] 1]),(10,[.pv (vI d.pos),.pv (.str d.name),.pv (.aD (d.params.map .str)),.pv (.aD (d.cons.map fW.pv))])],TP j,[r.length,0]⟩) ∧
     r.length=d.params.length∧(∀x∈r,gv (·∈ds) lv dep x)∧j≤L.length
 | 0,k,hn,hk,acc,i,ha,hm,hi=>by
   have tn:=hT.norm
   have tsh:=hT.shift
   have tl:=hT.take
   have:k=d.params.length:=by omega
   subst this
   refine ⟨acc,i,?_,ha,hm,hi⟩
   rw [g27L0e]
   simp [tn,tsh,tl,g27B0]
 | n+1,k,hn,hk,acc,i,ha,hm,hi=>by
   have tn:=hT.norm
   have tsh:=hT.shift
   have tl:=hT.take
   unfold Sm at hS
   have hk:k<d.params.length:=by omega
   have hb:(acc.length+1)*64≤140737488355328:=by omega
   obtain ⟨t,j,e,mt,hj⟩:=hg i hi
   try simp [tn,tsh,tl] at e
   obtain ⟨r,j',e',hr,hm',hj'⟩:=PR hT hdep hg hS n (k+1) (by omega) (by omega) (acc++[t]) j (by simp;omega) (by
     intro x hx;simp at hx;rcases hx with hx | rfl
     · exact hm x hx
     · exact mt) hj
   try simp [tn,tsh,tl] at e'
   refine ⟨r,j',?_,hr,hm',hj'⟩
   rw [g27L0e]
   have h1:(dep:Int)+1-1=dep:=by omega
   simp (disch:=omega) [tn,tsh,tl,-getElem?_pos,g27B0,hk,aq,h1,e,hb]
   rw [e']
theorem PS {L:List Int} {tm:Nat} {TP:Int→Sh} (hT:Tape L tm TP) (hL:Sm L) {ds:List Dt} {lv:List Ty} (hlv:Sm lv):nM L tm TP ds lv 0:=by
 have tn:=hT.norm
 have tsh:=hT.shift
 have tl:=hT.take
 intro i hi
 obtain ⟨k,j1,e1,k0,k7,hj1⟩:=mJ hT hL hi (n:=7) (by omega) (by omega)
 try simp [tn,tsh,tl] at e1
 unfold Sm at hlv
 by_cases h1:k<3
 · by_cases h2:lv=[]
   · subst h2
     refine ⟨bw,j1,?_,.int,hj1⟩
     have c:=c34
     try simp [tn,tsh,tl] at c
     rw [aR (af:=g27) rfl (by simp [tn,tsh,tl,g27])]
     simp [tn,tsh,tl,-getElem?_pos,g27,e1,h1,c,bw]
   · have hp:0<lv.length:=List.length_pos_iff.2 h2
     obtain ⟨r,j2,e2,r0,r1,hj2⟩:=mJ hT hL hj1 (n:=lv.length) (by omega) (by omega)
     obtain ⟨m,rfl,hm⟩:=mz r0 r1
     obtain ⟨x,hx⟩:=bn hm
     try simp [tn,tsh,tl] at e2
     refine ⟨x,j2,?_,.leaf (bo hx),hj2⟩
     rw [aR (af:=g27) rfl (by simp [tn,tsh,tl,g27])]
     simp [tn,tsh,tl,-getElem?_pos,g27,e1,h1,hp,e2,hx]
 · refine ⟨bw,j1,?_,.int,hj1⟩
   have c:=c34
   try simp [tn,tsh,tl] at c
   rw [aR (af:=g27) rfl (by simp [tn,tsh,tl,g27])]
   simp [tn,tsh,tl,-getElem?_pos,g27,e1,h1,c,bw]
theorem PT {L:List Int} {tm:Nat} {TP:Int→Sh} (hT:Tape L tm TP) (hL:Sm L) {ds:List Dt} (hds:ds.length≤20) (hda:∀d∈ds,d.params.length≤8) {lv:List Ty} (hlv:Sm lv) {dep:Nat} (hdep:dep<1000) (hg:nM L tm TP ds lv dep):nM L tm TP ds lv (dep+1):=by
 have tn:=hT.norm
 have tsh:=hT.shift
 have tl:=hT.take
 intro i hi
 obtain ⟨k,j1,e1,k0,k7,hj1⟩:=mJ hT hL hi (n:=7) (by omega) (by omega)
 try simp [tn,tsh,tl] at e1
 unfold Sm at hlv
 have hd1:¬((dep:Int)+1<1):=by omega
 have hd2:(dep:Int)+1-1=dep:=by omega
 have leafCase:∀h1:k<3,∀h2:¬lv=[],∃(t:Ty) (j:Nat),(aN AP).i 27 [.a_ tm 0,.pv (.aD (ds.map Dt.pv)),.pv (.aD (lv.map Ty.pv)),.pv (vI ((dep+1:Nat):Int))] (TP i) []=some ([t.av],TP j,[])∧gv (·∈ds) lv (dep+1) t∧j≤L.length:=by
   intro h1 h2
   have hp:0<lv.length:=List.length_pos_iff.2 h2
   obtain ⟨r,j2,e2,r0,r1,hj2⟩:=mJ hT hL hj1 (n:=lv.length) (by omega) (by omega)
   obtain ⟨m,rfl,hm⟩:=mz r0 r1
   obtain ⟨x,hx⟩:=bn hm
   try simp [tn,tsh,tl] at e2
   refine ⟨x,j2,?_,.leaf (bo hx),hj2⟩
   rw [aR (af:=g27) rfl (by simp [tn,tsh,tl,g27])]
   simp [tn,tsh,tl,-getElem?_pos,g27,e1,h1,hp,e2,hx]
 by_cases h1:k<3∧¬lv=[]
 · exact leafCase h1.1 h1.2
 · have h1':¬k<3∨lv=[]:=by
     by_cases h:k<3
     · right;by_cases h':lv=[]
       · exact h'
       · exact absurd ⟨h,h'⟩ h1
     · exact .inl h
   by_cases h2:k<4
   · refine ⟨bw,j1,?_,.int,hj1⟩
     have c:=c34
     try simp [tn,tsh,tl] at c
     rw [aR (af:=g27) rfl (by simp [tn,tsh,tl,g27])]
     rcases h1' with h | h
     · simp [tn,tsh,tl,-getElem?_pos,g27,e1,h,h2,c,bw]
     · subst h
       simp [tn,tsh,tl,-getElem?_pos,g27,e1,h2,c,bw]
   · have h3:¬k<3:=by omega
     by_cases h4:(k=4∨k=5)∧¬ds=[]
     · obtain ⟨h4,h5⟩:=h4
       have hp:0<ds.length:=List.length_pos_iff.2 h5
       obtain ⟨r,j2,e2,r0,r1,hj2⟩:=mJ hT hL hj1 (n:=ds.length) (by omega) (by omega)
       obtain ⟨m,rfl,hm⟩:=mz r0 r1
       obtain ⟨d,hx⟩:=bn hm
       try simp [tn,tsh,tl] at e2
       have hdm:=bo hx
       have hps:Sm d.params:=by
         unfold Sm
         have:=hda d hdm
         omega
       obtain ⟨as,j3,e3,ha,hm3,hj3⟩:=PR hT hdep hg hps d.params.length 0 rfl (by omega) [] j2 rfl (by simp) hj2
       rw [g27L0e] at e3
       try simp [tn,tsh,tl] at e3
       have hsa:Sm as:=by unfold Sm at hps ⊢;omega
       have c:=c62 (s:=d.name) (l:=as) hsa
       try simp [tn,tsh,tl] at c
       refine ⟨⟨4,d.name,0,0,as⟩,j3,?_,.d7 hdm ha hm3,hj3⟩
       rw [aR (af:=g27) rfl (by simp [tn,tsh,tl,g27])]
       rcases h4 with rfl | rfl
       · simp [tn,tsh,tl,-getElem?_pos,g27,e1,hp,hd1,e2,hx,g27L0e,e3,c]
       · simp [tn,tsh,tl,-getElem?_pos,g27,e1,hp,hd1,e2,hx,g27L0e,e3,c]
     · obtain ⟨a,j2,ea,ma,hj2⟩:=hg j1 hj1
       obtain ⟨b,j3,eb,mb,hj3⟩:=hg j2 hj2
       try simp [tn,tsh,tl] at ea eb
       have c:=c69 (a:=a) (b:=b)
       try simp [tn,tsh,tl] at c
       refine ⟨⟨4,[45,62],0,0,[a,b]⟩,j3,?_,.arrow ma mb,hj3⟩
       rw [aR (af:=g27) rfl (by simp [tn,tsh,tl,g27])]
       by_cases h5:ds=[]
       · subst h5
         try simp [tn,tsh,tl] at ea eb
         simp (disch:=omega) [tn,tsh,tl,-getElem?_pos,g27,e1,h2,h3,hd1,hd2,aq,ea,eb,c]
       · have h6:¬k=4∧¬k=5:=by
           constructor
           · intro h;exact h4 ⟨.inl h,h5⟩
           · intro h;exact h4 ⟨.inr h,h5⟩
         simp (disch:=omega) [tn,tsh,tl,-getElem?_pos,g27,e1,h2,h3,h6.1,h6.2,hd1,hd2,aq,ea,eb,c]
theorem NJ {L:List Int} {tm:Nat} {TP:Int→Sh} (hT:Tape L tm TP) (hL:Sm L) {ds:List Dt} (hds:ds.length≤20) (hda:∀d∈ds,d.params.length≤8) {lv:List Ty} (hlv:Sm lv):∀dep:Nat,dep<1000→nM L tm TP ds lv dep
 | 0,_=>PS hT hL hlv
 | dep+1,h=>PT hT hL hds hda hlv (by omega) (NJ hT hL hds hda hlv dep (by omega))
def qc (L:List Int) (tm:Nat) (TP:Int→Sh) (ds:List Dt) (dep:Nat):Prop:=∀i:Nat,i≤L.length→∃(e:Ex) (fk fa fg:Bool) (j:Nat),
 (aN AP).i 247 [.a_ tm 0,.pv (.aD (ds.map Dt.pv)),.pv (vI dep)] (TP i) []=some ([.agg (d9 fk fa fg e)],TP j,[])∧fF ds dep e∧j≤L.length
theorem tH {L:List Int} {tm:Nat} {TP:Int→Sh} (hT:Tape L tm TP) (hL:Sm L) {ds:List Dt} (hds:ds.length≤8) (hD:∀d∈ds,D8 d) {dep:Nat} {i j1:Nat} {k:Int} (hj1:j1≤L.length)
   (e1:(aN AP).i 68 [.a_ tm 0,.pv (vI 14)] (TP i) []=some ([.pv (vI k)],TP j1,[])) (k0:0≤k) (hk:if dep=0 then True else k<5) :
   ∃(e:Ex) (fk fa fg:Bool) (j:Nat),(aN AP).i 247 [.a_ tm 0,.pv (.aD (ds.map Dt.pv)),.pv (vI dep)] (TP i) []=some ([.agg (d9 fk fa fg e)],TP j,[])∧fF ds dep e∧j≤L.length:=by
 have tn:=hT.norm
 have tsh:=hT.shift
 have tl:=hT.take
 try simp [tn,tsh,tl] at e1
 obtain ⟨r,hr,hr0,hr1⟩:∃r:Int,(if dep=0 then k.tmod 5 else k)=r∧0≤r∧r<5:=by
   by_cases h:dep=0
   · refine ⟨k.tmod 5,by simp [tn,tsh,tl,h],?_,?_⟩
     · exact Int.tmod_nonneg 5 k0
     · exact Int.tmod_lt_of_pos k (by omega)
   · simp [tn,tsh,tl,h] at hk
     exact ⟨k,by simp [tn,tsh,tl,h],k0,hk⟩
 have hcase:r=0∨r=1∨r=2∨r=3∨r=4:=by omega
 have hd:dep=0∧k.tmod 5=r∨¬((dep:Int)<1)∧k=r:=by
   by_cases h:dep=0
   · simp [tn,tsh,tl,h] at hr;exact .inl ⟨h,hr⟩
   · simp [tn,tsh,tl,h] at hr;exact .inr ⟨by omega,hr⟩
 clear hr
 have hvar:r=0∨r=1→∃(e:Ex) (fk fa fg:Bool) (j:Nat),(aN AP).i 247 [.a_ tm 0,.pv (.aD (ds.map Dt.pv)),.pv (vI dep)] (TP i) []=some ([.agg (d9 fk fa fg e)],TP j,[])∧fF ds dep e∧j≤L.length:=by
   intro h
   obtain ⟨s,j,e2,hs,hj⟩:=FR hT hL hj1
   try simp [tn,tsh,tl] at e2
   refine ⟨⟨1,0,s,0,[],[],bR⟩,true,true,true,j,?_,.var hs,hj⟩
   rw [aR (af:=g247) rfl (by simp [tn,tsh,tl,g247])]
   rcases h with rfl | rfl<;>rcases hd with ⟨rfl,h2⟩ | ⟨h1,rfl⟩
   · simp [tn,tsh,tl,g247,e1,h2,e2,d9,ga,bR]
   · simp [tn,tsh,tl,g247,e1,h1,e2,d9,ga,bR]
   · simp [tn,tsh,tl,g247,e1,h2,e2,d9,ga,bR]
   · simp [tn,tsh,tl,g247,e1,h1,e2,d9,ga,bR]
 rcases hcase with rfl | rfl | rfl | rfl | rfl
 · exact hvar (.inl rfl)
 · exact hvar (.inr rfl)
 · obtain ⟨m,j,e2,m0,m4,hj⟩:=mJ hT hL hj1 (n:=4) (by omega) (by omega)
   try simp [tn,tsh,tl] at e2
   refine ⟨⟨3,0,[],m,[],[],bR⟩,true,true,true,j,?_,.int m0 m4,hj⟩
   rw [aR (af:=g247) rfl (by simp [tn,tsh,tl,g247])]
   rcases hd with ⟨rfl,h2⟩ | ⟨h1,rfl⟩
   · simp [tn,tsh,tl,g247,e1,h2,e2,d9,ga,bR]
   · simp [tn,tsh,tl,g247,e1,h1,e2,d9,ga,bR]
 · by_cases h0:ds=[]
   · subst h0
     refine ⟨⟨2,0,[71,111,110,101],0,[],[],bR⟩,true,true,true,j1,?_,.gone,hj1⟩
     rw [aR (af:=g247) rfl (by simp [tn,tsh,tl,g247])]
     rcases hd with ⟨rfl,h2⟩ | ⟨h1,rfl⟩
     · simp [tn,tsh,tl,g247,e1,h2,d9,ga,bR]
     · simp [tn,tsh,tl,g247,e1,h1,d9,ga,bR]
   · have hp:0<ds.length:=List.length_pos_iff.2 h0
     obtain ⟨n,j2,e2,n0,n1,hj2⟩:=mJ hT hL hj1 (n:=ds.length) (by omega) (by omega)
     obtain ⟨m,rfl,hm⟩:=mz n0 n1
     obtain ⟨d,hx⟩:=bn hm
     obtain ⟨_,hc0,hc8,_⟩:=hD d (bo hx)
     obtain ⟨n',j3,e3,n0',n1',hj3⟩:=mJ hT hL hj2 (n:=d.cons.length) (by omega) (by omega)
     obtain ⟨m',rfl,hm'⟩:=mz n0' n1'
     obtain ⟨c,hy⟩:=bn hm'
     try simp [tn,tsh,tl] at e2 e3
     refine ⟨⟨2,0,c.name,0,[],[],bR⟩,true,true,true,j3,?_,.d7 (bo hx) (bo hy),hj3⟩
     rw [aR (af:=g247) rfl (by simp [tn,tsh,tl,g247])]
     rcases hd with ⟨rfl,h2⟩ | ⟨h1,rfl⟩
     · simp [tn,tsh,tl,-getElem?_pos,g247,e1,h2,e2,e3,hp,hx,hy,d9,ga,bR]
     · simp [tn,tsh,tl,-getElem?_pos,g247,e1,h1,e2,e3,hp,hx,hy,d9,ga,bR]
 · refine ⟨⟨10,0,[],0,[],[],bR⟩,true,true,true,j1,?_,.hole,hj1⟩
   rw [aR (af:=g247) rfl (by simp [tn,tsh,tl,g247])]
   rcases hd with ⟨rfl,h2⟩ | ⟨h1,rfl⟩
   · simp [tn,tsh,tl,g247,e1,h2,d9,ga,bR]
   · simp [tn,tsh,tl,g247,e1,h1,d9,ga,bR]
theorem FT {L:List Int} {tm:Nat} {TP:Int→Sh} (hT:Tape L tm TP) (hL:Sm L) {ds:List Dt} (hds:ds.length≤8) (hD:∀d∈ds,D8 d) {dep:Nat} (hdep:dep<1000) (hg:qc L tm TP ds dep) {i j1:Nat} {k:Int} (hj1:j1≤L.length)
   (e1:(aN AP).i 68 [.a_ tm 0,.pv (vI 14)] (TP i) []=some ([.pv (vI k)],TP j1,[])) (k5:5≤k) (k12:k≤12) :
   ∃(e:Ex) (fk fa fg:Bool) (j:Nat),(aN AP).i 247 [.a_ tm 0,.pv (.aD (ds.map Dt.pv)),.pv (vI (dep+1:Nat))] (TP i) []=some ([.agg (d9 fk fa fg e)],TP j,[])∧fF ds (dep+1) e∧j≤L.length:=by
 have tn:=hT.norm
 have tsh:=hT.shift
 have tl:=hT.take
 try simp [tn,tsh,tl] at e1
 have h1:¬((dep:Int)+1<1):=by omega
 have h2:(dep:Int)+1-1=dep:=by omega
 have hc:k=5∨k=6∨k=7∨k=8∨k=9∨k=10∨k=11∨k=12:=by omega
 have hlam:k=5∨k=6→∃(e:Ex) (fk fa fg:Bool) (j:Nat),(aN AP).i 247 [.a_ tm 0,.pv (.aD (ds.map Dt.pv)),.pv (vI (dep+1:Nat))] (TP i) []=some ([.agg (d9 fk fa fg e)],TP j,[])∧fF ds (dep+1) e∧j≤L.length:=by
   intro h
   obtain ⟨s,j2,e2,hs,hj2⟩:=FR hT hL hj1
   obtain ⟨a,f1,f2,f3,j3,e3,ha,hj3⟩:=hg j2 hj2
   have hA:=d6 f1 f2 f3 a
   generalize d9 f1 f2 f3 a=A at e3 hA
   try simp [tn,tsh,tl] at e2 e3
   refine ⟨⟨4,0,s,0,[a],[],bR⟩,true,true,true,j3,?_,.lam hs ha,hj3⟩
   rw [aR (af:=g247) rfl (by simp [tn,tsh,tl,g247])]
   have ac:=Ex.bG a
   rcases h with rfl | rfl<;>simp (disch:=omega) [tn,tsh,tl,g247,e1,h1,h2,aq,e2,e3,hA.c_,hA.flat,hA.h_,hA.len,hA.leaf,ac,d9,ga,bR]
 have happ:k=7∨k=8∨k=9→∃(e:Ex) (fk fa fg:Bool) (j:Nat),(aN AP).i 247 [.a_ tm 0,.pv (.aD (ds.map Dt.pv)),.pv (vI (dep+1:Nat))] (TP i) []=some ([.agg (d9 fk fa fg e)],TP j,[])∧fF ds (dep+1) e∧j≤L.length:=by
   intro h
   obtain ⟨a,f1,f2,f3,j2,e2,ha,hj2⟩:=hg j1 hj1
   obtain ⟨b,f4,f5,f6,j3,e3,hb,hj3⟩:=hg j2 hj2
   have hA:=d6 f1 f2 f3 a
   generalize d9 f1 f2 f3 a=A at e2 hA
   have hB:=d6 f4 f5 f6 b
   generalize d9 f4 f5 f6 b=B at e3 hB
   try simp [tn,tsh,tl] at e2 e3
   refine ⟨⟨5,0,[],0,[a,b],[],bR⟩,true,true,true,j3,?_,.app ha hb,hj3⟩
   rw [aR (af:=g247) rfl (by simp [tn,tsh,tl,g247])]
   have ac:=Ex.bG a
   have bc:=Ex.bG b
   have tA:A.take 11=A:=List.take_of_length_le (by rw [hA.len];omega)
   rcases h with rfl | rfl | rfl<;>simp (disch:=omega) [tn,tsh,tl,g247,e1,h1,h2,aq,e2,e3,hA.c_,hA.flat,hA.h_,hA.len,hA.leaf,hB.c_,hB.flat,hB.h_,hB.len,hB.leaf,tA,ac,bc,aP,d9,ga,bR]
 rcases hc with h | h | h | h | h | rfl | rfl | rfl
 · exact hlam (.inl h)
 · exact hlam (.inr h)
 · exact happ (.inl h)
 · exact happ (.inr (.inl h))
 · exact happ (.inr (.inr h))
 · obtain ⟨r,j2,e2,r0,r1,hj2⟩:=mJ hT hL hj1 (n:=2) (by omega) (by omega)
   obtain ⟨s,j3,e3,hs,hj3⟩:=FR hT hL hj2
   obtain ⟨a,f1,f2,f3,j4,e4,ha,hj4⟩:=hg j3 hj3
   obtain ⟨b,f4,f5,f6,j5,e5,hb,hj5⟩:=hg j4 hj4
   have hA:=d6 f1 f2 f3 a
   generalize d9 f1 f2 f3 a=A at e4 hA
   have hB:=d6 f4 f5 f6 b
   generalize d9 f4 f5 f6 b=B at e5 hB
   try simp [tn,tsh,tl] at e2 e3 e4 e5
   have ac:=Ex.bG a
   have bc:=Ex.bG b
   have tA:A.take 11=A:=List.take_of_length_le (by rw [hA.len];omega)
   have hk:6+r=6∨6+r=7:=by omega
   refine ⟨⟨6+r,0,s,0,[a,b],[],bR⟩,true,true,true,j5,?_,.Pv hk hs ha hb,hj5⟩
   rw [aR (af:=g247) rfl (by simp [tn,tsh,tl,g247])]
   simp (disch:=omega) [tn,tsh,tl,g247,e1,h1,h2,aq,e2,e3,e4,e5,hA.c_,hA.flat,hA.h_,hA.len,hA.leaf,hB.c_,hB.flat,hB.h_,hB.len,hB.leaf,tA,ac,bc,aP,d9,ga,bR]
 · obtain ⟨a,f1,f2,f3,j2,e2,ha,hj2⟩:=hg j1 hj1
   have hA:=d6 f1 f2 f3 a
   generalize d9 f1 f2 f3 a=A at e2 hA
   obtain ⟨t,j3,e3,ht,hj3⟩:=NJ hT hL (ds:=ds) (by omega) (fun d hd=>(hD d hd).1) (lv:=[]) (by simp [tn,tsh,tl,Sm]) 2 (by omega) j2 hj2
   simp [tn,tsh,tl,Ty.av] at e2 e3
   have ac:=Ex.bG a
   refine ⟨⟨9,0,[],0,[a],[],t⟩,true,true,false,j3,?_,.Q1 ha ht,hj3⟩
   rw [aR (af:=g247) rfl (by simp [tn,tsh,tl,g247])]
   simp (disch:=omega) [tn,tsh,tl,g247,e1,h1,h2,aq,e2,e3,hA.c_,hA.flat,hA.h_,hA.len,hA.leaf,ac,d9,ga,bR]
 · obtain ⟨a,f1,f2,f3,j2,e2,ha,hj2⟩:=hg j1 hj1
   have hA:=d6 f1 f2 f3 a
   generalize d9 f1 f2 f3 a=A at e2 hA
   try simp [tn,tsh,tl] at e2
   have ac:=Ex.bG a
   refine ⟨⟨11,0,[],0,[a],[],bR⟩,true,true,true,j2,?_,.held ha,hj2⟩
   rw [aR (af:=g247) rfl (by simp [tn,tsh,tl,g247])]
   simp (disch:=omega) [tn,tsh,tl,g247,e1,h1,h2,aq,e2,hA.c_,hA.flat,hA.h_,hA.len,hA.leaf,ac,d9,ga,bR]
theorem Jm {L:List Int} {tm:Nat} {TP:Int→Sh} (hT:Tape L tm TP) (hL:Sm L) {ds:List Dt} {dep:Nat} {d:Dt} {a:Ex} {as:List Ar} {ci:Nat} {c:fW} (hc:d.cons[ci]?=some c) (h8:c.fields.length≤8):∀(n k:Nat),c.fields.length-k=n→k≤c.fields.length→∀(vs:List bV) (i:Nat),vs.length=k→(∀v∈vs,v∈mG)→i≤L.length →
   ∃(r:List bV) (j:Nat),cl AP g247L1 ⟨[(0,.a_ tm 0),(1,.pv (.aD (ds.map Dt.pv))),(2,.pv (vI (dep+1))),(6,.az 6 0),(13,.az 13 0),(14,.az 14 0),(15,.pv (vI ci)),(16,.az 16 0),(17,.pv (vI k))],
     [(6,m6),(13,qb d),(14,Lu a as),(16,PQ c vs)],TP i,[0,0,0,1,as.length,0,vs.length,0,0,0]⟩ =
     some (.exit 3,⟨[(0,.a_ tm 0),(1,.pv (.aD (ds.map Dt.pv))),(2,.pv (vI (dep+1))),(6,.az 6 0),(13,.az 13 0),(14,.az 14 0),(15,.pv (vI ci)),(16,.az 16 0),(17,.pv (vI c.fields.length)),(179,.pv (.bool false))],
     [(6,m6),(13,qb d),(14,Lu a as),(16,PQ c r)],TP j,[0,0,0,1,as.length,0,r.length,0,0,0]⟩) ∧
     r.length=c.fields.length∧(∀v∈r,v∈mG)∧j≤L.length
 | 0,k,hn,hk,vs,i,hv,hm,hi=>by
   have tn:=hT.norm
   have tsh:=hT.shift
   have tl:=hT.take
   have:k=c.fields.length:=by omega
   subst this
   refine ⟨vs,i,?_,hv,hm,hi⟩
   have hcl:=(List.getElem?_eq_some_iff.1 hc).1
   rw [g247L1e]
   simp [tn,tsh,tl,-getElem?_pos,g247B1,m6,qb,Lu,PQ,hc,hcl]
 | n+1,k,hn,hk,vs,i,hv,hm,hi=>by
   have tn:=hT.norm
   have tsh:=hT.shift
   have tl:=hT.take
   have hk:k<c.fields.length:=by omega
   have hcl:=(List.getElem?_eq_some_iff.1 hc).1
   have hb:(vs.length+1)*16≤140737488355328:=by omega
   obtain ⟨s,j,e,hs,hj⟩:=FR hT hL hi
   try simp [tn,tsh,tl] at e
   obtain ⟨r,j',e',hr,hm',hj'⟩:=Jm hT hL hc h8 (a:=a) (as:=as) (ds:=ds) (dep:=dep) n (k+1) (by omega) (by omega) (vs++[s]) j (by simp;omega) (by
     intro x hx;simp at hx;rcases hx with hx | rfl
     · exact hm x hx
     · exact hs) hj
   refine ⟨r,j',?_,hr,hm',hj'⟩
   simp [tn,tsh,tl,m6,qb,Lu,PQ] at e' ⊢
   rw [g247L1e]
   simp (disch:=omega) [tn,tsh,tl,-getElem?_pos,g247B1,hc,hcl,hk,aq,e,hb,aP]
   exact e'
theorem Jn {L:List Int} {tm:Nat} {TP:Int→Sh} (hT:Tape L tm TP) (hL:Sm L) {ds:List Dt} {dep:Nat} (hdep:dep<1000) (hg:qc L tm TP ds dep) {d:Dt} (hD:D8 d) {a:Ex}:∀(n k:Nat),d.cons.length-k=n→k≤d.cons.length→∀(as:List Ar) (i:Nat),as.length=k→BR ds dep d as→i≤L.length →
   ∃(r:List Ar) (j:Nat),cl AP g247L0 ⟨[(0,.a_ tm 0),(1,.pv (.aD (ds.map Dt.pv))),(2,.pv (vI (dep+1))),(6,.az 6 0),(13,.az 13 0),(14,.az 14 0),(15,.pv (vI k))],
     [(6,m6),(13,qb d),(14,Lu a as)],TP i,[0,0,0,1,as.length,0]⟩ =
     some (.exit 1,⟨[(0,.a_ tm 0),(1,.pv (.aD (ds.map Dt.pv))),(2,.pv (vI (dep+1))),(6,.az 6 0),(13,.az 13 0),(14,.az 14 0),(15,.pv (vI d.cons.length)),(161,.pv (.bool false))],
     [(6,m6),(13,qb d),(14,Lu a r)],TP j,[0,0,0,1,r.length,0]⟩) ∧
     r.length=d.cons.length∧BR ds dep d r∧j≤L.length
 | 0,k,hn,hk,as,i,ha,hm,hi=>by
   have tn:=hT.norm
   have tsh:=hT.shift
   have tl:=hT.take
   have:k=d.cons.length:=by omega
   subst this
   refine ⟨as,i,?_,ha,hm,hi⟩
   rw [g247L0e]
   simp [tn,tsh,tl,g247B0,m6,qb,Lu]
 | n+1,k,hn,hk,as,i,ha,hm,hi=>by
   have tn:=hT.norm
   have tsh:=hT.shift
   have tl:=hT.take
   have hk:k<d.cons.length:=by omega
   obtain ⟨c,hc⟩:=bn hk
   obtain ⟨_,_,h8,hf⟩:=hD
   obtain ⟨vs,j,e,hv,hvm,hj⟩:=Jm hT hL (ds:=ds) (dep:=dep) (a:=a) (as:=as) hc (hf c (bo hc)) _ 0 rfl (by omega) [] i rfl (by simp) hi
   obtain ⟨b,f1,f2,f3,j2,e2,hb,hj2⟩:=hg j hj
   have hB:=d6 f1 f2 f3 b
   generalize d9 f1 f2 f3 b=B at e2 hB
   have bc:=Ex.bG b
   have tB:B.take 11=B:=List.take_of_length_le (by rw [hB.len];omega)
   have hbb:(as.length+1)*200≤140737488355328:=by omega
   have hm2:BR ds dep d (as++[⟨0,c.name,vs,b⟩]):=by
     refine ⟨?_,?_,?_⟩
     · intro x hx
       try simp [tn,tsh,tl] at hx
       rcases hx with hx | rfl
       · exact hm.1 x hx
       · exact hb
     · intro x hx
       try simp [tn,tsh,tl] at hx
       rcases hx with hx | rfl
       · exact hm.2.1 x hx
       · exact ⟨rfl,hvm⟩
     · intro i c' x h1 h2
       by_cases hlt:i<as.length
       · rw [List.getElem?_append_left hlt] at h2
         exact hm.2.2 i c' x h1 h2
       · rw [List.getElem?_append_right (by omega)] at h2
         have:i-as.length=0:=by
           have:=(List.getElem?_eq_some_iff.1 h2).1
           simpa using this
         have hik:i=k:=by omega
         subst hik
         rw [hc] at h1
         cases h1
         rw [this] at h2
         try simp [tn,tsh,tl] at h2
         subst h2
         exact ⟨rfl,hv⟩
   obtain ⟨r,j',e',hr,hm',hj'⟩:=Jn hT hL hdep hg ⟨by assumption,by assumption,h8,hf⟩ (a:=a) n (k+1) (by omega) (by omega) (as++[⟨0,c.name,vs,b⟩]) j2 (by simp;omega) hm2 hj2
   refine ⟨r,j',?_,hr,hm',hj'⟩
   have hd1:(dep:Int)+1-1=dep:=by omega
   rw [g247L1e] at e
   rw [g247L0e] at e'
   simp [tn,tsh,tl,m6,qb,Lu,PQ] at e e' e2 ⊢
   rw [g247L0e]
   simp (disch:=omega) [tn,tsh,tl,-getElem?_pos,g247B0,hc,hk,aq,hd1,g247L1e,e,e2,hbb,aP,hB.c_,hB.flat,hB.h_,hB.len,hB.leaf,tB,bc]
   rw [g247L0e]
   simp [tn,tsh,tl,e']
theorem FU {L:List Int} {tm:Nat} {TP:Int→Sh} (hT:Tape L tm TP) (hL:Sm L) {ds:List Dt} (hds:ds.length≤8) (hD:∀d∈ds,D8 d) {dep:Nat} (hdep:dep<1000) (hg:qc L tm TP ds dep) {i j1:Nat} {k:Int} (hj1:j1≤L.length)
   (e1:(aN AP).i 68 [.a_ tm 0,.pv (vI 14)] (TP i) []=some ([.pv (vI k)],TP j1,[])) (k13:k=13) :
   ∃(e:Ex) (fk fa fg:Bool) (j:Nat),(aN AP).i 247 [.a_ tm 0,.pv (.aD (ds.map Dt.pv)),.pv (vI (dep+1:Nat))] (TP i) []=some ([.agg (d9 fk fa fg e)],TP j,[])∧fF ds (dep+1) e∧j≤L.length:=by
 have tn:=hT.norm
 have tsh:=hT.shift
 have tl:=hT.take
 subst k13
 try simp [tn,tsh,tl] at e1
 have h1:¬((dep:Int)+1<1):=by omega
 have h2:(dep:Int)+1-1=dep:=by omega
 by_cases h0:ds=[]
 · subst h0
   obtain ⟨a,f1,f2,f3,j2,e2,ha,hj2⟩:=hg j1 hj1
   refine ⟨a,f1,f2,f3,j2,?_,.up ha,hj2⟩
   rw [aR (af:=g247) rfl (by simp [tn,tsh,tl,g247])]
   cases f1<;>cases f2<;>cases f3<;>simp [tn,tsh,tl,d9,ga] at e2<;>simp (disch:=omega) [tn,tsh,tl,g247,e1,h1,h2,aq,e2,d9,ga,aP]
 · have hp:0<ds.length:=List.length_pos_iff.2 h0
   obtain ⟨r,j2,e2,r0,r1,hj2⟩:=mJ hT hL hj1 (n:=ds.length) (by omega) (by omega)
   obtain ⟨m,rfl,hm⟩:=mz r0 r1
   obtain ⟨d,hx⟩:=bn hm
   have hDd:=hD d (bo hx)
   obtain ⟨a,f1,f2,f3,j3,e3,ha,hj3⟩:=hg j2 hj2
   have hA:=d6 f1 f2 f3 a
   generalize d9 f1 f2 f3 a=A at e3 hA
   have ac:=Ex.bG a
   obtain ⟨as,j4,e4,hal,hao,hj4⟩:=Jn hT hL hdep hg hDd (a:=a) _ 0 rfl (by omega) [] j3 rfl ⟨by simp,by simp,by simp⟩ hj3
   try simp [tn,tsh,tl] at e2 e3
   refine ⟨⟨8,0,[],0,[a],as,bR⟩,false,false,false,j4,?_,.Mb (bo hx) ha hal hao.1 hao.2.1 hao.2.2,hj4⟩
   rw [aR (af:=g247) rfl (by simp [tn,tsh,tl,g247])]
   rw [g247L0e] at e4
   simp [tn,tsh,tl,m6,qb,Lu] at e4
   simp (disch:=omega) [tn,tsh,tl,-getElem?_pos,g247,e1,h1,h2,h0,aq,e2,e3,hp,hx,hA.c_,hA.flat,hA.h_,hA.len,hA.leaf,ac,g247L0e,e4,aP,d9,ga,bR]
theorem PU {L:List Int} {tm:Nat} {TP:Int→Sh} (hT:Tape L tm TP) (hL:Sm L) {ds:List Dt} (hds:ds.length≤8) (hD:∀d∈ds,D8 d):∀dep:Nat,dep<1000→qc L tm TP ds dep
 | 0,_=>fun i hi=>by
   have tn:=hT.norm
   have tsh:=hT.shift
   have tl:=hT.take
   obtain ⟨k,j1,e1,k0,k14,hj1⟩:=mJ hT hL hi (n:=14) (by omega) (by omega)
   exact tH hT hL hds hD hj1 e1 k0 (by simp)
 | dep+1,h=>fun i hi=>by
   have tn:=hT.norm
   have tsh:=hT.shift
   have tl:=hT.take
   obtain ⟨k,j1,e1,k0,k14,hj1⟩:=mJ hT hL hi (n:=14) (by omega) (by omega)
   have hg:=PU hT hL hds hD dep (by omega)
   by_cases h5:k<5
   · exact tH hT hL hds hD hj1 e1 k0 (by simpa using h5)
   · by_cases h12:k≤12
     · exact FT hT hL hds hD (by omega) hg hj1 e1 (by omega) h12
     · exact FU hT hL hds hD (by omega) hg hj1 e1 (by omega)
end Go.Ab.Lw
namespace Go.Ab.Lw
open Ev
theorem ig:bR.Ok:=cW rfl
end Go.Ab.Lw
namespace Go.Ab.Lw
open Ev
structure vj (n:Nat) (e:Ex):Prop where
 sc:uY e
 h:e.tt n
theorem kX {n m:Nat} {e:Ex} (h:e.tt n):n≤m→e.tt m:=by
 induction h generalizing m with
 | mk _ ih=>
   intro hm
   obtain ⟨k,rfl⟩:∃k,m=k+1:=⟨m-1,by omega⟩
   exact .mk fun x hx=>ih x hx (by omega)
theorem vj.up {n m:Nat} {e:Ex} (h:vj n e) (hm:n≤m):vj m e:=⟨h.sc,kX h.h hm⟩
theorem ij:bR.Cw:=⟨fun _=>rfl,by simp [bR]⟩
theorem eF {n:Nat} {k:Int} {s:bV} {m:Int} {l:List Ex} {t:Ty} (hk:k≠8) (hl:l.length≤1000) (ht:t.Ok) (hc:t.Cw) (hx:∀x∈l,vj n x):vj (n+1) ⟨k,0,s,m,l,[],t⟩:=
 ⟨⟨.mk hl (by simp) (by simp) ht (by simpa [Ex.ch] using fun x h=>(hx x h).sc.ok),.mk (fun h=>absurd h hk) (by simpa [Ex.ch] using fun x h=>(hx x h).sc.one),.mk hc (by simpa [Ex.ch] using fun x h=>(hx x h).sc.cw)⟩,.mk (by simpa [Ex.ch] using fun x h=>(hx x h).h)⟩
theorem ek {k:Int} {s:bV} {m:Int} (hk:k≠8):vj 1 ⟨k,0,s,m,[],[],bR⟩:=eF (n:=0) hk (by simp) ig ij (by simp)
theorem NK {L:List Int} {tm:Nat} {TP:Int→Sh} (hT:Tape L tm TP) {I:Nat} {g:Ty} (hg:ck g) {E:List En} (hE:E.length≤10000) (hc:∀x∈E,km x.sc):∀(n i:Nat),E.length-i=n→i≤E.length→∀acc:List bV,acc.length≤i →
   ∃fs:List bV,fs.length≤E.length∧cl AP g348L0 ⟨[(0,.a_ tm 0),(7,.az 7 0),(8,.az 8 0),(9,.own (acc.map .str) 0),(10,.pv (.aD (E.map En.pv))),(11,.pv (vI i))],[(7,tC g),(8,jA 1)],TP I,[acc.length,0,0,0]⟩ =
     some (.exit 0,⟨[(0,.a_ tm 0),(7,.az 7 0),(8,.az 8 0),(9,.own (fs.map .str) 0),(10,.pv (.aD (E.map En.pv))),(11,.pv (vI E.length)),(19,.pv (.bool false))],[(7,tC g),(8,jA 1)],TP I,[fs.length,0,0,0]⟩)
 | 0,i,hn,hi,acc,ha=>by
   have tn:=hT.norm
   have tsh:=hT.shift
   have tl:=hT.take
   have:i=E.length:=by omega
   subst this
   refine ⟨acc,ha,?_⟩
   rw [g348L0e]
   simp [tn,tsh,tl,g348B0,tC,jA]
 | n+1,i,hn,hi,acc,ha=>by
   have tn:=hT.norm
   have tsh:=hT.shift
   have tl:=hT.take
   have hi:i<E.length:=by omega
   obtain ⟨x,hx⟩:=bn hi
   obtain ⟨K,q1,q2,q3⟩:=(hc x (bo hx)).PO
   have k:=c238 (N:=K) (by omega) (p:=x.sc.ty) hg.ok q3
   have hb:(acc.length+1)*16≤140737488355328:=by omega
   cases hI:Jh K x.sc.ty g with
   | none=>
     obtain ⟨fs,h1,e'⟩:=NK hT (L:=L) (I:=I) hg hE hc n (i+1) (by omega) (by omega) acc (by omega)
     refine ⟨fs,h1,?_⟩
     rw [hI] at k
     rw [g348L0e] at e' ⊢
     simp [tn,tsh,tl,tC,jA] at e'
     simp [tn,tsh,tl,rI] at k
     simp (disch:=omega) [tn,tsh,tl,-getElem?_pos,g348B0,tC,jA,hx,hi,q1,k,aq]
     rw [g348L0e]
     simp [tn,tsh,tl,e']
   | some l=>
     obtain ⟨fs,h1,e'⟩:=NK hT (L:=L) (I:=I) hg hE hc n (i+1) (by omega) (by omega) (acc++[x.name]) (by simp;omega)
     refine ⟨fs,h1,?_⟩
     rw [hI] at k
     rw [g348L0e] at e' ⊢
     simp [tn,tsh,tl,tC,jA] at e'
     simp [tn,tsh,tl,rI] at k
     simp (disch:=omega) [tn,tsh,tl,-getElem?_pos,g348B0,tC,jA,hx,hi,q1,k,hb,aq]
     rw [g348L0e]
     simp [tn,tsh,tl,e']
def lJ (L:List Int) (tm:Nat) (TP:Int→Sh) (n:Nat) (r:Option (List AV×Sh×aM)):Prop:=∃(e:Ex) (fk fa fg:Bool) (j:Nat),r=some ([.agg (d9 fk fa fg e)],TP j,[])∧vj n e∧j≤L.length
structure Ctx (n:Nat) (l:List En):Prop where
 len:l.length≤n
 PW:∀x∈l,km x.sc
theorem c348 {L:List Int} {tm:Nat} {TP:Int→Sh} (hT:Tape L tm TP) (hL:Sm L) {ds:List Dt} {l:List En} (hl:Ctx 10000 l) {g:Ty} (hg:ck g) {i:Nat} (hi:i≤L.length) :
   lJ L tm TP 1 ((aN AP).i 348 [.a_ tm 0,.pv (.aD (ds.map Dt.pv)),.pv (.aD (l.map En.pv)),.pv g.pv] (TP i) []):=by
 have tn:=hT.norm
 have tsh:=hT.shift
 have tl:=hT.take
 have hsl:=rC l
 have hll:=hl.len
 have k1:=c201 (l:=l) (by unfold Sm;omega)
 obtain ⟨fs,hf,e⟩:=NK hT (L:=L) (I:=i) hg (E:=dD l) (by omega) (fun x hx=>hl.PW x (rB l x hx)) _ 0 rfl (by omega) [] (by simp)
 generalize dD l=E at *
 have k2:=c20 (a:=g) (b:=bw) hg.ok
 have k3:=c34
 rw [g348L0e] at e
 simp [tn,tsh,tl,tC,jA] at e k1 k3
 have tail:∀j,j≤L.length→(g=bw∧∃r j1,0≤r∧j1≤L.length∧(aN AP).i 68 [.a_ tm 0,.pv (vI 4)] (TP j) []=some ([.pv (vI r)],TP j1,[]))∨¬g=bw:=by
   intro j hj
   by_cases q:g=bw
   · obtain ⟨r,j1,e1,r0,_,hj1⟩:=mJ hT hL hj (n:=4) (by omega) (by omega)
     exact .inl ⟨q,r,j1,r0,hj1,e1⟩
   · exact .inr q
 by_cases hfs:fs=[]
 · subst hfs
   try simp [tn,tsh,tl] at e
   rcases tail i hi with ⟨q,r,j1,r0,hj1,e1⟩ | q
   · rw [decide_eq_true q] at k2
     subst q
     try simp [tn,tsh,tl] at k2 e1
     by_cases hr:0<r
     · obtain ⟨m,j2,e2,m0,m1,hj2⟩:=mJ hT hL hj1 (n:=3) (by omega) (by omega)
       refine ⟨⟨3,0,[],m,[],[],bR⟩,true,true,true,j2,?_,ek (by decide),hj2⟩
       try simp [tn,tsh,tl] at e2
       simp [tn,tsh,tl,bw] at k2 k3 e
       rw [aR (af:=g348) rfl (by simp [tn,tsh,tl,g348])]
       simp [tn,tsh,tl,g348,k1,g348L0e,e,k3,k2,e1,hr,e2,d9,ga,bR,bw]
     · refine ⟨⟨10,0,[],0,[],[],bR⟩,true,true,true,j1,?_,ek (by decide),hj1⟩
       simp [tn,tsh,tl,bw] at k2 k3 e
       rw [aR (af:=g348) rfl (by simp [tn,tsh,tl,g348])]
       simp [tn,tsh,tl,g348,k1,g348L0e,e,k3,k2,e1,hr,d9,ga,bR,bw]
   · rw [decide_eq_false q] at k2
     refine ⟨⟨10,0,[],0,[],[],bR⟩,true,true,true,i,?_,ek (by decide),hi⟩
     simp [tn,tsh,tl,bw] at k2 k3
     rw [aR (af:=g348) rfl (by simp [tn,tsh,tl,g348])]
     simp [tn,tsh,tl,g348,k1,g348L0e,e,k3,k2,d9,ga,bR,bw]
 · have hp:0<fs.length:=List.length_pos_iff.2 hfs
   obtain ⟨r6,j6,e6,r60,_,hj6⟩:=mJ hT hL hi (n:=6) (by omega) (by omega)
   try simp [tn,tsh,tl] at e6
   by_cases h6:0<r6
   · obtain ⟨m,j7,e7,m0,m1,hj7⟩:=mJ hT hL hj6 (n:=fs.length) (by omega) (by omega)
     obtain ⟨m,rfl,hm⟩:=mz m0 m1
     obtain ⟨s,hs⟩:=bn hm
     refine ⟨⟨1,0,s,0,[],[],bR⟩,true,true,true,j7,?_,ek (by decide),hj7⟩
     try simp [tn,tsh,tl] at e7
     rw [aR (af:=g348) rfl (by simp [tn,tsh,tl,g348])]
     simp [tn,tsh,tl,-getElem?_pos,g348,k1,g348L0e,e,hp,e6,h6,e7,hs,d9,ga,bR]
   · rcases tail j6 hj6 with ⟨q,r,j1,r0,hj1,e1⟩ | q
     · rw [decide_eq_true q] at k2
       subst q
       try simp [tn,tsh,tl] at k2 e1
       by_cases hr:0<r
       · obtain ⟨m,j2,e2,m0,m1,hj2⟩:=mJ hT hL hj1 (n:=3) (by omega) (by omega)
         refine ⟨⟨3,0,[],m,[],[],bR⟩,true,true,true,j2,?_,ek (by decide),hj2⟩
         try simp [tn,tsh,tl] at e2
         simp [tn,tsh,tl,bw] at k2 k3 e
         rw [aR (af:=g348) rfl (by simp [tn,tsh,tl,g348])]
         simp [tn,tsh,tl,g348,k1,g348L0e,e,hp,e6,h6,k3,k2,e1,hr,e2,d9,ga,bR,bw]
       · refine ⟨⟨10,0,[],0,[],[],bR⟩,true,true,true,j1,?_,ek (by decide),hj1⟩
         simp [tn,tsh,tl,bw] at k2 k3 e
         rw [aR (af:=g348) rfl (by simp [tn,tsh,tl,g348])]
         simp [tn,tsh,tl,g348,k1,g348L0e,e,hp,e6,h6,k3,k2,e1,hr,d9,ga,bR,bw]
     · rw [decide_eq_false q] at k2
       refine ⟨⟨10,0,[],0,[],[],bR⟩,true,true,true,j6,?_,ek (by decide),hj6⟩
       simp [tn,tsh,tl,bw] at k2 k3
       rw [aR (af:=g348) rfl (by simp [tn,tsh,tl,g348])]
       simp [tn,tsh,tl,g348,k1,g348L0e,e,hp,e6,h6,k3,k2,d9,ga,bR,bw]
end Go.Ab.Lw
namespace Go.Ab.Lw
open Ev
def jk (L:List Int) (tm:Nat) (TP:Int→Sh) (ds:List Dt) (dep:Nat):Prop:=∀(i:Nat) (l:List En) (g:Ty),i≤L.length→Ctx (1000-20*dep) l→ck g →
 lJ L tm TP (12*(dep+1)) ((aN AP).i 326 [.a_ tm 0,.pv (.aD (ds.map Dt.pv)),.pv (.aD (l.map En.pv)),.pv g.pv,.pv (vI dep)] (TP i) [])
theorem Ctx.push {n m:Nat} {l:List En} (h:Ctx n l) {s:bV} {c:Sc} (hc:km c) (hm:n+1≤m):Ctx m (l++[⟨s,c⟩]):=⟨by have:=h.len;simp;omega,by
 intro x hx;simp at hx;rcases hx with hx | rfl
 · exact h.PW x hx
 · exact hc⟩
theorem Ctx.gE {n m:Nat} {l:List En} (h:Ctx n l) (hm:n≤m):Ctx m l:=⟨by have:=h.len;omega,h.PW⟩
theorem kb {D:Dt→Prop} (hD:∀d,D d→d.params.length≤8) {lv:List Ty} (h:∀t∈lv,t.args=[]∧t.kind=3) {n:Nat} {t:Ty} (m:gv D lv n t):ck t:=by
 refine ⟨m.ok hD (fun t ht=>(h t ht).1),?_⟩
 induction m with
 | leaf hl=>exact .bare (h _ hl).1 (fun _=>by rw [(h _ hl).2];simp)
 | int=>exact .bare rfl (by simp [bw])
 | d7 _ _ _ ih=>exact .mk (by simp) ih
 | arrow _ _ iha ihb=>exact .mk (by simp) (by intro x hx;simp at hx;rcases hx with rfl | rfl<;>assumption)
theorem ck.arrow {a b:Ty} (ha:ck a) (hb:ck b):ck ⟨4,[45,62],0,0,[a,b]⟩:=⟨⟨by simp [Sm],by intro x hx;simp at hx;rcases hx with rfl | rfl;exact ha.ok;exact hb.ok⟩,.mk (by simp) (by intro x hx;simp at hx;rcases hx with rfl | rfl;exact ha.kn;exact hb.kn)⟩
variable {L: List Int}  {tm:Nat} {TP:Int→Sh} {ds:List Dt} {dep:Nat} {l:List En} {g:Ty} {i:Nat}
def rT (L:List Int) (tm:Nat) (TP:Int→Sh) (ds:List Dt) (dep:Nat) (l:List En) (g:Ty) (i:Nat):Prop:=
 lJ L tm TP (12*(dep+1)) ((aN AP).i 326 [.a_ tm 0,.pv (.aD (ds.map Dt.pv)),.pv (.aD (l.map En.pv)),.pv g.pv,.pv (vI dep)] (TP i) [])
theorem Jo (hT:Tape L tm TP) (hL:Sm L) (hl:Ctx 10000 l) (hg:ck g) (hi:i≤L.length):rT L tm TP ds 0 l g i:=by
 have tn:=hT.norm
 have tsh:=hT.shift
 have tl:=hT.take
 obtain ⟨e,f1,f2,f3,j,k,ht,hj⟩:=c348 hT hL (ds:=ds) hl hg hi
 refine ⟨e,f1,f2,f3,j,?_,ht.up (by omega),hj⟩
 rw [aR (af:=g326) rfl (by simp [tn,tsh,tl,g326])]
 cases f1<;>cases f2<;>cases f3<;>simp [tn,tsh,tl,d9,ga] at k<;>simp [tn,tsh,tl,g326,k,d9,ga,aP]
theorem Lv (hT:Tape L tm TP) (hL:Sm L) (hdep:dep<100) (hl:Ctx 10000 l) (hg:ck g) {j9:Nat} (hj9:j9≤L.length) (e9:(aN AP).i 68 [.a_ tm 0,.pv (vI 9)] (TP i) []=some ([.pv (vI 0)],TP j9,[])):rT L tm TP ds (dep+1) l g i:=by
 have tn:=hT.norm
 have tsh:=hT.shift
 have tl:=hT.take
 obtain ⟨e,f1,f2,f3,j,k,ht,hj⟩:=c348 hT hL (ds:=ds) hl hg hj9
 refine ⟨e,f1,f2,f3,j,?_,ht.up (by omega),hj⟩
 have h1:¬((dep:Int)+1<1):=by omega
 try simp [tn,tsh,tl] at e9
 rw [aR (af:=g326) rfl (by simp [tn,tsh,tl,g326])]
 cases f1<;>cases f2<;>cases f3<;>simp [tn,tsh,tl,d9,ga] at k<;>simp [tn,tsh,tl,g326,h1,e9,k,d9,ga,aP]
structure Jp (L:List Int) (tm:Nat) (TP:Int→Sh) (g:Ty) (i:Nat) (a b:Ty) (ar:Bool) (k r9:Int) (j9 j:Nat):Prop where
 nz:¬r9=0
 e9:(aN AP).i 68 [.a_ tm 0,.pv (vI 9)] (TP i) []=some ([.pv (vI r9)],TP j9,[])
 arr:(aN AP).p 194 [g.pv]=some [a.pv,b.pv,.bool ar]
 rU:(aN AP).i 68 [.a_ tm 0,.pv (vI 10)] (TP j9) []=some ([.pv (vI k)],TP j,[])
 hj:j≤L.length
theorem NL (hT:Tape L tm TP) (hL:Sm L) (hdep:dep<10) (hG:jk L tm TP ds dep) (hl:Ctx (1000-20*(dep+1)) l) {a b:Ty} {k r9:Int} {j9 j:Nat} (P:Jp L tm TP g i a b true k r9 j9 j) (hk:k<7) (ha:ck a) (hb:ck b):rT L tm TP ds (dep+1) l g i:=by
 have tn:=hT.norm
 have tsh:=hT.shift
 have tl:=hT.take
 obtain ⟨nz,e9,arr,rU,hj⟩:=P
 obtain ⟨s,j1,e1,hs,hj1⟩:=FR hT hL hj
 have hll:=hl.len
 have k1:=c176 (t:=a)
 have k2:=c179 (l:=l) (by unfold Sm;omega) (n:=s) (c:=⟨0,a⟩)
 obtain ⟨e,f1,f2,f3,j2,e2,he,hj2⟩:=hG j1 (l++[⟨s,⟨0,a⟩⟩]) b hj1 (hl.push ha.mono (by omega)) hb
 have hA:=d6 f1 f2 f3 e
 generalize d9 f1 f2 f3 e=A at e2 hA
 have ac:=Ex.bG e
 refine ⟨⟨4,0,s,0,[e],[],bR⟩,true,true,true,j2,?_,(eF (by decide) (by simp) ig ij (by simpa using he)).up (by omega),hj2⟩
 have h1:¬((dep:Int)+1<1):=by omega
 have h2:(dep:Int)+1-1=dep:=by omega
 try simp [tn,tsh,tl] at e9 arr rU e1 k1 k2 e2
 rw [aR (af:=g326) rfl (by simp [tn,tsh,tl,g326])]
 simp (disch:=omega) [tn,tsh,tl,g326,h1,h2,nz,e9,arr,rU,hk,e1,k1,k2,e2,aq,hA.c_,hA.flat,hA.h_,hA.len,hA.leaf,ac,d9,ga,bR]
theorem NM (hT:Tape L tm TP) (hL:Sm L) (hdep:dep<10) (hds:ds.length≤20) (hda:∀d∈ds,d.params.length≤8) (hG:jk L tm TP ds dep) (hl:Ctx (1000-20*(dep+1)) l) (hg:ck g) {a b:Ty} {k r9:Int} {j9 j:Nat} (P:Jp L tm TP g i a b false k r9 j9 j) (hk:k<2):rT L tm TP ds (dep+1) l g i:=by
 have tn:=hT.norm
 have tsh:=hT.shift
 have tl:=hT.take
 obtain ⟨nz,e9,arr,rU,hj⟩:=P
 obtain ⟨t,j1,e1,mt,hj1⟩:=NJ hT hL hds hda (lv:=[]) (by simp [tn,tsh,tl,Sm]) 1 (by omega) j hj
 have gt:ck t:=kb hda (by simp) mt
 have k1:=c69 (a:=t) (b:=g)
 have hl':Ctx (1000-20*dep) l:=hl.gE (by omega)
 obtain ⟨x,f1,f2,f3,j2,e2,hx,hj2⟩:=hG j1 l _ hj1 hl' (gt.arrow hg)
 obtain ⟨y,f4,f5,f6,j3,e3,hy,hj3⟩:=hG j2 l _ hj2 hl' gt
 have hA:=d6 f1 f2 f3 x
 generalize d9 f1 f2 f3 x=A at e2 hA
 have hB:=d6 f4 f5 f6 y
 generalize d9 f4 f5 f6 y=B at e3 hB
 have ac:=Ex.bG x
 have bc:=Ex.bG y
 have tA:A.take 11=A:=List.take_of_length_le (by rw [hA.len];omega)
 refine ⟨⟨5,0,[],0,[x,y],[],bR⟩,true,true,true,j3,?_,(eF (by decide) (by simp) ig ij (by simpa using ⟨hx,hy⟩)).up (by omega),hj3⟩
 have h1:¬((dep:Int)+1<1):=by omega
 have h2:(dep:Int)+1-1=dep:=by omega
 simp [tn,tsh,tl,Ty.av] at e9 arr rU e1 k1 e2 e3
 rw [aR (af:=g326) rfl (by simp [tn,tsh,tl,g326])]
 simp (disch:=omega) [tn,tsh,tl,g326,h1,h2,nz,e9,arr,rU,hk,e1,k1,e2,e3,aq,hA.c_,hA.flat,hA.h_,hA.len,hA.leaf,hB.c_,hB.flat,hB.h_,hB.len,hB.leaf,tA,ac,bc,aP,d9,ga,bR]
theorem NN (hT:Tape L tm TP) (hL:Sm L) (hdep:dep<10) (hG:jk L tm TP ds dep) (hl:Ctx (1000-20*(dep+1)) l) (hg:ck g) {a b:Ty} {r9:Int} {j9 j:Nat} (P:Jp L tm TP g i a b false 4 r9 j9 j) (h3:g.jz 3=false) (h4:g.jz 1=false):rT L tm TP ds (dep+1) l g i:=by
 have tn:=hT.norm
 have tsh:=hT.shift
 have tl:=hT.take
 obtain ⟨nz,e9,arr,rU,hj⟩:=P
 have k1:=c351 (k:=3) hg.ok
 have k2:=c351 (k:=1) hg.ok
 rw [h3] at k1
 rw [h4] at k2
 have hl':Ctx (1000-20*dep) l:=hl.gE (by omega)
 obtain ⟨x,f1,f2,f3,j2,e2,hx,hj2⟩:=hG j l _ hj hl' hg
 have hA:=d6 f1 f2 f3 x
 generalize d9 f1 f2 f3 x=A at e2 hA
 have ac:=Ex.bG x
 refine ⟨⟨9,0,[],0,[x],[],g⟩,true,true,false,j2,?_,(eF (by decide) (by simp) hg.ok hg.kn.cw (by simpa using hx)).up (by omega),hj2⟩
 have h1:¬((dep:Int)+1<1):=by omega
 have h2:(dep:Int)+1-1=dep:=by omega
 try simp [tn,tsh,tl] at e9 arr rU k1 k2 e2
 rw [aR (af:=g326) rfl (by simp [tn,tsh,tl,g326])]
 simp (disch:=omega) [tn,tsh,tl,g326,h1,h2,nz,e9,arr,rU,k1,k2,e2,aq,hA.c_,hA.flat,hA.h_,hA.len,hA.leaf,ac,d9,ga,bR]
theorem Lx (hT:Tape L tm TP) (hL:Sm L) (hdep:dep<10) (hG:jk L tm TP ds dep) (hl:Ctx (1000-20*(dep+1)) l) (hg:ck g) {a b:Ty} {r9:Int} {j9 j:Nat} (P:Jp L tm TP g i a b false 5 r9 j9 j):rT L tm TP ds (dep+1) l g i:=by
 have tn:=hT.norm
 have tsh:=hT.shift
 have tl:=hT.take
 obtain ⟨nz,e9,arr,rU,hj⟩:=P
 have hl':Ctx (1000-20*dep) l:=hl.gE (by omega)
 obtain ⟨x,f1,f2,f3,j2,e2,hx,hj2⟩:=hG j l _ hj hl' hg
 have hA:=d6 f1 f2 f3 x
 generalize d9 f1 f2 f3 x=A at e2 hA
 have ac:=Ex.bG x
 refine ⟨⟨11,0,[],0,[x],[],bR⟩,true,true,true,j2,?_,(eF (by decide) (by simp) ig ij (by simpa using hx)).up (by omega),hj2⟩
 have h1:¬((dep:Int)+1<1):=by omega
 have h2:(dep:Int)+1-1=dep:=by omega
 try simp [tn,tsh,tl] at e9 arr rU e2
 rw [aR (af:=g326) rfl (by simp [tn,tsh,tl,g326])]
 simp (disch:=omega) [tn,tsh,tl,g326,h1,h2,nz,e9,arr,rU,e2,aq,hA.c_,hA.flat,hA.h_,hA.len,hA.leaf,ac,d9,ga,bR]
end Go.Ab.Lw
namespace Go.Ab.Lw
open Ev
structure QL (x u:Ty):Prop where
 ok:u.Ok
 kn:u.Kn KS
 vr:∀y∈u.nodes,y.kind=1→∃z∈x.nodes,z.kind=3∧z.home=99∧y.id=IntKind.i64.wrap (900+z.id)
 n:u.nodes.length≤x.nodes.length
structure PX (x u:Ty):Prop where
 ok:u.Ok
 kn:u.Kn KS
 vr:∀y∈u.nodes,y.kind=1→∃z∈x.nodes,z.kind=3∧z.home=99∧y.id=IntKind.i64.wrap (900+z.id)
theorem MD {x:Ty} (hx:x.Ok) (IH:∀a∈x.args,∃u:Ty,(aN AP).p 375 [a.pv]=some [u.pv]∧QL a u):∀(k i:Nat),x.args.length-i=k→i≤x.args.length→∀acc:List Ty,acc.length=i→(∀u∈acc,PX x u)→(acc.flatMap Ty.nodes).length≤((x.args.take i).flatMap Ty.nodes).length→∃us:List Ty,
   cl AP g375L0 ⟨[(1,.az 1 0),(2,.az 2 0),(3,.az 3 0),(4,.pv (vI i))],[(1,tC x),(2,zC 0),(3,uC x acc 1)],[],[0,acc.length]⟩ =
     some (.exit 0,⟨[(1,.az 1 0),(2,.az 2 0),(3,.az 3 0),(4,.pv (vI x.args.length)),(23,.pv (.bool false))],[(1,tC x),(2,zC 0),(3,uC x us 1)],[],[0,us.length]⟩)∧us.length=x.args.length∧(∀u∈us,PX x u)∧(us.flatMap Ty.nodes).length≤(x.args.flatMap Ty.nodes).length
 | 0,i,hk,hi,acc,ha,hu,hc=>by
   have:i=x.args.length:=by omega
   subst this
   refine ⟨acc,?_,ha,hu,by simpa using hc⟩
   rw [g375L0e]
   simp [g375B0,tC,zC,uC]
 | k+1,i,hk,hi,acc,ha,hu,hc=>by
   have hi:i<x.args.length:=by omega
   obtain ⟨a,hax⟩:=bn hi
   have hsm:=hx.sm
   unfold Sm at hsm
   obtain ⟨u,e,hO⟩:=IH a (bo hax)
   have hnn:=hO.n
   obtain ⟨us,e',h1,h2,h3⟩:=MD hx IH k (i+1) (by omega) (by omega) (acc++[u]) (by simp;omega) (by
     intro y hy;simp at hy;rcases hy with hy | rfl
     · exact hu y hy
     · exact ⟨hO.ok,hO.kn,fun z hz q=>by obtain ⟨w,hw,hr⟩:=hO.vr z hz q;exact ⟨w,FP a (bo hax) w hw,hr⟩⟩) (by rw [List.take_add_one,hax,List.flatMap_append,List.length_append,List.flatMap_append,List.length_append];simp only [Option.toList_some,List.flatMap_cons,List.flatMap_nil,List.append_nil];omega)
   refine ⟨us,?_,h1,h2,h3⟩
   have hb:(acc.length+1)*64≤140737488355328:=by omega
   rw [g375L0e] at e' ⊢
   simp at e
   simp [tC,zC,uC] at e'
   simp (disch:=omega) [-getElem?_pos,g375B0,tC,zC,uC,hi,hax,aq,e,hb]
   rw [g375L0e]
   simp [e']
theorem c375x {t:Ty} (hG:ck t):∃u:Ty,(aN AP).p 375 [t.pv]=some [u.pv]∧QL t u:=by
 revert hG
 refine Ty.eD (p:=fun t=>ck t→∃u:Ty,(aN AP).p 375 [t.pv]=some [u.pv]∧QL t u) ?_ t
 intro t ih hG
 have hself:t∈t.nodes:=by rw [Ty.bp];simp
 have hpos:1≤t.nodes.length:=by rw [Ty.bp];simp
 by_cases q:t.kind=3∧t.home=99
 · have k:=c63 (n:=IntKind.i64.wrap (900+t.id))
   refine ⟨⟨1,[],IntKind.i64.wrap (900+t.id),0,[]⟩,?_,⟨cW rfl,.bare rfl (by simp),?_,by rw [Ty.bp];simpa using hpos⟩⟩
   · simp at k
     rw [au (af:=g375) rfl rfl (by decide)]
     simp [g375,q.1,q.2,k]
   · intro y hy _
     rw [Ty.bp] at hy
     simp at hy
     subst hy
     exact ⟨t,hself,q.1,q.2,rfl⟩
 · obtain ⟨us,e,h1,h2,h3⟩:=MD hG.ok (fun a ha=>ih a ha (hG.fw a ha)) _ 0 rfl (by omega) [] rfl (by simp) (by simp)
   refine ⟨⟨t.kind,t.name,t.id,t.home,us⟩,?_,⟨⟨by have:=hG.ok.sm;unfold Sm at *;simp only;omega,fun y hy=>(h2 y hy).ok⟩,.mk (fun r=>?_) fun y hy=>(h2 y hy).kn,?_,by rw [Ty.bp,Ty.bp t];simp only [List.length_cons];omega⟩⟩
   · rw [au (af:=g375) rfl rfl (by decide)]
     rw [g375L0e] at e
     simp [tC,zC,uC] at e
     by_cases q1:t.kind=3
     · have q2:¬t.home=99:=fun h=>q ⟨q1,h⟩
       simp [q1] at e
       simp [g375,q1,q2,g375L0e,e]
     · simp [g375,q1,g375L0e,e]
   · have:=hG.kn.hd r
     refine ⟨L9 _ this.1,?_⟩
     rw [this.2] at h1
     exact List.length_eq_zero_iff.1 h1
   · intro y hy hk
     rw [Ty.bp] at hy
     simp only [List.mem_cons,List.mem_flatMap] at hy
     rcases hy with rfl | ⟨u,hu,hy⟩
     · have:=(hG.kn.hd (by change t.kind=1 at hk;rw [hk];decide)).1
       change t.kind=1 at hk
       rw [hk] at this
       simp at this
     · exact (h2 u hu).vr y hy hk
theorem Jq {l:List Ty}:∀{out:List Ty} {y:Ty},y∈out∨y∈l→y∈l.foldl gC out:=by
 induction l with
 | nil=>intro out y h;simpa using h
 | cons a r ih=>
   intro out y h
   rw [List.foldl_cons]
   refine ih ?_
   rcases h with h | h
   · left;unfold gC;split
     · exact h
     · simp [h]
   · simp only [List.mem_cons] at h
     rcases h with rfl | h
     · left;unfold gC;split
       · assumption
       · simp
     · exact .inr h
theorem c59x {u:Ty} (hu:u.Ok) (hn:u.nodes.length≤4000):∃r:List Ty,(aN AP).p 59 [.aD [u.pv]]=some [.aD (r.map Ty.pv)]∧Sm r∧∀y∈u.eN 3,y∈r:=by
 have hl:=nF (k:=3) (t:=u)
 have c0:fE (u.eN 3) []:=⟨by simp,by simp,by omega,fun x hx=>cW (kU x hx)⟩
 have hk:∀x∈[u].flatMap (Ty.eN 3),x∈u.eN 3:=by simp
 have h:=QD (S:=u.eN 3) (l:=[u]) (by simp [Sm]) (by simpa using hu) hk _ 0 rfl (by omega) [] c0
 have hc:=c0.fold hk
 refine ⟨_,?_,hc.len,fun y hy=>Jq (.inr (by simpa using hy))⟩
 rw [au (af:=g59) rfl rfl (by decide)]
 rw [g59L0e] at h
 simp at h
 simp [g59,g59L0e,h]
theorem Jr {k:Int} {t:Ty}:∀y∈t.nodes,y.kind=k→y.args=[]→y∈t.eN k:=by
 refine Ty.eD (p:=fun t=>∀y∈t.nodes,y.kind=k→y.args=[]→y∈t.eN k) ?_ t
 intro t ih y hy hk ha
 rw [Ty.bp] at hy
 rw [Ty.kQ]
 simp only [List.mem_cons,List.mem_flatMap] at hy
 rcases hy with rfl | ⟨a,ham,hy⟩
 · rw [if_pos ⟨hk,by rw [ha];rfl⟩];simp
 · have:¬(t.kind=k∧t.args.length=0):=by
     rintro ⟨_,h⟩
     rw [List.length_eq_zero_iff.1 h] at ham
     cases ham
   rw [if_neg this]
   simp only [List.mem_flatMap]
   exact ⟨a,ham,ih a ham y hy hk ha⟩
theorem Js {r:List Ty} (hr:Sm r) {t:Ty}:∀(n i:Nat),r.length-i=n→i≤r.length→∀acc:List Int,acc.length≤i→∃ids:List Int,ids.length≤r.length∧(∀v∈acc,v∈ids)∧(∀z∈r.drop i,z.home=99→IntKind.i64.wrap (900+z.id)∈ids) ∧
   cl AP g361L0 ⟨[(1,.az 1 0),(2,.az 2 0),(3,.own (acc.map vI) 0),(4,.pv (.aD (r.map Ty.pv))),(5,.pv (vI i))],[(1,tC t),(2,gz 1)],[],[acc.length,0]⟩ =
     some (.exit 0,⟨[(1,.az 1 0),(2,.az 2 0),(3,.own (ids.map vI) 0),(4,.pv (.aD (r.map Ty.pv))),(5,.pv (vI r.length)),(12,.pv (.bool false))],[(1,tC t),(2,gz 1)],[],[ids.length,0]⟩)
 | 0,i,hn,hi,acc,ha=>by
   have:i=r.length:=by omega
   subst this
   refine ⟨acc,ha,fun _ h=>h,by simp,?_⟩
   rw [g361L0e]
   simp [g361B0,tC,gz]
 | n+1,i,hn,hi,acc,ha=>by
   have hi:i<r.length:=by omega
   obtain ⟨x,hx⟩:=bn hi
   have hr':=hr
   unfold Sm at hr
   have hb:(acc.length+1)*8≤140737488355328:=by omega
   have hh:bI 1 (acc.map vI)=true:=kO.head acc
   rw [bC hx]
   by_cases q:x.home=99
   · obtain ⟨ids,h1,h2,h3,e⟩:=Js (t:=t) hr' n (i+1) (by omega) (by omega) (acc++[IntKind.i64.wrap (900+x.id)]) (by simp;omega)
     refine ⟨ids,h1,fun v hv=>h2 v (by simp [hv]),?_,?_⟩
     · intro z hz hh
       simp only [List.mem_cons] at hz
       rcases hz with rfl | hz
       · exact h2 _ (by simp)
       · exact h3 z hz hh
     · rw [g361L0e] at e ⊢
       simp [tC,gz] at e
       simp (disch:=omega) [-getElem?_pos,g361B0,tC,gz,hx,hi,q,hb,hh]
       rw [g361L0e]
       have w1:IntKind.i64.wrap ((i:Int)+1)=(i:Int)+1:=aq (by omega) (by omega)
       simp [w1,e]
   · obtain ⟨ids,h1,h2,h3,e⟩:=Js (t:=t) hr' n (i+1) (by omega) (by omega) acc (by omega)
     refine ⟨ids,h1,h2,?_,?_⟩
     · intro z hz hh
       simp only [List.mem_cons] at hz
       rcases hz with rfl | hz
       · exact absurd hh q
       · exact h3 z hz hh
     · rw [g361L0e] at e ⊢
       simp [tC,gz] at e
       simp (disch:=omega) [-getElem?_pos,g361B0,tC,gz,hx,hi,q,aq]
       rw [g361L0e]
       simp [e]
theorem mK {ids:List Int}:∀(vs:List Int) (acc:List As),(∀a∈acc,∃k:Nat,k<acc.length∧a.ty=dm k)→(∀a∈cY ids vs acc,∃k:Nat,k<(cY ids vs acc).length∧a.ty=dm k)∧(cY ids vs acc).length≤acc.length+vs.length∧(∀v,(∃x,ki acc v=some x)→∃x,ki (cY ids vs acc) v=some x)∧∀v∈vs,v∈ids→∃x,ki (cY ids vs acc) v=some x
 | [],acc,h=>⟨h,by simp [cY],fun _ h=>h,by simp⟩
 | v::r,acc,h=>by
   simp only [cY]
   by_cases q:v∈ids
   · rw [if_pos q]
     obtain ⟨h1,h2,h3,h4⟩:=mK (ids:=ids) r (acc++[⟨v,dm acc.length⟩]) (by
       intro a ha
       simp at ha
       rcases ha with ha | rfl
       · obtain ⟨k,hk,e⟩:=h a ha;exact ⟨k,by simp;omega,e⟩
       · exact ⟨acc.length,by simp,rfl⟩)
     refine ⟨h1,by simp at h2 ⊢;omega,?_,?_⟩
     · rintro w ⟨x,hx⟩
       exact h3 w ⟨x,by rw [uS,hx];rfl⟩
     · intro w hw hi
       simp only [List.mem_cons] at hw
       rcases hw with rfl | hw
       · refine h3 w ?_
         rw [uS]
         cases ki acc w with
         | some x=>exact ⟨x,rfl⟩
         | none=>exact ⟨dm acc.length,by simp [ki]⟩
       · exact h4 w hw hi
   · rw [if_neg q]
     obtain ⟨h1,h2,h3,h4⟩:=mK (ids:=ids) r acc h
     refine ⟨h1,by simp;omega,h3,?_⟩
     intro w hw hi
     simp only [List.mem_cons] at hw
     rcases hw with rfl | hw
     · exact absurd hi q
     · exact h4 w hw hi
theorem FV {s:List As} {t:Ty}:∀y∈(t.sub s).nodes,(∃i x,ki s i=some x∧y∈x.nodes)∨∃z∈t.nodes,y.kind=z.kind:=by
 refine Ty.eD (p:=fun t=>∀y∈(t.sub s).nodes,(∃i x,ki s i=some x∧y∈x.nodes)∨∃z∈t.nodes,y.kind=z.kind) ?_ t
 intro t ih y hy
 have fw:∀a∈t.args,y∈(a.sub s).nodes→(∃i x,ki s i=some x∧y∈x.nodes)∨∃z∈t.nodes,y.kind=z.kind:=by
   intro a ha h
   rcases ih a ha y h with h | ⟨z,hz,h⟩
   · exact .inl h
   · exact .inr ⟨z,FP a ha z hz,h⟩
 have hself:t∈t.nodes:=by rw [Ty.bp];simp
 rw [Ty.sub_eq] at hy
 split at hy
 · cases e:ki s t.id with
   | some x=>rw [e] at hy;exact .inl ⟨_,x,e,hy⟩
   | none=>rw [e] at hy;exact .inr ⟨y,by simpa using hy,rfl⟩
 · rw [Ty.bp] at hy
   simp only [List.mem_cons,List.mem_flatMap,List.mem_map] at hy
   rcases hy with rfl | ⟨b,⟨a,ha,rfl⟩,hy⟩
   · exact .inr ⟨t,hself,rfl⟩
   · exact fw a ha hy
theorem tI:∀{l:List Ty} {out:List Int},(l.foldl dg out).length≤out.length+l.length
 | [],out=>by simp
 | a::r,out=>by
   have h:=tI (l:=r) (out:=dg out a)
   have:(dg out a).length≤out.length+1:=by unfold dg;split<;>simp
   simp only [List.foldl_cons,List.length_cons]
   omega
theorem Ly {u:Ty}:(vars [u]).length≤u.nodes.length:=by
 have:=tI (l:=[u].flatMap Ty.nodes) (out:=[])
 simpa [vars] using this
theorem tJ {l:List Ty}:∀{out:List Int} {y:Ty},y∈l→y.kind=1→y.id∈l.foldl dg out:=by
 have bg:∀(l:List Ty) (out:List Int) (v:Int),v∈out→v∈l.foldl dg out:=by
   intro l
   induction l with
   | nil=>intro out v h;exact h
   | cons a r ih=>intro out v h;rw [List.foldl_cons];refine ih _ v ?_;unfold dg;split<;>simp [h]
 induction l with
 | nil=>intro out y h;simp at h
 | cons a r ih=>
   intro out y h hk
   rw [List.foldl_cons]
   simp only [List.mem_cons] at h
   rcases h with rfl | h
   · refine bg r _ _ ?_
     unfold dg
     by_cases q:y.id∈out<;>simp [q,hk]
   · exact ih h hk
theorem c361x {x:Ty} (hG:ck x) (hn:x.nodes.length≤90):∃c:Sc,(aN AP).p 361 [x.pv]=some [c.pv]∧km c:=by
 obtain ⟨r,k1,hr,hl3⟩:=c59x hG.ok (by omega)
 obtain ⟨u,k2,T⟩:=c375x hG
 obtain ⟨ids,hi,_,hin,h⟩:=Js (t:=x) hr _ 0 rfl (by omega) [] (by simp)
 have hl:=nF (k:=1) (t:=u)
 have hun:=T.n
 have k3:=c208 (t:=u) ⟨T.ok,T.kn.wf,u.eN 1,by omega,fun y hy=>cW (kU y hy),fun y hy=>hy⟩ (ids:=ids) (by unfold Sm at *;omega)
 have hv:=Ly (u:=u)
 obtain ⟨c1,c2,_,c4⟩:=mK (ids:=ids) (vars [u]) [] (by simp)
 have hall:∀y∈u.nodes,y.kind=1→∃z,ki (cY ids (vars [u]) []) y.id=some z:=by
   intro y hy hk
   refine c4 _ (tJ (by simpa using hy) hk) ?_
   obtain ⟨z,hz,z3,z99,e⟩:=T.vr y hy hk
   rw [e]
   refine hin z (by
     rw [List.drop_zero]
     refine hl3 z ?_
     have hb:=(hG.kn.nodes z hz (by rw [z3];decide)).2
     exact Jr z hz z3 hb) z99
 refine ⟨nv ids u (vars [u]),?_,⟨BC T.ok,?_,(cY ids (vars [u]) []).length,rfl,by simp at c2;omega,?_⟩⟩
 · generalize nv ids u (vars [u])=c at *
   rw [g361L0e] at h
   simp [tC,gz] at h
   simp at k1 k2 k3
   rw [au (af:=g361) rfl rfl (by decide)]
   simp [g361,k1,k2,k3,g361L0e,h]
 · refine BK (K:=KS) T.kn (by simp only [KS,KC];omega) ?_ (.inr hall)
   intro i z hz
   obtain ⟨a,ha,rfl⟩:=lD hz
   obtain ⟨k,_,e⟩:=c1 a ha
   rw [e]
   exact .bare rfl (by simp [dm])
 · intro y hy hk
   rcases FV y hy with ⟨i,z,hz,hy⟩ | ⟨z,hz,e⟩
   · obtain ⟨a,ha,rfl⟩:=lD hz
     obtain ⟨k,hk2,e⟩:=c1 a ha
     rw [e,Ty.bp] at hy
     simp [dm] at hy
     subst hy
     simp only
     omega
   · have:=(T.kn.nodes z hz (by rw [←e,hk];decide)).1
     rw [←e,hk] at this
     simp at this
end Go.Ab.Lw
namespace Go.Ab.Lw
open Ev
def Jt:List Ty:=[⟨3,[],0,99,[]⟩,⟨3,[],1,99,[]⟩]
theorem c349 {L:List Int} {tm:Nat} {TP:Int→Sh} (hT:Tape L tm TP) {ds:List Dt} {dep:Nat} {l:List En} {g:Ty} {i:Nat} (hL:Sm L) (hdep:dep<10) (hds:ds.length≤20) (hda:∀d∈ds,d.params.length≤8) (hG:jk L tm TP ds dep) (hl:Ctx (1000-20*(dep+1)) l) (hg:ck g) (hi:i≤L.length) :
   lJ L tm TP (12*(dep+2)) ((aN AP).i 349 [.a_ tm 0,.pv (.aD (ds.map Dt.pv)),.pv (.aD (l.map En.pv)),.pv g.pv,.pv (vI (dep+1:Nat))] (TP i) []):=by
 have tn:=hT.norm
 have tsh:=hT.shift
 have tl:=hT.take
 obtain ⟨r,j1,e1,r0,r1,hj1⟩:=mJ hT hL hi (n:=2) (by omega) (by omega)
 obtain ⟨s,j2,e2,hs,hj2⟩:=FR hT hL hj1
 obtain ⟨p,j3,e3,p0,p1,hj3⟩:=mJ hT hL hj2 (n:=2) (by omega) (by omega)
 have hlv:∀t∈(if p=0 then Jt else []),t.args=[]∧t.kind=3:=by
   intro t ht
   split at ht
   · simp [tn,tsh,tl,Jt] at ht;rcases ht with rfl | rfl<;>exact ⟨rfl,rfl⟩
   · cases ht
 obtain ⟨x,j4,e4,mx,hj4⟩:=NJ hT hL hds hda (lv:=if p=0 then Jt else []) (by unfold Sm;split<;>simp [tn,tsh,tl,Jt]) 2 (by omega) j3 hj3
 have gx:ck x:=kb hda hlv mx
 have hxn:=mx.small hda (fun t ht=>(hlv t ht).1)
 obtain ⟨c,kc,sc⟩:=c361x gx (by omega)
 have hll:=hl.len
 have k1:=c176 (t:=x)
 have k2:=c179 (l:=l) (by unfold Sm;omega) (n:=s) (c:=⟨0,x⟩)
 have hl':Ctx (1000-20*dep) l:=hl.gE (by omega)
 have hlx:Ctx (1000-20*dep) (if r=1 then l++[⟨s,⟨0,x⟩⟩] else l):=by
   split
   · exact hl.push gx.mono (by omega)
   · exact hl'
 obtain ⟨a,f1,f2,f3,j5,e5,ha,hj5⟩:=hG j4 _ x hj4 hlx gx
 obtain ⟨b10,k3⟩:=c307 ha.sc.ok 10
 obtain ⟨b11,k4⟩:=c307 ha.sc.ok 11
 have k5:=c34
 have k6:=c176 (t:=bw)
 obtain ⟨c',hc',ME⟩:∃c':Sc,c'=(if b10=true∨b11=true then ⟨0,bw⟩ else c)∧km c':=by
   refine ⟨_,rfl,?_⟩
   split
   · exact qa.mono
   · exact sc
 have k7:=c179 (l:=l) (by unfold Sm;omega) (n:=s) (c:=c')
 obtain ⟨b,f4,f5,f6,j6,e6,hb,hj6⟩:=hG j5 _ g hj5 (hl.push (s:=s) ME (by omega)) hg
 have hA:=d6 f1 f2 f3 a
 generalize d9 f1 f2 f3 a=A at e5 hA
 have hB:=d6 f4 f5 f6 b
 generalize d9 f4 f5 f6 b=B at e6 hB
 have ac:=Ex.bG a
 have bc:=Ex.bG b
 have tA:A.take 11=A:=List.take_of_length_le (by rw [hA.len];omega)
 have hk:6+r≠8:=by omega
 refine ⟨⟨6+r,0,s,0,[a,b],[],bR⟩,true,true,true,j6,?_,(eF hk (by simp) ig ij (by simpa using ⟨ha,hb⟩)).up (by omega),hj6⟩
 have h2:(dep:Int)+1-1=dep:=by omega
 have q1:=c71 (n:=99) (m:=0)
 have q2:=c71 (n:=99) (m:=1)
 have hr:r=0∨r=1:=by omega
 simp [tn,tsh,tl,Ty.av] at e1 e2 e3 e4 kc k1 k2 k3 k4 e5
 rw [aR (af:=g349) rfl (by simp [tn,tsh,tl,g349])]
 rcases hr with rfl | rfl<;>by_cases hp:p=0<;>cases b10<;>cases b11<;>subst hc'<;>simp [tn,tsh,tl,bw] at k5 k6 k7 e6<;>simp [tn,tsh,tl,hp,Jt] at e4 e5 q1 q2 <;>
 simp (disch:=omega) [tn,tsh,tl,g349,h2,e1,e2,e3,hp,e4,kc,k1,k2,k3,k4,k5,k6,k7,e5,e6,q1,q2,aq,hA.c_,hA.flat,hA.h_,hA.len,hA.leaf,hB.c_,hB.flat,hB.h_,hB.len,hB.leaf,tA,ac,bc,aP,d9,ga,bR]
end Go.Ab.Lw
namespace Go.Ab.Lw
open Ev
theorem FW {vs:List Int} {x:Ty} {v:Int} (h:v∈vs):ki (vs.map fun v=>As.mk v x) v=some x:=by
 induction vs with
 | nil=>simp at h
 | cons a r ih=>
   simp only [List.map_cons,ki]
   by_cases e:a=v
   · simp [e]
   · simp only [List.mem_cons] at h
     rcases h with h | h
     · exact absurd h.symm e
     · simp [e,ih h]
theorem BS {vs:List Int} {x y:Ty} {v:Int} (h:ki (vs.map fun v=>As.mk v x) v=some y):y=x:=by
 obtain ⟨a,ha,rfl⟩:=lD h
 simp only [List.mem_map] at ha
 obtain ⟨w,_,rfl⟩:=ha
 rfl
theorem c363x {t:Ty} (h:FN t):∃u:Ty,(aN AP).p 363 [t.pv]=some [u.pv]∧ck u:=by
 have hl:=nF (k:=1) (t:=t)
 have hn:=h.2
 refine ⟨_,c363 (S:=t.eN 1) (by omega) (fun x hx=>cW (kU x hx)) (t:=t) ⟨h.1.1,h.1.2.wf,fun x hx=>hx⟩,?_,?_⟩
 · refine BA ?_ h.1.1
   intro a ha
   simp only [List.mem_map] at ha
   obtain ⟨w,_,rfl⟩:=ha
   exact qa.ok
 · refine BK (K:=KS) h.1.2 (by simp only [KS,KG];omega) ?_ (.inr ?_)
   · intro i x hx
     rw [BS hx]
     exact qa.kn
   · intro y hy hk
     exact ⟨bw,FW (tJ (by simpa using hy) hk)⟩
def Ob (h:Hd):List AV:=[.pv (.str h.name),.pv (.bool h.d7),.pv (.aD (h.args.map Ty.pv)),.pv (.aD (h.types.map Ty.pv))]
def Oc (k:Int) (s:bV) (ks:List Ex):List AV:=[.pv (vI k),.pv (vI 0),.pv (.str s),.pv (vI 0),.own (ks.map Ex.pv) 3,.own [] 4,.pv (vI 0),.pv (.str []),.pv (vI 0),.pv (vI 0),.own [] 5]
theorem PY {L:List Int} {tm:Nat} {TP:Int→Sh} (hT:Tape L tm TP) {ds:List Dt} {dep:Nat} {l:List En} (hdep:dep<10) (hG:jk L tm TP ds dep) (hl:Ctx (1000-20*dep) l) {h:Hd} (hh:rS h):∀(n i:Nat),h.args.length-i=n→i≤h.args.length→∀(k:Int) (s:bV) (ks:List Ex) (I N:Nat),vj N ⟨k,0,s,0,ks,[],bR⟩→12*(dep+1)≤N→I≤L.length→∃(k':Int) (s':bV) (ks':List Ex) (J:Nat),vj (N+n) ⟨k',0,s',0,ks',[],bR⟩∧J≤L.length ∧
   cl AP g352L0 ⟨[(0,.a_ tm 0),(1,.pv (.aD (ds.map Dt.pv))),(2,.pv (.aD (l.map En.pv))),(4,.pv (vI (dep+1))),(10,.az 10 0),(12,.az 12 0),(13,.az 13 0),(14,.pv (vI i))],[(10,jA 0),(12,Ob h),(13,Oc k s ks)],TP I,[0,0,0,ks.length,0,0]⟩ =
     some (.exit 0,⟨[(0,.a_ tm 0),(1,.pv (.aD (ds.map Dt.pv))),(2,.pv (.aD (l.map En.pv))),(4,.pv (vI (dep+1))),(10,.az 10 0),(12,.az 12 0),(13,.az 13 0),(14,.pv (vI h.args.length)),(45,.pv (.bool false))],[(10,jA 0),(12,Ob h),(13,Oc k' s' ks')],TP J,[0,0,0,ks'.length,0,0]⟩)
 | 0,i,hn,hi,k,s,ks,I,N,hY,hN,hI=>by
   have tn:=hT.norm
   have tsh:=hT.shift
   have tl:=hT.take
   have:i=h.args.length:=by omega
   subst this
   refine ⟨k,s,ks,I,hY,hI,?_⟩
   rw [g352L0e]
   simp [tn,tsh,tl,g352B0,jA,Ob,Oc]
 | n+1,i,hn,hi,k,s,ks,I,N,hY,hN,hI=>by
   have tn:=hT.norm
   have tsh:=hT.shift
   have tl:=hT.take
   have hi:i<h.args.length:=by omega
   obtain ⟨t,ht⟩:=bn hi
   obtain ⟨u,k1,gu⟩:=c363x (hh.2 t (bo ht))
   obtain ⟨y,f1,f2,f3,j,k2,hy,hj⟩:=hG I l u hI hl gu
   have hY2:vj (N+1) ⟨5,0,[],0,[⟨k,0,s,0,ks,[],bR⟩,y],[],bR⟩:=eF (by decide) (by simp) ig ij (by
     intro x hx
     try simp [tn,tsh,tl] at hx
     rcases hx with rfl | rfl
     · exact hY
     · exact hy.up hN)
   obtain ⟨k',s',ks',J,q1,q2,e'⟩:=PY hT hdep hG hl hh n (i+1) (by omega) (by omega) 5 [] [⟨k,0,s,0,ks,[],bR⟩,y] j (N+1) hY2 (by omega) hj
   refine ⟨k',s',ks',J,q1.up (by omega),q2,?_⟩
   have hA:=d6 f1 f2 f3 y
   generalize d9 f1 f2 f3 y=A at k2 hA
   have ac:=Ex.bG y
   have tA:A.take 11=A:=List.take_of_length_le (by rw [hA.len];omega)
   have h2:(dep:Int)+1-1=dep:=by omega
   have ha:=hh.1
   rw [g352L0e] at e' ⊢
   simp [tn,tsh,tl,jA,Ob,Oc,bR] at e'
   try simp [tn,tsh,tl] at k1 k2
   simp (disch:=omega) [tn,tsh,tl,-getElem?_pos,g352B0,jA,Ob,Oc,ht,hi,h2,k1,k2,aq,hA.c_,hA.flat,hA.h_,hA.len,hA.leaf,tA,ac,aP]
   rw [g352L0e]
   simp [tn,tsh,tl,e']
theorem c352 {L:List Int} {tm:Nat} {TP:Int→Sh} (hT:Tape L tm TP) {ds:List Dt} {dep:Nat} {l:List En} {g:Ty} {i:Nat} (hL:Sm L) (hdep:dep<10) (hD:pP ds) (hG:jk L tm TP ds dep) (hl:Ctx (1000-20*(dep+1)) l) (hg:ck g) (hi:i≤L.length) :
   lJ L tm TP (12*(dep+2)) ((aN AP).i 352 [.a_ tm 0,.pv (.aD (ds.map Dt.pv)),.pv (.aD (l.map En.pv)),.pv g.pv,.pv (vI (dep+1:Nat))] (TP i) []):=by
 have tn:=hT.norm
 have tsh:=hT.shift
 have tl:=hT.take
 have hll:=hl.len
 obtain ⟨hs,n1,hO,k1⟩:=c362 hg hD (l:=l) (by omega) hl.PW
 by_cases z:hs=[]
 · subst z
   obtain ⟨e,f1,f2,f3,j,k,ht,hj⟩:=c348 hT hL (ds:=ds) (hl.gE (by omega)) hg hi
   refine ⟨e,f1,f2,f3,j,?_,ht.up (by omega),hj⟩
   try simp [tn,tsh,tl] at k1
   rw [aR (af:=g352) rfl (by simp [tn,tsh,tl,g352])]
   cases f1<;>cases f2<;>cases f3<;>simp [tn,tsh,tl,d9,ga] at k<;>simp [tn,tsh,tl,g352,k1,k,d9,ga,aP]
 · have hp:0<hs.length:=List.length_pos_iff.2 z
   obtain ⟨m,j,e1,m0,m1,hj⟩:=mJ hT hL hi (n:=hs.length) (by omega) (by omega)
   obtain ⟨m,rfl,hm⟩:=mz m0 m1
   obtain ⟨h,hx⟩:=bn hm
   have hhO:=hO h (bo hx)
   have ha:=hhO.1
   obtain ⟨k',s',ks',J,q1,q2,e2⟩:=PY hT (L:=L) (l:=l) hdep hG (hl.gE (by omega)) hhO _ 0 rfl (by omega) (if h.d7=true then 2 else 1) h.name [] j (12*(dep+1)) ((ek (by split<;>decide)).up (by omega)) (by omega) hj
   refine ⟨⟨k',0,s',0,ks',[],bR⟩,false,false,false,J,?_,q1.up (by omega),q2⟩
   rw [g352L0e] at e2
   try simp [tn,tsh,tl] at k1 e1
   rw [aR (af:=g352) rfl (by simp [tn,tsh,tl,g352])]
   cases hc:h.d7<;>simp [tn,tsh,tl,jA,Ob,Oc,hc] at e2<;>simp [tn,tsh,tl,-getElem?_pos,g352,k1,z,e1,hx,hc,g352L0e,e2,d9,ga,bR,aP]
end Go.Ab.Lw
namespace Go.Ab.Lw
open Ev
theorem Lz:∀d∈cG,d.params.length≤100∧∀c∈d.cons,∀f∈c.fields,Lr ⟨d.params.length,f.lX d.params⟩=true:=by decide +kernel
theorem yn {K:Nat} {t:Ty} (h:km ⟨K,t⟩) {as:List Ty} (ha:as.length=K) (hg:∀a∈as,ck a):ck (t.mC as):=by
 obtain ⟨K',h1,_,h3⟩:=h.PO
 have:K'=K:=by simp at h1;omega
 subst this
 exact ⟨I2 (fun a h=>(hg a h).ok) h.ok,I6 h.kn (by simp only [KC,KG];omega) (fun a h=>(hg a h).kn) (fun y hy hk=>by have:=h3 y hy hk;omega)⟩
theorem yp {ds:List Dt} (hD:pP ds) {s:bV} {as:List Ty} (hg:∀a∈as,ck a):((fieldsOf ds s as).getD []).length≤8∧∀f∈(fieldsOf ds s as).getD [],ck f:=by
 cases e:fieldsOf ds s as with
 | none=>simp
 | some fs=>
   simp only [fieldsOf,Option.bind_eq_some_iff] at e
   obtain ⟨q,_,d,hd,c,hc,e⟩:=e
   split at e
   · rename_i hl
     cases e
     have dA:=hD.all d (bo hd)
     obtain ⟨_,_,h8⟩:=d3 d dA
     obtain ⟨hb,hb2⟩:=Lz d dA
     refine ⟨by simpa using (h8 c (bo hc)).1,?_⟩
     intro f hf
     simp only [Option.getD_some,List.mem_map] at hf
     obtain ⟨x,hx,rfl⟩:=hf
     exact yn (Cy rfl hb (hb2 c (bo hc) x hx)) hl hg
   · cases e
theorem pP.small {ds:List Dt} (h:pP ds):Small ds where
 num:=by have:=h.len;unfold Sm;omega
 d7:=fun d hd=>by have:=(d3 d (h.all d hd)).2.1;unfold Sm;omega
 Q3:=by have:=h.len;have:=Ld (b:=8) fun d hd=>(d3 d (h.all d hd)).2.1;unfold Sm;omega
 par:=fun d hd=>by have:=(d3 d (h.all d hd)).1;unfold Sm;omega
 Pw:=fun d hd c hc=>by
   obtain ⟨a,b,c2⟩:=Cz (h.all d hd) c hc
   exact ⟨a,b,fun x hx=>(c2 x hx).cw⟩
theorem MF {L:List Int} {tm:Nat} {TP:Int→Sh} (hT:Tape L tm TP) (hL:Sm L) {ds:List Dt} (hds:ds.length≤20) (hda:∀d∈ds,d.params.length≤8) {p2:PV} {p4:PV} {g:Ty} {d:Dt} (hd8:d.params.length≤8):∀(n k:Nat),d.params.length-k=n→k≤d.params.length→∀(acc:List Ty) (i:Nat),acc.length=k→(∀x∈acc,ck x)→i≤L.length →
   ∃(r:List Ty) (j:Nat),r.length=d.params.length∧(∀x∈r,ck x)∧j≤L.length ∧
   cl AP g350L0 ⟨[(0,.a_ tm 0),(1,.pv (.aD (ds.map Dt.pv))),(2,.pv p2),(4,.pv p4),(8,.az 8 0),(10,.az 10 0),(11,.az 11 0),(12,.own (acc.map Ty.pv) 0),(13,.pv (vI k))],[(8,tC g),(10,jA 1),(11,qb d)],TP i,[acc.length,0,0,0]⟩ =
     some (.exit 0,⟨[(0,.a_ tm 0),(1,.pv (.aD (ds.map Dt.pv))),(2,.pv p2),(4,.pv p4),(8,.az 8 0),(10,.az 10 0),(11,.az 11 0),(12,.own (r.map Ty.pv) 0),(13,.pv (vI d.params.length)),(41,.pv (.bool false))],[(8,tC g),(10,jA 1),(11,qb d)],TP j,[r.length,0,0,0]⟩)
 | 0,k,hn,hk,acc,i,ha,hm,hi=>by
   have tn:=hT.norm
   have tsh:=hT.shift
   have tl:=hT.take
   have:k=d.params.length:=by omega
   subst this
   refine ⟨acc,i,ha,hm,hi,?_⟩
   rw [g350L0e]
   simp [tn,tsh,tl,g350B0,tC,jA,qb]
 | n+1,k,hn,hk,acc,i,ha,hm,hi=>by
   have tn:=hT.norm
   have tsh:=hT.shift
   have tl:=hT.take
   have hk:k<d.params.length:=by omega
   obtain ⟨t,j1,e1,mt,hj1⟩:=NJ hT hL hds hda (lv:=[]) (by simp [tn,tsh,tl,Sm]) 1 (by omega) i hi
   have gt:ck t:=kb hda (by simp) mt
   obtain ⟨r,j,h1,h2,h3,e'⟩:=MF hT hL hds hda (p2:=p2) (p4:=p4) (g:=g) hd8 n (k+1) (by omega) (by omega) (acc++[t]) j1 (by simp;omega) (by
     intro x hx;simp at hx;rcases hx with hx | rfl
     · exact hm x hx
     · exact gt) hj1
   refine ⟨r,j,h1,h2,h3,?_⟩
   have hb:(acc.length+1)*64≤140737488355328:=by omega
   rw [g350L0e] at e' ⊢
   simp [tn,tsh,tl,tC,jA,qb] at e'
   simp [tn,tsh,tl,Ty.av] at e1
   simp (disch:=omega) [tn,tsh,tl,-getElem?_pos,g350B0,tC,jA,qb,hk,e1,hb,aq]
   rw [g350L0e]
   simp [tn,tsh,tl,e']
def JH (x:Ex) (as:List Ar):List AV:=[.pv (vI 8),.pv (vI 0),.pv (.str []),.pv (vI 0),.own [x.pv] 4,.own (as.map Ar.pv) 5,.pv (vI 0),.pv (.str []),.pv (vI 0),.pv (vI 0),.own [] 6]
def Od (c:fW) (vs:List bV):List AV:=[.pv (vI 0),.pv (.str c.name),.own (vs.map .str) 7,.pv (vI 0),.pv (vI 0),.pv (.str []),.pv (vI 0),.own [] 8,.own [] 9,.pv (vI 0),.pv (.str []),.pv (vI 0),.pv (vI 0),.own [] 10]
def wN:List bV:=[[120],[121],[122],[119]]
theorem MG {L:List Int} {tm:Nat} {TP:Int→Sh} (hT:Tape L tm TP) {I:Nat} {p1 p2 p4:PV} {g:Ty} {d:Dt} {as:List Ty} {x:Ex} {ar:List Ar} {C:Nat} {c:fW} {f:List Ty} (hf8:f.length≤8) (hf:∀t∈f,ck t) {N:Nat} (hN:N≤10000):∀(n k:Nat),f.length-k=n→k≤f.length→∀(vs:List bV) (l:List En),vs.length=k→Ctx (N+k) l →
   ∃(r:List bV) (l':List En),r.length=f.length∧Ctx (N+f.length) l' ∧
   cl AP g350L2 ⟨[(0,.a_ tm 0),(1,.pv p1),(2,.pv p2),(4,.pv p4),(8,.az 8 0),(10,.az 10 0),(11,.az 11 0),(12,.own (as.map Ty.pv) 0),(14,.az 14 0),(15,.pv (vI C)),(16,.pv (.aD (f.map Ty.pv))),(18,.az 18 0),(19,.pv (.aD (l.map En.pv))),(20,.pv (vI k))],
     [(8,tC g),(10,jA 1),(11,qb d),(14,JH x ar),(18,Od c vs)],TP I,[as.length,0,0,0,1,ar.length,0,vs.length,0,0,0]⟩ =
     some (.exit 4,⟨[(0,.a_ tm 0),(1,.pv p1),(2,.pv p2),(4,.pv p4),(8,.az 8 0),(10,.az 10 0),(11,.az 11 0),(12,.own (as.map Ty.pv) 0),(14,.az 14 0),(15,.pv (vI C)),(16,.pv (.aD (f.map Ty.pv))),(18,.az 18 0),(19,.pv (.aD (l'.map En.pv))),(20,.pv (vI f.length)),(92,.pv (.bool false))],
     [(8,tC g),(10,jA 1),(11,qb d),(14,JH x ar),(18,Od c r)],TP I,[as.length,0,0,0,1,ar.length,0,r.length,0,0,0]⟩)
 | 0,k,hn,hk,vs,l,hv,hl=>by
   have tn:=hT.norm
   have tsh:=hT.shift
   have tl:=hT.take
   have:k=f.length:=by omega
   subst this
   refine ⟨vs,l,hv,hl,?_⟩
   rw [g350L2e]
   simp [tn,tsh,tl,g350B2,tC,jA,qb,JH,Od]
 | n+1,k,hn,hk,vs,l,hv,hl=>by
   have tn:=hT.norm
   have tsh:=hT.shift
   have tl:=hT.take
   have hk:k<f.length:=by omega
   obtain ⟨t,ht⟩:=bn hk
   have hll:=hl.len
   obtain ⟨q,hrem,hq⟩:∃q:Nat,(k:Int).tmod 4=q∧q<4:=⟨((k:Int) % 4).toNat,by rw [Int.tmod_eq_emod_of_nonneg (by omega)];omega,by omega⟩
   obtain ⟨s,hs⟩:=bn (l:=wN) (i:=q) (by simpa [wN] using hq)
   have k1:=c176 (t:=t)
   have k2:=c179 (l:=l) (by unfold Sm;omega) (n:=s) (c:=⟨0,t⟩)
   obtain ⟨r,l',h1,h2,e'⟩:=MG hT (L:=L) (I:=I) (p1:=p1) (p2:=p2) (p4:=p4) (g:=g) (d:=d) (as:=as) (x:=x) (ar:=ar) (C:=C) (c:=c) hf8 hf hN n (k+1) (by omega) (by omega) (vs++[s]) (l++[⟨s,⟨0,t⟩⟩]) (by simp;omega) (hl.push (hf t (bo ht)).mono (by omega))
   refine ⟨r,l',h1,h2,?_⟩
   have hb:(vs.length+1)*16≤140737488355328:=by omega
   have hs':([PV.str [120],.str [121],.str [122],.str [119]]:List PV)[q]?=some (.str s):=by
     have:([PV.str [120],.str [121],.str [122],.str [119]]:List PV)=wN.map PV.str:=rfl
     rw [this];simp [tn,tsh,tl,hs]
   rw [g350L2e] at e' ⊢
   simp [tn,tsh,tl,tC,jA,qb,JH,Od] at e'
   try simp [tn,tsh,tl] at k1 k2
   simp (disch:=omega) [tn,tsh,tl,-getElem?_pos,g350B2,tC,jA,qb,JH,Od,hk,ht,hrem,hs',k1,k2,hb,aq,aP]
   rw [g350L2e]
   simp [tn,tsh,tl,e']
end Go.Ab.Lw
namespace Go.Ab.Lw
open Ev
theorem yq {n:Nat} {x:Ex} {as:List Ar} (hx:vj n x) (ha:as.length≤1000) (h:∀a∈as,a.vars.length≤1000∧vj n a.body):vj (n+1) ⟨8,0,[],0,[x],as,bR⟩:=by
 have hc:∀y∈(⟨8,0,[],0,[x],as,bR⟩:Ex).ch,vj n y:=by
   intro y hy
   simp [Ex.ch] at hy
   rcases hy with rfl | ⟨a,ha,rfl⟩
   · exact hx
   · exact (h a ha).2
 exact ⟨⟨.mk (by simp) (by simpa using ha) (fun a hm=>(h a hm).1) ig fun y hy=>(hc y hy).sc.ok,.mk (fun _=>rfl) fun y hy=>(hc y hy).sc.one,.mk ij fun y hy=>(hc y hy).sc.cw⟩,.mk fun y hy=>(hc y hy).h⟩
theorem MH {L:List Int} {tm:Nat} {TP:Int→Sh} (hT:Tape L tm TP) {ds:List Dt} {dep:Nat} {l:List En} {g:Ty} (hdep:dep<10) (hD:pP ds) (hG:jk L tm TP ds dep) (hl:Ctx (1000-20*(dep+1)) l) (hg:ck g) {d:Dt} (hdm:d∈ds) {as:List Ty} (has:as.length≤8) (hga:∀a∈as,ck a) {x:Ex}:∀(n k:Nat),d.cons.length-k=n→k≤d.cons.length→∀(ar:List Ar) (i:Nat),ar.length=k→(∀a∈ar,a.vars.length≤1000∧vj (12*(dep+1)) a.body)→i≤L.length →
   ∃(r:List Ar) (j:Nat),r.length=d.cons.length∧(∀a∈r,a.vars.length≤1000∧vj (12*(dep+1)) a.body)∧j≤L.length ∧
   cl AP g350L1 ⟨[(0,.a_ tm 0),(1,.pv (.aD (ds.map Dt.pv))),(2,.pv (.aD (l.map En.pv))),(4,.pv (vI (dep+1))),(8,.az 8 0),(10,.az 10 0),(11,.az 11 0),(12,.own (as.map Ty.pv) 0),(14,.az 14 0),(15,.pv (vI k))],
     [(8,tC g),(10,jA 1),(11,qb d),(14,JH x ar)],TP i,[as.length,0,0,0,1,ar.length,0]⟩ =
     some (.exit 2,⟨[(0,.a_ tm 0),(1,.pv (.aD (ds.map Dt.pv))),(2,.pv (.aD (l.map En.pv))),(4,.pv (vI (dep+1))),(8,.az 8 0),(10,.az 10 0),(11,.az 11 0),(12,.own (as.map Ty.pv) 0),(14,.az 14 0),(15,.pv (vI d.cons.length)),(66,.pv (.bool false))],
     [(8,tC g),(10,jA 1),(11,qb d),(14,JH x r)],TP j,[as.length,0,0,0,1,r.length,0]⟩)
 | 0,k,hn,hk,ar,i,ha,hm,hi=>by
   have tn:=hT.norm
   have tsh:=hT.shift
   have tl:=hT.take
   have:k=d.cons.length:=by omega
   subst this
   refine ⟨ar,i,ha,hm,hi,?_⟩
   rw [g350L1e]
   simp [tn,tsh,tl,g350B1,tC,jA,qb,JH]
 | n+1,k,hn,hk,ar,i,ha,hm,hi=>by
   have tn:=hT.norm
   have tsh:=hT.shift
   have tl:=hT.take
   have hk:k<d.cons.length:=by omega
   obtain ⟨c,hc⟩:=bn hk
   have hc8:=(d3 d (hD.all d hdm)).2.1
   have k1:=c207 hD.small (as:=as) (by unfold Sm;omega) (s:=c.name)
   obtain ⟨hf8,hf⟩:=yp hD (s:=c.name) hga
   generalize hff:fieldsOf ds c.name as=F at *
   generalize hfe:F.getD []=f at *
   obtain ⟨vs,l',hv,hl',e1⟩:=MG hT (L:=L) (I:=i) (p1:=.aD (ds.map Dt.pv)) (p2:=.aD (l.map En.pv)) (p4:=vI (dep+1)) (g:=g) (d:=d) (as:=as) (x:=x) (ar:=ar) (C:=k) (c:=c) hf8 hf (N:=1000-20*(dep+1)) (by omega) _ 0 rfl (by omega) [] l rfl (hl.gE (by omega))
   obtain ⟨b,f1,f2,f3,j2,e2,hb,hj2⟩:=hG i l' g hi (hl'.gE (by omega)) hg
   obtain ⟨r,j,q1,q2,q3,e'⟩:=MH hT hdep hD hG hl hg hdm has hga (x:=x) n (k+1) (by omega) (by omega) (ar++[⟨0,c.name,vs,b⟩]) j2 (by simp;omega) (by
     intro a h;simp at h;rcases h with h | rfl
     · exact hm a h
     · exact ⟨by simp only;omega,hb⟩) hj2
   refine ⟨r,j,q1,q2,q3,?_⟩
   have hB:=d6 f1 f2 f3 b
   generalize d9 f1 f2 f3 b=B at e2 hB
   have bc:=Ex.bG b
   have tB:B.take 11=B:=List.take_of_length_le (by rw [hB.len];omega)
   have hbb:(ar.length+1)*200≤140737488355328:=by omega
   have hd1:(dep:Int)+1-1=dep:=by omega
   rw [g350L2e] at e1
   rw [g350L1e] at e'
   simp [tn,tsh,tl,tC,jA,qb,JH,Od] at e1 e' e2 ⊢
   simp [tn,tsh,tl,PC,hfe] at k1
   rw [g350L1e]
   simp (disch:=omega) [tn,tsh,tl,-getElem?_pos,g350B1,hc,hk,k1,aq,hd1,g350L2e,e1,e2,hbb,aP,hB.c_,hB.flat,hB.h_,hB.len,hB.leaf,tB,bc]
   rw [g350L1e]
   simp [tn,tsh,tl,e']
theorem c350 {L:List Int} {tm:Nat} {TP:Int→Sh} (hT:Tape L tm TP) {ds:List Dt} {dep:Nat} {l:List En} {g:Ty} {i:Nat} (hL:Sm L) (hdep:dep<10) (hD:pP ds) (hG:jk L tm TP ds dep) (hl:Ctx (1000-20*(dep+1)) l) (hg:ck g) (hi:i≤L.length) :
   lJ L tm TP (12*(dep+2)) ((aN AP).i 350 [.a_ tm 0,.pv (.aD (ds.map Dt.pv)),.pv (.aD (l.map En.pv)),.pv g.pv,.pv (vI (dep+1:Nat))] (TP i) []):=by
 have tn:=hT.norm
 have tsh:=hT.shift
 have tl:=hT.take
 have hll:=hl.len
 by_cases z:ds=[]
 · subst z
   obtain ⟨e,f1,f2,f3,j,k,ht,hj⟩:=c348 hT hL (ds:=[]) (hl.gE (by omega)) hg hi
   refine ⟨e,f1,f2,f3,j,?_,ht.up (by omega),hj⟩
   rw [aR (af:=g350) rfl (by simp [tn,tsh,tl,g350])]
   cases f1<;>cases f2<;>cases f3<;>simp [tn,tsh,tl,d9,ga] at k<;>simp [tn,tsh,tl,g350,k,d9,ga,aP]
 · have hp:0<ds.length:=List.length_pos_iff.2 z
   have hdl:=hD.len
   have hda:∀d∈ds,d.params.length≤8:=fun d hd=>(d3 d (hD.all d hd)).1
   obtain ⟨m,j1,e1,m0,m1,hj1⟩:=mJ hT hL hi (n:=ds.length) (by omega) (by omega)
   obtain ⟨m,rfl,hm⟩:=mz m0 m1
   obtain ⟨d,hd⟩:=bn hm
   have hdm:=bo hd
   obtain ⟨as,j2,a1,a2,hj2,e2⟩:=MF hT hL (by omega) hda (p2:=.aD (l.map En.pv)) (p4:=vI (dep+1)) (g:=g) (hda d hdm) _ 0 rfl (by omega) [] j1 rfl (by simp) hj1
   have hd8:=hda d hdm
   have hd10:=(d3 d (hD.all d hdm)).2.1
   have k1:=c62 (s:=d.name) (l:=as) (by unfold Sm;omega)
   have gt:ck ⟨4,d.name,0,0,as⟩:=⟨⟨by unfold Sm;simp only;omega,fun x hx=>(a2 x hx).ok⟩,.mk (by simp) fun x hx=>(a2 x hx).kn⟩
   obtain ⟨x,f1,f2,f3,j3,e3,hx,hj3⟩:=hG j2 l _ hj2 (hl.gE (by omega)) gt
   obtain ⟨r,j4,b1,b2,hj4,e4⟩:=MH hT hdep hD hG hl hg hdm (by omega) a2 (x:=x) _ 0 rfl (by omega) [] j3 rfl (by simp) hj3
   refine ⟨⟨8,0,[],0,[x],r,bR⟩,false,false,false,j4,?_,(yq hx (by omega) b2).up (by omega),hj4⟩
   have hA:=d6 f1 f2 f3 x
   generalize d9 f1 f2 f3 x=A at e3 hA
   have ac:=Ex.bG x
   have hd1:(dep:Int)+1-1=dep:=by omega
   rw [g350L0e] at e2
   rw [g350L1e] at e4
   simp [tn,tsh,tl,tC,jA,qb,JH] at e1 e2 e3 e4 k1
   rw [aR (af:=g350) rfl (by simp [tn,tsh,tl,g350])]
   simp (disch:=omega) [tn,tsh,tl,-getElem?_pos,g350,z,hd1,aq,e1,hd,g350L0e,e2,k1,e3,hA.c_,hA.flat,hA.h_,hA.len,hA.leaf,ac,g350L1e,e4,aP,d9,ga,bR]
theorem c326 {L:List Int} {tm:Nat} {TP:Int→Sh} (hT:Tape L tm TP) {ds:List Dt} (hL:Sm L) (hD:pP ds):∀dep:Nat,dep≤10→jk L tm TP ds dep
 | 0,_=>fun i l g hi hl hg=>Jo hT hL (hl.gE (by omega)) hg hi
 | dep+1,hdep=>fun i l g hi hl hg=>by
   have tn:=hT.norm
   have tsh:=hT.shift
   have tl:=hT.take
   have hG:=c326 hT hL hD dep (by omega)
   have hdl:=hD.len
   have hda:∀d∈ds,d.params.length≤8:=fun d hd=>(d3 d (hD.all d hd)).1
   obtain ⟨r9,j9,e9,r0,r1,hj9⟩:=mJ hT hL hi (n:=9) (by omega) (by omega)
   by_cases nz:r9=0
   · subst nz
     exact Lv hT hL (by omega) (hl.gE (by omega)) hg hj9 e9
   · obtain ⟨a,b,ar,arr,_,_,hab⟩:=c194g hg.ok
     obtain ⟨k,j,rU,k0,k1,hj⟩:=mJ hT hL hj9 (n:=10) (by omega) (by omega)
     have P:Jp L tm TP g i a b ar k r9 j9 j:=⟨nz,e9,arr,rU,hj⟩
     have h1:¬((dep:Int)+1<1):=by omega
     have headed:(ar=true→7≤k)→(ar=false→¬k<2∧k≠2∧k≠3∧k≠5∧(k=4→¬(g.jz 3=false∧g.jz 1=false)))→rT L tm TP ds (dep+1) l g i:=by
       intro H1 H2
       obtain ⟨e,f1,f2,f3,j',kk,ht,hj'⟩:=c352 hT hL (by omega) hD hG hl hg hj
       refine ⟨e,f1,f2,f3,j',?_,ht,hj'⟩
       have c3:=c351 (k:=3) hg.ok
       have c1:=c351 (k:=1) hg.ok
       try simp [tn,tsh,tl] at e9 arr rU c3 c1
       rw [aR (af:=g326) rfl (by simp [tn,tsh,tl,g326])]
       cases ar with
       | true=>
         have q:=H1 rfl
         have q7:¬k<7:=by omega
         have q2:¬k<2:=by omega
         have q3:¬k=2:=by omega
         have q4:¬k=3:=by omega
         have q5:¬k=4:=by omega
         have q6:¬k=5:=by omega
         cases f1<;>cases f2<;>cases f3<;>simp [tn,tsh,tl,d9,ga] at kk<;>simp [tn,tsh,tl,g326,h1,nz,e9,arr,rU,q7,q2,q3,q4,q5,q6,kk,d9,ga,aP]
       | false=>
         obtain ⟨q2,q3,q4,q6,q5⟩:=H2 rfl
         by_cases h4:k=4
         · have:=q5 h4
           subst h4
           cases g3:g.jz 3 with
           | true=>
             rw [g3] at c3
             cases f1<;>cases f2<;>cases f3<;>simp [tn,tsh,tl,d9,ga] at kk<;>simp [tn,tsh,tl,g326,h1,nz,e9,arr,rU,c3,kk,d9,ga,aP]
           | false=>
             rw [g3] at c3
             have g1:g.jz 1=true:=by
               cases g1:g.jz 1 with
               | true=>rfl
               | false=>exact absurd ⟨g3,g1⟩ this
             rw [g1] at c1
             cases f1<;>cases f2<;>cases f3<;>simp [tn,tsh,tl,d9,ga] at kk<;>simp [tn,tsh,tl,g326,h1,nz,e9,arr,rU,c3,c1,kk,d9,ga,aP]
         · cases f1<;>cases f2<;>cases f3<;>simp [tn,tsh,tl,d9,ga] at kk<;>simp [tn,tsh,tl,g326,h1,nz,e9,arr,rU,q2,q3,q4,h4,q6,kk,d9,ga,aP]
     cases ar with
     | true=>
       have hq:=hab rfl
       by_cases h7:k<7
       · exact NL hT hL (by omega) hG hl P h7 (hg.fw a (by rw [hq];simp)) (hg.fw b (by rw [hq];simp))
       · exact headed (fun _=>by omega) (by simp)
     | false=>
       by_cases h2:k<2
       · exact NM hT hL (by omega) (by omega) hda hG hl hg P h2
       · by_cases h3:k=2
         · subst h3
           obtain ⟨e,f1,f2,f3,j',kk,ht,hj'⟩:=c349 hT hL (by omega) (by omega) hda hG hl hg hj
           refine ⟨e,f1,f2,f3,j',?_,ht,hj'⟩
           try simp [tn,tsh,tl] at e9 arr rU
           rw [aR (af:=g326) rfl (by simp [tn,tsh,tl,g326])]
           cases f1<;>cases f2<;>cases f3<;>simp [tn,tsh,tl,d9,ga] at kk<;>simp [tn,tsh,tl,g326,h1,nz,e9,arr,rU,kk,d9,ga,aP]
         · by_cases h4:k=3
           · subst h4
             obtain ⟨e,f1,f2,f3,j',kk,ht,hj'⟩:=c350 hT hL (by omega) hD hG hl hg hj
             refine ⟨e,f1,f2,f3,j',?_,ht,hj'⟩
             try simp [tn,tsh,tl] at e9 arr rU
             rw [aR (af:=g326) rfl (by simp [tn,tsh,tl,g326])]
             cases f1<;>cases f2<;>cases f3<;>simp [tn,tsh,tl,d9,ga] at kk<;>simp [tn,tsh,tl,g326,h1,nz,e9,arr,rU,kk,d9,ga,aP]
           · by_cases h5:k=5
             · subst h5
               exact Lx hT hL (by omega) hG hl hg P
             · by_cases h6:k=4∧g.jz 3=false∧g.jz 1=false
               · obtain ⟨rfl,q1,q2⟩:=h6
                 exact NN hT hL (by omega) hG hl hg P q1 q2
               · exact headed (by simp) (fun _=>⟨h2,h3,h4,h5,fun q=>fun w=>h6 ⟨q,w⟩⟩)
end Go.Ab.Lw
namespace Go.Ab.Lw
open Ev
theorem LA {s:List bV} {y:bV} (h:y∈s):0≤kR s y∧kR s y<s.length:=by
 unfold kR
 cases e:cX (fun x=>decide (x=y)) s with
 | none=>have:=lE.1 e y h;simp at this
 | some k=>
   have:k<s.length:=by
     clear h
     induction s generalizing k with
     | nil=>simp [cX] at e
     | cons a r ih=>
       simp only [cX] at e
       split at e
       · cases e;simp
       · simp only [Option.map_eq_some_iff] at e
         obtain ⟨j,hj,rfl⟩:=e
         have:=ih j hj
         simp;omega
   simp [nq];omega
theorem yt:∀{l out:List bV} {y:bV},y∈l→y∈l.foldl cH out
 | a::r,out,y,h=>by
   rw [List.foldl_cons]
   simp only [List.mem_cons] at h
   rcases h with rfl | h
   · refine oF ?_
     unfold cH;split
     · assumption
     · simp
   · exact yt h
theorem lK:∀{l out:List bV},(l.foldl cH out).length≤out.length+l.length
 | [],out=>by simp
 | a::r,out=>by
   have h:=lK (l:=r) (out:=cH out a)
   have:(cH out a).length≤out.length+1:=by unfold cH;split<;>simp
   simp only [List.foldl_cons,List.length_cons]
   omega
theorem mL {t:Ty}:t.d0.length≤t.nodes.length∧∀z∈t.nodes,z.kind=5→z.name∈t.d0:=by
 refine Ty.eD (p:=fun t=>t.d0.length≤t.nodes.length∧∀z∈t.nodes,z.kind=5→z.name∈t.d0) ?_ t
 intro t ih
 have key:∀l:List Ty,(∀a∈l,a.d0.length≤a.nodes.length)→(l.flatMap Ty.d0).length≤(l.flatMap Ty.nodes).length:=by
   intro l
   induction l with
   | nil=>intro _;simp
   | cons a r ihr=>
     intro h
     have h1:=h a (by simp)
     have h2:=ihr fun b hb=>h b (by simp [hb])
     simp only [List.flatMap_cons,List.length_append]
     omega
 rw [Ty.p8,Ty.bp]
 refine ⟨?_,?_⟩
 · have:=key t.args fun a ha=>(ih a ha).1
   have h1:(if t.kind=5 then [t.name] else []).length≤1:=by split<;>simp
   simp only [List.length_append,List.length_cons]
   omega
 · intro z hz hk
   simp only [List.mem_cons,List.mem_flatMap] at hz
   rcases hz with rfl | ⟨a,ha,hz⟩
   · rw [if_pos hk];simp
   · refine List.mem_append_right _ ?_
     simp only [List.mem_flatMap]
     exact ⟨a,ha,(ih a ha).2 z hz hk⟩
theorem LB {l:List bV} {t:Ty} (h:t.Kn (·=5)) (hl:∀z∈t.nodes,z.kind=5→z.name∈l):(t.lX l).Kn KC∧Lo l.length (t.lX l):=by
 induction h with
 | @mk t hh _ ih=>
   have hself:t∈t.nodes:=by rw [Ty.bp];simp
   rw [Ty.BL]
   by_cases k:t.kind=5
   · have hp:=LA (hl t hself k)
     rw [if_pos ⟨k,hp.1⟩]
     refine ⟨.bare rfl (by simp [dm]),?_⟩
     intro y hy _
     rw [Ty.bp] at hy
     simp [dm] at hy
     subst hy
     exact hp
   · rw [if_neg (fun q=>k q.1)]
     have hk4:t.kind=4:=by
       by_cases q:t.kind=4
       · exact q
       · exact absurd (hh q).1 k
     refine ⟨.mk (fun q=>absurd hk4 q) ?_,?_⟩
     · intro x hx
       simp only [List.mem_map] at hx
       obtain ⟨a,ha,rfl⟩:=hx
       exact (ih a ha fun z hz=>hl z (FP a ha z hz)).1
     · intro y hy hy2
       rw [Ty.bp] at hy
       simp only [List.mem_cons,List.mem_flatMap,List.mem_map] at hy
       rcases hy with rfl | ⟨b,⟨a,ha,rfl⟩,hy⟩
       · simp only at hy2;omega
       · exact (ih a ha fun z hz=>hl z (FP a ha z hz)).2 y hy hy2
theorem yu {D:Dt→Prop} {lv:List Ty} (h:∀t∈lv,t.args=[]∧t.kind=5) {n:Nat} {t:Ty} (m:gv D lv n t):t.Kn (·=5):=by
 induction m with
 | leaf hl=>exact .bare (h _ hl).1 (fun _=>(h _ hl).2)
 | int=>exact .bare rfl (by simp [bw])
 | d7 _ _ _ ih=>exact .mk (by simp) ih
 | arrow _ _ iha ihb=>exact .mk (by simp) (by intro x hx;simp at hx;rcases hx with rfl | rfl<;>assumption)
theorem yv {h:Int}:∀{n:Nat} {x:Ty},x∈j_ h n→∃i:Nat,x=np h i
 | 0,x,hx=>by simp [j_] at hx
 | n+1,x,hx=>by
   simp [j_] at hx
   rcases hx with hx | rfl
   · exact yv hx
   · exact ⟨n,rfl⟩
structure FX (t:Ty):Prop where
 ok:t.Ok
 kn:t.Kn (·=5)
 n:t.nodes.length≤90
theorem FX.both {t:Ty} (h:FX t):∃(u:Ty) (c:Sc),(aN AP).p 325 [t.pv]=some [u.pv]∧(aN AP).p 327 [t.pv,vI 98]=some [u.pv,c.pv]∧ck u∧km c:=by
 obtain ⟨s1,s2⟩:=mL (t:=t)
 have hn:=h.n
 have k1:=c325 (S:=t.d0) (by omega) h.ok h.kn.cw (fun y hy=>hy)
 have k2:=c327 (S:=t.d0) (by omega) h.ok h.kn.cw (fun y hy=>hy) (h:=98)
 have hl:(cr t).length≤90:=by
   have:=lK (l:=t.d0) (out:=[])
   simp at this
   unfold cr;omega
 obtain ⟨b1,b2⟩:=LB (l:=cr t) h.kn (fun z hz hk=>yt (s2 z hz hk))
 have sc:km ⟨(cr t).length,t.lX (cr t)⟩:=⟨BN h.ok,b1,(cr t).length,rfl,by omega,b2⟩
 refine ⟨_,_,k1,k2,?_,sc⟩
 refine yn sc (by rw [kV]) ?_
 intro a ha
 obtain ⟨i,rfl⟩:=yv ha
 exact ⟨cW rfl,.bare rfl (by simp [np])⟩
end Go.Ab.Lw
namespace Go.Ab.Lw
open Ev
structure Bd where
 pos:Int
 rc:Bool
 name:bV
 sg:Bool
 sig:Ty
 body:Ex
def Bd.cells (b:Bd):List PV:=[vI b.pos,.bool b.rc,.str b.name,.bool b.sg,vI b.sig.kind,.str b.sig.name,vI b.sig.id,vI b.sig.home,.aD (b.sig.args.map Ty.pv)]++b.body.cells
def Bd.pv (b:Bd):PV:=.agg b.cells
@[simp] theorem Bd.kN (b:Bd):b.pv=.agg [vI b.pos,.bool b.rc,.str b.name,.bool b.sg,vI b.sig.kind,.str b.sig.name,vI b.sig.id,vI b.sig.home,.aD (b.sig.args.map Ty.pv),.int .i64 b.body.kind,.int .i64 b.body.pos,.str b.body.name,.int .i64 b.body.num,.aD (b.body.kids.map Ex.pv),.aD (b.body.aX.map Ar.pv),.int .i64 b.body.ty.kind,.str b.body.ty.name,.int .i64 b.body.ty.id,.int .i64 b.body.ty.home,.aD (b.body.ty.args.map Ty.pv)]:=by
 rw [Bd.pv,Bd.cells,Ex.bG];rfl
theorem dt:Row Bd.cells 20:=⟨by omega,fun b=>by rw [Bd.cells,Ex.bG];rfl⟩
theorem PZ:El Bd.pv 20 true:=⟨fun b=>by simp,fun b=>by simp⟩
@[simp] theorem Oe {l:List Bd}:bI 20 (l.map Bd.pv)=true:=PZ.head l
theorem vk {l:List Bd}:((fh (bj Bd.cells l)).bind (fm 20 true l.length)).map PV.aD=some (.aD (l.map Bd.pv)):=pY dt
theorem NO {l:List Bd}:((l.map Bd.pv).flatMap bz).map AV.pv=bj Bd.cells l:=pZ dt
structure kY (N:Nat) (b:Bd):Prop where
 sc:uY b.body
 h:b.body.tt N
 so:b.sig.Ok
 sw:b.sig.Cw
 sn:b.sig.nodes.length≤90
def qd (L:List Int) (k:Nat) (bs:List Bd) (j:Int):Sh:=[]++[some [.pv (.aD (L.map vI)),.pv (vI j)]]++(nn k++[some (bj Bd.cells bs)])
theorem iU {L:List Int} {k:Nat} {bs:List Bd}:Tape L 0 (qd L k bs):=CB (A:=[]) (by intro cs h;simp at h) ((dr k).app (bq.one bJ))
theorem CC {L:List Int} {k:Nat} {bs:List Bd} {j:Int}:(qd L k bs j)[1+k]?=some (some (bj Bd.cells bs)):=by
 simp [qd,List.getElem?_append_right,Nat.add_comm,nn]
theorem LC {L:List Int} {k:Nat} {bs:List Bd} {j:Int} {F:List AV}:(qd L k bs j).set (1+k) none++[some F]=[]++[some [.pv (.aD (L.map vI)),.pv (vI j)]]++(nn (k+1)++[some F]):=by
 simp [qd,nn,Nat.add_comm 1 k,List.set_append,List.replicate_succ']
theorem LD {L:List Int} {k:Nat} {bs:List Bd} {j:Int}:(qd L k bs j).length=1+k+1:=by simp [qd,nn];omega
def Qq:List bV:=[[112],[113],[114],[115]]
theorem LF {i:Nat} {s:bV} (h:Qq[i]?=some s):([PV.str [112],.str [113],.str [114],.str [115]]:List PV)[i]?=some (.str s):=by
 have:([PV.str [112],.str [113],.str [114],.str [115]]:List PV)=Qq.map PV.str:=rfl
 rw [this];simp [h]
end Go.Ab.Lw
namespace Go.Ab.Lw
open Ev
structure It (L:List Int) (tm:Nat) (TP:Int→Sh) (ds:List Dt) (l:List En) (nm:bV) (i:Nat) (r4 r3 r2:Int) (x1 x u:Ty) (sc c':Sc) (e:Ex) (A:List AV) (b10 b11:Bool) (j1 j2 j3 j4 j5 j6:Nat):Prop where
 e1:(aN AP).i 68 [.a_ tm 0,.pv (vI 4)] (TP i) []=some ([.pv (vI r4)],TP j1,[])
 k0:(aN AP).p 67 []=some [.aD (kP.map Ty.pv)]
 e2:(aN AP).i 27 [.a_ tm 0,.pv (.aD (ds.map Dt.pv)),.pv (.aD (kP.map Ty.pv)),.pv (vI 2)] (TP j1) []=some ([x1.av],TP j2,[])
 e3:(aN AP).i 68 [.a_ tm 0,.pv (vI 3)] (TP j2) []=some ([.pv (vI r3)],TP j3,[])
 e4:if r3=0 then (aN AP).i 27 [.a_ tm 0,.pv (.aD (ds.map Dt.pv)),.pv (.aD []),.pv (vI 2)] (TP j3) []=some ([x.av],TP j4,[]) else x=x1∧j4=j3
 e5:(aN AP).i 68 [.a_ tm 0,.pv (vI 2)] (TP j4) []=some ([.pv (vI r2)],TP j5,[])
 k1:(aN AP).p 325 [x.pv]=some [u.pv]
 k2:(aN AP).p 327 [x.pv,vI 98]=some [u.pv,sc.pv]
 k3:(aN AP).p 176 [u.pv]=some [(As.mk 0 u).pv]
 k4:(aN AP).p 179 [.aD (l.map En.pv),.str nm,(As.mk 0 u).pv]=some [.aD ((l++[En.mk nm ⟨0,u⟩]).map En.pv)]
 e6:(aN AP).i 326 [.a_ tm 0,.pv (.aD (ds.map Dt.pv)),.pv (.aD ((if r4=1 then l++[⟨nm,⟨0,u⟩⟩] else l).map En.pv)),.pv u.pv,.pv (vI 3)] (TP j5) []=some ([.agg A],TP j6,[])
 hA:Q2 e A
 k5:(aN AP).p 307 [e.pv,vI 10]=some [.bool b10]
 k6:(aN AP).p 307 [e.pv,vI 11]=some [.bool b11]
 k7:(aN AP).p 34 []=some [bw.pv]
 k8:(aN AP).p 176 [bw.pv]=some [(As.mk 0 bw).pv]
 hc:c'=if ¬r2=0∧(b10=true∨b11=true) then ⟨0,bw⟩ else sc
 k9:(aN AP).p 179 [.aD (l.map En.pv),.str nm,c'.pv]=some [.aD ((l++[En.mk nm c']).map En.pv)]
 ME:km c'
 ty:vj 60 e
 sx:FX x
 hj:j6≤L.length
theorem P0 {L:List Int} {tm:Nat} {TP:Int→Sh} (hT:Tape L tm TP) (hL:Sm L) {ds:List Dt} (hD:pP ds) {l:List En} (hl:Ctx 900 l) {i:Nat} (hi:i≤L.length) (nm:bV) :
   ∃r4 r3 r2 x1 x u sc c' e A b10 b11 j1 j2 j3 j4 j5 j6,It L tm TP ds l nm i r4 r3 r2 x1 x u sc c' e A b10 b11 j1 j2 j3 j4 j5 j6:=by
 have hdl:=hD.len
 have hda:∀d∈ds,d.params.length≤8:=fun d hd=>(d3 d (hD.all d hd)).1
 have hll:=hl.len
 have nL:∀t∈kP,t.args=[]∧t.kind=5:=by
   intro t ht
   simp [kP] at ht
   rcases ht with rfl | rfl | rfl<;>exact ⟨rfl,rfl⟩
 have sig:∀{lv:List Ty} {x:Ty},(∀t∈lv,t.args=[]∧t.kind=5)→gv (·∈ds) lv 2 x→FX x:=fun h m=>⟨m.ok hda (fun t ht=>(h t ht).1),yu h m,by have:=m.small hda (fun t ht=>(h t ht).1);omega⟩
 obtain ⟨r4,j1,e1,_,_,hj1⟩:=mJ hT hL hi (n:=4) (by omega) (by omega)
 obtain ⟨x1,j2,e2,m1,hj2⟩:=NJ hT hL (ds:=ds) (by omega) hda (lv:=kP) (by simp [Sm,kP]) 2 (by omega) j1 hj1
 obtain ⟨r3,j3,e3,_,_,hj3⟩:=mJ hT hL hj2 (n:=3) (by omega) (by omega)
 obtain ⟨x,j4,e4,sx,hj4⟩:∃(x:Ty) (j4:Nat),(if r3=0 then (aN AP).i 27 [.a_ tm 0,.pv (.aD (ds.map Dt.pv)),.pv (.aD []),.pv (vI 2)] (TP j3) []=some ([x.av],TP j4,[]) else x=x1∧j4=j3)∧FX x∧j4≤L.length:=by
   by_cases h:r3=0
   · obtain ⟨x,j4,e4,m,hj4⟩:=NJ hT hL (ds:=ds) (by omega) hda (lv:=[]) (by simp [Sm]) 2 (by omega) j3 hj3
     exact ⟨x,j4,by rw [if_pos h];exact e4,sig (by simp) m,hj4⟩
   · exact ⟨x1,j3,by rw [if_neg h];exact ⟨rfl,rfl⟩,sig nL m1,hj3⟩
 obtain ⟨r2,j5,e5,_,_,hj5⟩:=mJ hT hL hj4 (n:=2) (by omega) (by omega)
 obtain ⟨u,sc,k1,k2,gu,hsc⟩:=sx.both
 have k3:=c176 (t:=u)
 have k4:=c179 (l:=l) (by unfold Sm;omega) (n:=nm) (c:=⟨0,u⟩)
 have hli:Ctx (1000-20*3) (if r4=1 then l++[⟨nm,⟨0,u⟩⟩] else l):=by
   split
   · exact hl.push gu.mono (by omega)
   · exact hl.gE (by omega)
 obtain ⟨e,f1,f2,f3,j6,e6,he,hj6⟩:=c326 hT hL hD 3 (by omega) j5 _ u hj5 hli gu
 obtain ⟨b10,k5⟩:=c307 he.sc.ok 10
 obtain ⟨b11,k6⟩:=c307 he.sc.ok 11
 have ME:km (if ¬r2=0∧(b10=true∨b11=true) then ⟨0,bw⟩ else sc):=by
   split
   · exact qa.mono
   · exact hsc
 exact ⟨r4,r3,r2,x1,x,u,sc,_,e,_,b10,b11,j1,j2,j3,j4,j5,j6,e1,c67,e2,e3,e4,e5,k1,k2,k3,k4,e6,d6 f1 f2 f3 e,k5,k6,c34,c176,rfl,c179 (by unfold Sm;omega),ME,he.up (by omega),sx,hj6⟩
def kZ (nm:bV) (r4 r2:Int) (x:Ty) (e:Ex):Bd:=⟨0,decide (r4=1),nm,decide (r2=0),if r2=0 then x else bR,e⟩
theorem CD {nm:bV} {r4 r2:Int} {x:Ty} {e:Ex} (sx:FX x) (ty:vj 60 e):kY 100 (kZ nm r4 r2 x e):=by
 refine ⟨ty.sc,kX ty.h (by omega),?_,?_,?_⟩<;>simp only [kZ]<;>split
 · exact sx.ok
 · exact ig
 · exact sx.kn.cw
 · exact ij
 · exact sx.n
 · rw [Ty.bp];simp [bR]
theorem P3 {L:List Int} (hL:Sm L) {ds:List Dt} (hD:pP ds) {l:List En} (hl:Ctx 900 l) {N i k:Nat} (hi4:i<N) (hN:N≤4) {bs:List Bd} (hb0:bs.length=i) {j:Nat} (hj:j≤L.length):∃(b:Bd) (l':List En) (j':Nat),kY 100 b∧Ctx (l.length+1) l'∧j'≤L.length ∧
   cl AP g306L0 ⟨[(4,.az 4 0),(5,.a_ 0 0),(6,.az 6 0),(7,.pv (.aD (l.map En.pv))),(8,.pv (vI N)),(9,.pv (vI i))],[(4,[.own [] 0,.own [] 1]),(6,[.pv (.aD (ds.map Dt.pv)),.bu (1+k) 20 bs.length true])],qd L k bs j,[0,0]⟩ =
   cl AP g306L0 ⟨[(4,.az 4 0),(5,.a_ 0 0),(6,.az 6 0),(7,.pv (.aD (l'.map En.pv))),(8,.pv (vI N)),(9,.pv (vI (i+1:Nat)))],[(4,[.own [] 0,.own [] 1]),(6,[.pv (.aD (ds.map Dt.pv)),.bu (1+k+1) 20 (bs++[b]).length true])],qd L (k+1) (bs++[b]) j',[0,0]⟩:=by
 obtain ⟨nm,hnm⟩:=bn (l:=Qq) (i:=i) (by simp [Qq];omega)
 have hnm':=LF hnm
 have hT:=iU (L:=L) (k:=k) (bs:=bs)
 obtain ⟨r4,r3,r2,x1,x,u,sc,c',e,A,b10,b11,j1,j2,j3,j4,j5,j6,I⟩:=P0 hT hL hD hl hj nm
 obtain ⟨e1,k0,e2,e3,e4,e5,k1,k2,k3,k4,e6,hA,k5,k6,k7,k8,hc,k9,ME,ty,sx,hj6⟩:=I
 refine ⟨kZ nm r4 r2 x e,l++[⟨nm,c'⟩],j6,CD sx ty,⟨by simp,by
   intro y hy;simp at hy;rcases hy with hy | rfl
   · exact hl.PW y hy
   · exact ME⟩,hj6,?_⟩
 have tn:=hT.norm
 have tsh:=hT.shift
 have tl:=hT.take
 have g1:=CC (L:=L) (k:=k) (bs:=bs) (j:=j6)
 have g2:=LC (L:=L) (k:=k) (bs:=bs) (j:=j6) (F:=bj Bd.cells (bs++[kZ nm r4 r2 x e]))
 have g3:=LD (L:=L) (k:=k) (bs:=bs) (j:=j6)
 have hfl:bj Bd.cells (bs++[kZ nm r4 r2 x e])=bj Bd.cells bs++(kZ nm r4 r2 x e).cells.map .pv:=by rw [uU];simp [bj]
 have ec:=Ex.bG e
 have bc:(kZ nm r4 r2 x e).cells=[vI 0,.bool (decide (r4=1)),.str nm,.bool (decide (r2=0)),vI (if r2=0 then x else bR).kind,.str (if r2=0 then x else bR).name,vI (if r2=0 then x else bR).id,vI (if r2=0 then x else bR).home,.aD ((if r2=0 then x else bR).args.map Ty.pv)]++e.cells:=rfl
 have r1:(bj Bd.cells bs).length=bs.length*20:=cK dt
 have r2':cR (bj Bd.cells bs)=false:=db bJ
 have r3':(bj Bd.cells bs).take (bs.length*20)=bj Bd.cells bs:=List.take_of_length_le (by omega)
 have hb2:(bs.length+1)*256≤140737488355328:=by omega
 have hi':(i:Int)<N:=by omega
 have hq:bq (qd L (k+1) (bs++[kZ nm r4 r2 x e]) j6):=(iU (L:=L) (k:=k+1) (bs:=bs++[kZ nm r4 r2 x e])).quiet j6
 have tn2:=hq.norm
 have sheq:qd L (k+1) (bs++[kZ nm r4 r2 x e]) j6=(qd L k bs j6).set (1+k) none++[some (bj Bd.cells bs++(kZ nm r4 r2 x e).cells.map .pv)]:=by rw [←hfl,g2];rfl
 rw [sheq] at tn2 ⊢
 rw [bc] at tn2 ⊢
 generalize bj Bd.cells bs=F at *
 have tA:A.take 11=A:=List.take_of_length_le (by rw [hA.len];omega)
 generalize hTP:qd L k bs=TP at *
 clear g2 hfl sheq
 generalize hS1:(TP j6).set (1+k) none=S1 at *
 rw [ec]
 rw [ec] at tn2
 simp [Ty.av] at e1 k0 e2 e3 e5 k1 k2 k3 k4 e6 k5 k6 k7 k8 k9
 by_cases h4:r4=1
 · by_cases h3:r3=0
   · simp [h3,Ty.av] at e4 e3
     by_cases h2:r2=0
     · simp [h4,h2,bR] at e1 e5 e6 hc tn2
       subst hc
       try simp at k9
       conv=>lhs;rw [g306L0e]
       simp (disch:=omega) [-getElem?_pos,g306B0,hi',hnm',e1,k0,e2,e3,e4,e5,k1,k2,k3,k4,e6,k5,k6,k7,k8,k9,h4,h3,h2,tn,tsh,tl,g1,g3,r1,r2',r3',hb2,tn2,aq,aP,hA.c_,hA.flat,hA.h_,hA.len,hA.leaf,tA,ec,hS1,bR]
     · have h2b:(r2 == 0)=false:=by simpa using h2
       simp [h4,h2,bR] at e1 e5 e6 hc tn2
       cases b10
       · cases b11
         · simp at hc
           subst hc
           try simp at k9
           conv=>lhs;rw [g306L0e]
           simp (disch:=omega) [-getElem?_pos,g306B0,hi',hnm',e1,k0,e2,e3,e4,e5,k1,k2,k3,k4,e6,k5,k6,k7,k8,k9,h4,h3,h2,h2b,tn,tsh,tl,g1,g3,r1,r2',r3',hb2,tn2,aq,aP,hA.c_,hA.flat,hA.h_,hA.len,hA.leaf,tA,ec,hS1,bR]
         · simp at hc
           subst hc
           simp [bw] at k7 k8 k9
           conv=>lhs;rw [g306L0e]
           simp (disch:=omega) [-getElem?_pos,g306B0,hi',hnm',e1,k0,e2,e3,e4,e5,k1,k2,k3,k4,e6,k5,k6,k7,k8,k9,h4,h3,h2,h2b,tn,tsh,tl,g1,g3,r1,r2',r3',hb2,tn2,aq,aP,hA.c_,hA.flat,hA.h_,hA.len,hA.leaf,tA,ec,hS1,bR,bw]
       · simp at hc
         subst hc
         simp [bw] at k7 k8 k9
         conv=>lhs;rw [g306L0e]
         simp (disch:=omega) [-getElem?_pos,g306B0,hi',hnm',e1,k0,e2,e3,e4,e5,k1,k2,k3,k4,e6,k5,k6,k7,k8,k9,h4,h3,h2,h2b,tn,tsh,tl,g1,g3,r1,r2',r3',hb2,tn2,aq,aP,hA.c_,hA.flat,hA.h_,hA.len,hA.leaf,tA,ec,hS1,bR,bw]
   · simp [h3] at e4
     obtain ⟨rfl,rfl⟩:=e4
     by_cases h2:r2=0
     · simp [h4,h2,bR] at e1 e5 e6 hc tn2
       subst hc
       try simp at k9
       conv=>lhs;rw [g306L0e]
       simp (disch:=omega) [-getElem?_pos,g306B0,hi',hnm',e1,k0,e2,e3,e5,k1,k2,k3,k4,e6,k5,k6,k7,k8,k9,h4,h3,h2,tn,tsh,tl,g1,g3,r1,r2',r3',hb2,tn2,aq,aP,hA.c_,hA.flat,hA.h_,hA.len,hA.leaf,tA,ec,hS1,bR]
     · have h2b:(r2 == 0)=false:=by simpa using h2
       simp [h4,h2,bR] at e1 e5 e6 hc tn2
       cases b10
       · cases b11
         · simp at hc
           subst hc
           try simp at k9
           conv=>lhs;rw [g306L0e]
           simp (disch:=omega) [-getElem?_pos,g306B0,hi',hnm',e1,k0,e2,e3,e5,k1,k2,k3,k4,e6,k5,k6,k7,k8,k9,h4,h3,h2,h2b,tn,tsh,tl,g1,g3,r1,r2',r3',hb2,tn2,aq,aP,hA.c_,hA.flat,hA.h_,hA.len,hA.leaf,tA,ec,hS1,bR]
         · simp at hc
           subst hc
           simp [bw] at k7 k8 k9
           conv=>lhs;rw [g306L0e]
           simp (disch:=omega) [-getElem?_pos,g306B0,hi',hnm',e1,k0,e2,e3,e5,k1,k2,k3,k4,e6,k5,k6,k7,k8,k9,h4,h3,h2,h2b,tn,tsh,tl,g1,g3,r1,r2',r3',hb2,tn2,aq,aP,hA.c_,hA.flat,hA.h_,hA.len,hA.leaf,tA,ec,hS1,bR,bw]
       · simp at hc
         subst hc
         simp [bw] at k7 k8 k9
         conv=>lhs;rw [g306L0e]
         simp (disch:=omega) [-getElem?_pos,g306B0,hi',hnm',e1,k0,e2,e3,e5,k1,k2,k3,k4,e6,k5,k6,k7,k8,k9,h4,h3,h2,h2b,tn,tsh,tl,g1,g3,r1,r2',r3',hb2,tn2,aq,aP,hA.c_,hA.flat,hA.h_,hA.len,hA.leaf,tA,ec,hS1,bR,bw]
 · have h4b:(r4 == 1)=false:=by simpa using h4
   by_cases h3:r3=0
   · simp [h3,Ty.av] at e4 e3
     by_cases h2:r2=0
     · simp [h4,h2,bR] at e1 e5 e6 hc tn2
       subst hc
       try simp at k9
       conv=>lhs;rw [g306L0e]
       simp (disch:=omega) [-getElem?_pos,g306B0,hi',hnm',e1,k0,e2,e3,e4,e5,k1,k2,k3,k4,e6,k5,k6,k7,k8,k9,h4,h3,h2,h4b,tn,tsh,tl,g1,g3,r1,r2',r3',hb2,tn2,aq,aP,hA.c_,hA.flat,hA.h_,hA.len,hA.leaf,tA,ec,hS1,bR]
     · have h2b:(r2 == 0)=false:=by simpa using h2
       simp [h4,h2,bR] at e1 e5 e6 hc tn2
       cases b10
       · cases b11
         · simp at hc
           subst hc
           try simp at k9
           conv=>lhs;rw [g306L0e]
           simp (disch:=omega) [-getElem?_pos,g306B0,hi',hnm',e1,k0,e2,e3,e4,e5,k1,k2,k3,k4,e6,k5,k6,k7,k8,k9,h4,h3,h2,h2b,h4b,tn,tsh,tl,g1,g3,r1,r2',r3',hb2,tn2,aq,aP,hA.c_,hA.flat,hA.h_,hA.len,hA.leaf,tA,ec,hS1,bR]
         · simp at hc
           subst hc
           simp [bw] at k7 k8 k9
           conv=>lhs;rw [g306L0e]
           simp (disch:=omega) [-getElem?_pos,g306B0,hi',hnm',e1,k0,e2,e3,e4,e5,k1,k2,k3,k4,e6,k5,k6,k7,k8,k9,h4,h3,h2,h2b,h4b,tn,tsh,tl,g1,g3,r1,r2',r3',hb2,tn2,aq,aP,hA.c_,hA.flat,hA.h_,hA.len,hA.leaf,tA,ec,hS1,bR,bw]
       · simp at hc
         subst hc
         simp [bw] at k7 k8 k9
         conv=>lhs;rw [g306L0e]
         simp (disch:=omega) [-getElem?_pos,g306B0,hi',hnm',e1,k0,e2,e3,e4,e5,k1,k2,k3,k4,e6,k5,k6,k7,k8,k9,h4,h3,h2,h2b,h4b,tn,tsh,tl,g1,g3,r1,r2',r3',hb2,tn2,aq,aP,hA.c_,hA.flat,hA.h_,hA.len,hA.leaf,tA,ec,hS1,bR,bw]
   · simp [h3] at e4
     obtain ⟨rfl,rfl⟩:=e4
     by_cases h2:r2=0
     · simp [h4,h2,bR] at e1 e5 e6 hc tn2
       subst hc
       try simp at k9
       conv=>lhs;rw [g306L0e]
       simp (disch:=omega) [-getElem?_pos,g306B0,hi',hnm',e1,k0,e2,e3,e5,k1,k2,k3,k4,e6,k5,k6,k7,k8,k9,h4,h3,h2,h4b,tn,tsh,tl,g1,g3,r1,r2',r3',hb2,tn2,aq,aP,hA.c_,hA.flat,hA.h_,hA.len,hA.leaf,tA,ec,hS1,bR]
     · have h2b:(r2 == 0)=false:=by simpa using h2
       simp [h4,h2,bR] at e1 e5 e6 hc tn2
       cases b10
       · cases b11
         · simp at hc
           subst hc
           try simp at k9
           conv=>lhs;rw [g306L0e]
           simp (disch:=omega) [-getElem?_pos,g306B0,hi',hnm',e1,k0,e2,e3,e5,k1,k2,k3,k4,e6,k5,k6,k7,k8,k9,h4,h3,h2,h2b,h4b,tn,tsh,tl,g1,g3,r1,r2',r3',hb2,tn2,aq,aP,hA.c_,hA.flat,hA.h_,hA.len,hA.leaf,tA,ec,hS1,bR]
         · simp at hc
           subst hc
           simp [bw] at k7 k8 k9
           conv=>lhs;rw [g306L0e]
           simp (disch:=omega) [-getElem?_pos,g306B0,hi',hnm',e1,k0,e2,e3,e5,k1,k2,k3,k4,e6,k5,k6,k7,k8,k9,h4,h3,h2,h2b,h4b,tn,tsh,tl,g1,g3,r1,r2',r3',hb2,tn2,aq,aP,hA.c_,hA.flat,hA.h_,hA.len,hA.leaf,tA,ec,hS1,bR,bw]
       · simp at hc
         subst hc
         simp [bw] at k7 k8 k9
         conv=>lhs;rw [g306L0e]
         simp (disch:=omega) [-getElem?_pos,g306B0,hi',hnm',e1,k0,e2,e3,e5,k1,k2,k3,k4,e6,k5,k6,k7,k8,k9,h4,h3,h2,h2b,h4b,tn,tsh,tl,g1,g3,r1,r2',r3',hb2,tn2,aq,aP,hA.c_,hA.flat,hA.h_,hA.len,hA.leaf,tA,ec,hS1,bR,bw]
end Go.Ab.Lw
namespace Go.Ab.Lw
open Ev
theorem CE {L:List Int}:Tape L 0 (tp L) where
 get:=fun i=>by simp
 set:=fun i j=>by simp
 quiet:=fun i=>bq.one (by intro v hv;simp at hv;rcases hv with rfl | rfl<;>exact ⟨_,rfl⟩)
theorem P4 {L:List Int} (hL:Sm L) {ds:List Dt} (hD:pP ds) {N:Nat} (h0:0<N) (hN:N≤4) {j:Nat} (hj:j≤L.length):∃(b:Bd) (l':List En) (j':Nat),kY 100 b∧Ctx 1 l'∧j'≤L.length ∧
   cl AP g306L0 ⟨[(4,.az 4 0),(5,.a_ 0 0),(6,.az 6 0),(7,.own [] 0),(8,.pv (vI N)),(9,.pv (vI 0))],[(4,[.own [] 1,.own [] 2]),(6,[.pv (.aD (ds.map Dt.pv)),.own [] 3])],tp L j,[0,0,0,0]⟩ =
   cl AP g306L0 ⟨[(4,.az 4 0),(5,.a_ 0 0),(6,.az 6 0),(7,.pv (.aD (l'.map En.pv))),(8,.pv (vI N)),(9,.pv (vI 1))],[(4,[.own [] 0,.own [] 1]),(6,[.pv (.aD (ds.map Dt.pv)),.bu 1 20 1 true])],qd L 0 [b] j',[0,0]⟩:=by
 have hT:=CE (L:=L)
 obtain ⟨r4,r3,r2,x1,x,u,sc,c',e,A,b10,b11,j1,j2,j3,j4,j5,j6,I⟩:=P0 hT hL hD (l:=[]) ⟨by simp,by simp⟩ hj [112]
 obtain ⟨e1,k0,e2,e3,e4,e5,k1,k2,k3,k4,e6,hA,k5,k6,k7,k8,hc,k9,ME,ty,sx,hj6⟩:=I
 refine ⟨kZ [112] r4 r2 x e,[⟨[112],c'⟩],j6,CD sx ty,⟨by simp,by
   intro y hy;simp at hy;subst hy
   exact ME⟩,hj6,?_⟩
 have tn:=hT.norm
 have tsh:=hT.shift
 have tl:=hT.take
 have g3:∀i,(tp L i).length=1:=fun i=>rfl
 have ec:=Ex.bG e
 have hi':=h0
 have hz:N≠0:=by omega
 have hq:bq (qd L 0 [kZ [112] r4 r2 x e] j6):=(iU (L:=L) (k:=0) (bs:=[kZ [112] r4 r2 x e])).quiet j6
 have tn2:=hq.norm
 have bc:(kZ [112] r4 r2 x e).cells=[vI 0,.bool (decide (r4=1)),.str [112],.bool (decide (r2=0)),vI (if r2=0 then x else bR).kind,.str (if r2=0 then x else bR).name,vI (if r2=0 then x else bR).id,vI (if r2=0 then x else bR).home,.aD ((if r2=0 then x else bR).args.map Ty.pv)]++e.cells:=rfl
 have sheq:qd L 0 [kZ [112] r4 r2 x e] j6=tp L j6++[some ((kZ [112] r4 r2 x e).cells.map .pv)]:=by simp [qd,nn,bj]
 rw [sheq] at tn2 ⊢
 rw [bc] at tn2 ⊢
 generalize tp L=TP at *
 have tA:A.take 11=A:=List.take_of_length_le (by rw [hA.len];omega)
 clear sheq
 rw [ec]
 rw [ec] at tn2
 simp [Ty.av] at e1 k0 e2 e3 e5 k1 k2 k3 k4 e6 k5 k6 k7 k8 k9
 by_cases h4:r4=1
 · by_cases h3:r3=0
   · simp [h3,Ty.av] at e4 e3
     by_cases h2:r2=0
     · simp [h4,h2,bR] at e1 e5 e6 hc tn2
       subst hc
       try simp at k9
       conv=>lhs;rw [g306L0e]
       simp (disch:=omega) [-getElem?_pos,g306B0,hi',hz,e1,k0,e2,e3,e4,e5,k1,k2,k3,k4,e6,k5,k6,k7,k8,k9,h4,h3,h2,tn,tsh,tl,g3,tn2,aq,aP,hA.c_,hA.flat,hA.h_,hA.len,hA.leaf,tA,ec,bR]
       conv=>lhs;rw [g306L0e]
       conv=>rhs;rw [g306L0e]
       simp [h4,h2,tn2,bR]
     · have h2b:(r2 == 0)=false:=by simpa using h2
       simp [h4,h2,bR] at e1 e5 e6 hc tn2
       cases b10
       · cases b11
         · simp at hc
           subst hc
           try simp at k9
           conv=>lhs;rw [g306L0e]
           simp (disch:=omega) [-getElem?_pos,g306B0,hi',hz,e1,k0,e2,e3,e4,e5,k1,k2,k3,k4,e6,k5,k6,k7,k8,k9,h4,h3,h2,h2b,tn,tsh,tl,g3,tn2,aq,aP,hA.c_,hA.flat,hA.h_,hA.len,hA.leaf,tA,ec,bR]
           conv=>lhs;rw [g306L0e]
           conv=>rhs;rw [g306L0e]
           simp [h4,h2,h2b,tn2,bR]
         · simp at hc
           subst hc
           simp [bw] at k7 k8 k9
           conv=>lhs;rw [g306L0e]
           simp (disch:=omega) [-getElem?_pos,g306B0,hi',hz,e1,k0,e2,e3,e4,e5,k1,k2,k3,k4,e6,k5,k6,k7,k8,k9,h4,h3,h2,h2b,tn,tsh,tl,g3,tn2,aq,aP,hA.c_,hA.flat,hA.h_,hA.len,hA.leaf,tA,ec,bR,bw]
           conv=>lhs;rw [g306L0e]
           conv=>rhs;rw [g306L0e]
           simp [h4,h2,h2b,tn2,bR]
       · simp at hc
         subst hc
         simp [bw] at k7 k8 k9
         conv=>lhs;rw [g306L0e]
         simp (disch:=omega) [-getElem?_pos,g306B0,hi',hz,e1,k0,e2,e3,e4,e5,k1,k2,k3,k4,e6,k5,k6,k7,k8,k9,h4,h3,h2,h2b,tn,tsh,tl,g3,tn2,aq,aP,hA.c_,hA.flat,hA.h_,hA.len,hA.leaf,tA,ec,bR,bw]
         conv=>lhs;rw [g306L0e]
         conv=>rhs;rw [g306L0e]
         simp [h4,h2,h2b,tn2,bR]
   · simp [h3] at e4
     obtain ⟨rfl,rfl⟩:=e4
     by_cases h2:r2=0
     · simp [h4,h2,bR] at e1 e5 e6 hc tn2
       subst hc
       try simp at k9
       conv=>lhs;rw [g306L0e]
       simp (disch:=omega) [-getElem?_pos,g306B0,hi',hz,e1,k0,e2,e3,e5,k1,k2,k3,k4,e6,k5,k6,k7,k8,k9,h4,h3,h2,tn,tsh,tl,g3,tn2,aq,aP,hA.c_,hA.flat,hA.h_,hA.len,hA.leaf,tA,ec,bR]
       conv=>lhs;rw [g306L0e]
       conv=>rhs;rw [g306L0e]
       simp [h4,h2,tn2,bR]
     · have h2b:(r2 == 0)=false:=by simpa using h2
       simp [h4,h2,bR] at e1 e5 e6 hc tn2
       cases b10
       · cases b11
         · simp at hc
           subst hc
           try simp at k9
           conv=>lhs;rw [g306L0e]
           simp (disch:=omega) [-getElem?_pos,g306B0,hi',hz,e1,k0,e2,e3,e5,k1,k2,k3,k4,e6,k5,k6,k7,k8,k9,h4,h3,h2,h2b,tn,tsh,tl,g3,tn2,aq,aP,hA.c_,hA.flat,hA.h_,hA.len,hA.leaf,tA,ec,bR]
           conv=>lhs;rw [g306L0e]
           conv=>rhs;rw [g306L0e]
           simp [h4,h2,h2b,tn2,bR]
         · simp at hc
           subst hc
           simp [bw] at k7 k8 k9
           conv=>lhs;rw [g306L0e]
           simp (disch:=omega) [-getElem?_pos,g306B0,hi',hz,e1,k0,e2,e3,e5,k1,k2,k3,k4,e6,k5,k6,k7,k8,k9,h4,h3,h2,h2b,tn,tsh,tl,g3,tn2,aq,aP,hA.c_,hA.flat,hA.h_,hA.len,hA.leaf,tA,ec,bR,bw]
           conv=>lhs;rw [g306L0e]
           conv=>rhs;rw [g306L0e]
           simp [h4,h2,h2b,tn2,bR]
       · simp at hc
         subst hc
         simp [bw] at k7 k8 k9
         conv=>lhs;rw [g306L0e]
         simp (disch:=omega) [-getElem?_pos,g306B0,hi',hz,e1,k0,e2,e3,e5,k1,k2,k3,k4,e6,k5,k6,k7,k8,k9,h4,h3,h2,h2b,tn,tsh,tl,g3,tn2,aq,aP,hA.c_,hA.flat,hA.h_,hA.len,hA.leaf,tA,ec,bR,bw]
         conv=>lhs;rw [g306L0e]
         conv=>rhs;rw [g306L0e]
         simp [h4,h2,h2b,tn2,bR]
 · have h4b:(r4 == 1)=false:=by simpa using h4
   by_cases h3:r3=0
   · simp [h3,Ty.av] at e4 e3
     by_cases h2:r2=0
     · simp [h4,h2,bR] at e1 e5 e6 hc tn2
       subst hc
       try simp at k9
       conv=>lhs;rw [g306L0e]
       simp (disch:=omega) [-getElem?_pos,g306B0,hi',hz,e1,k0,e2,e3,e4,e5,k1,k2,k3,k4,e6,k5,k6,k7,k8,k9,h4,h3,h2,h4b,tn,tsh,tl,g3,tn2,aq,aP,hA.c_,hA.flat,hA.h_,hA.len,hA.leaf,tA,ec,bR]
       conv=>lhs;rw [g306L0e]
       conv=>rhs;rw [g306L0e]
       simp [h4,h2,h4b,tn2,bR]
     · have h2b:(r2 == 0)=false:=by simpa using h2
       simp [h4,h2,bR] at e1 e5 e6 hc tn2
       cases b10
       · cases b11
         · simp at hc
           subst hc
           try simp at k9
           conv=>lhs;rw [g306L0e]
           simp (disch:=omega) [-getElem?_pos,g306B0,hi',hz,e1,k0,e2,e3,e4,e5,k1,k2,k3,k4,e6,k5,k6,k7,k8,k9,h4,h3,h2,h2b,h4b,tn,tsh,tl,g3,tn2,aq,aP,hA.c_,hA.flat,hA.h_,hA.len,hA.leaf,tA,ec,bR]
           conv=>lhs;rw [g306L0e]
           conv=>rhs;rw [g306L0e]
           simp [h4,h2,h2b,h4b,tn2,bR]
         · simp at hc
           subst hc
           simp [bw] at k7 k8 k9
           conv=>lhs;rw [g306L0e]
           simp (disch:=omega) [-getElem?_pos,g306B0,hi',hz,e1,k0,e2,e3,e4,e5,k1,k2,k3,k4,e6,k5,k6,k7,k8,k9,h4,h3,h2,h2b,h4b,tn,tsh,tl,g3,tn2,aq,aP,hA.c_,hA.flat,hA.h_,hA.len,hA.leaf,tA,ec,bR,bw]
           conv=>lhs;rw [g306L0e]
           conv=>rhs;rw [g306L0e]
           simp [h4,h2,h2b,h4b,tn2,bR]
       · simp at hc
         subst hc
         simp [bw] at k7 k8 k9
         conv=>lhs;rw [g306L0e]
         simp (disch:=omega) [-getElem?_pos,g306B0,hi',hz,e1,k0,e2,e3,e4,e5,k1,k2,k3,k4,e6,k5,k6,k7,k8,k9,h4,h3,h2,h2b,h4b,tn,tsh,tl,g3,tn2,aq,aP,hA.c_,hA.flat,hA.h_,hA.len,hA.leaf,tA,ec,bR,bw]
         conv=>lhs;rw [g306L0e]
         conv=>rhs;rw [g306L0e]
         simp [h4,h2,h2b,h4b,tn2,bR]
   · simp [h3] at e4
     obtain ⟨rfl,rfl⟩:=e4
     by_cases h2:r2=0
     · simp [h4,h2,bR] at e1 e5 e6 hc tn2
       subst hc
       try simp at k9
       conv=>lhs;rw [g306L0e]
       simp (disch:=omega) [-getElem?_pos,g306B0,hi',hz,e1,k0,e2,e3,e5,k1,k2,k3,k4,e6,k5,k6,k7,k8,k9,h4,h3,h2,h4b,tn,tsh,tl,g3,tn2,aq,aP,hA.c_,hA.flat,hA.h_,hA.len,hA.leaf,tA,ec,bR]
       conv=>lhs;rw [g306L0e]
       conv=>rhs;rw [g306L0e]
       simp [h4,h2,h4b,tn2,bR]
     · have h2b:(r2 == 0)=false:=by simpa using h2
       simp [h4,h2,bR] at e1 e5 e6 hc tn2
       cases b10
       · cases b11
         · simp at hc
           subst hc
           try simp at k9
           conv=>lhs;rw [g306L0e]
           simp (disch:=omega) [-getElem?_pos,g306B0,hi',hz,e1,k0,e2,e3,e5,k1,k2,k3,k4,e6,k5,k6,k7,k8,k9,h4,h3,h2,h2b,h4b,tn,tsh,tl,g3,tn2,aq,aP,hA.c_,hA.flat,hA.h_,hA.len,hA.leaf,tA,ec,bR]
           conv=>lhs;rw [g306L0e]
           conv=>rhs;rw [g306L0e]
           simp [h4,h2,h2b,h4b,tn2,bR]
         · simp at hc
           subst hc
           simp [bw] at k7 k8 k9
           conv=>lhs;rw [g306L0e]
           simp (disch:=omega) [-getElem?_pos,g306B0,hi',hz,e1,k0,e2,e3,e5,k1,k2,k3,k4,e6,k5,k6,k7,k8,k9,h4,h3,h2,h2b,h4b,tn,tsh,tl,g3,tn2,aq,aP,hA.c_,hA.flat,hA.h_,hA.len,hA.leaf,tA,ec,bR,bw]
           conv=>lhs;rw [g306L0e]
           conv=>rhs;rw [g306L0e]
           simp [h4,h2,h2b,h4b,tn2,bR]
       · simp at hc
         subst hc
         simp [bw] at k7 k8 k9
         conv=>lhs;rw [g306L0e]
         simp (disch:=omega) [-getElem?_pos,g306B0,hi',hz,e1,k0,e2,e3,e5,k1,k2,k3,k4,e6,k5,k6,k7,k8,k9,h4,h3,h2,h2b,h4b,tn,tsh,tl,g3,tn2,aq,aP,hA.c_,hA.flat,hA.h_,hA.len,hA.leaf,tA,ec,bR,bw]
         conv=>lhs;rw [g306L0e]
         conv=>rhs;rw [g306L0e]
         simp [h4,h2,h2b,h4b,tn2,bR]
theorem P5 {L:List Int} (hL:Sm L) {ds:List Dt} (hD:pP ds) {N:Nat} (hN:N≤4):∀(n i:Nat),N-i=n→i≤N→∀(l:List En) (k:Nat) (bs:List Bd) (j:Nat),Ctx (900-n) l→bs.length=i→(∀b∈bs,kY 100 b)→j≤L.length→∃(l':List En) (k':Nat) (bs':List Bd) (j':Nat),bs'.length=N∧(∀b∈bs',kY 100 b)∧j'≤L.length ∧
   cl AP g306L0 ⟨[(4,.az 4 0),(5,.a_ 0 0),(6,.az 6 0),(7,.pv (.aD (l.map En.pv))),(8,.pv (vI N)),(9,.pv (vI i))],[(4,[.own [] 0,.own [] 1]),(6,[.pv (.aD (ds.map Dt.pv)),.bu (1+k) 20 bs.length true])],qd L k bs j,[0,0]⟩ =
     some (.exit 0,⟨[(4,.az 4 0),(5,.a_ 0 0),(6,.az 6 0),(7,.pv (.aD (l'.map En.pv))),(8,.pv (vI N)),(9,.pv (vI N)),(26,.pv (.bool false))],[(4,[.own [] 0,.own [] 1]),(6,[.pv (.aD (ds.map Dt.pv)),.bu (1+k') 20 bs'.length true])],qd L k' bs' j',[0,0]⟩)
 | 0,i,hn,hi,l,k,bs,j,hl,hb,ho,hj=>by
   have:i=N:=by omega
   subst this
   refine ⟨l,k,bs,j,hb,ho,hj,?_⟩
   have tn:=((iU (L:=L) (k:=k) (bs:=bs)).quiet j).norm
   generalize qd L k bs j=S at *
   rw [g306L0e]
   simp [g306B0,tn]
 | n+1,i,hn,hi,l,k,bs,j,hl,hb,ho,hj=>by
   obtain ⟨b,l1,j1,b1,b2,b3,e⟩:=P3 hL hD (l:=l) (N:=N) (k:=k) (hl.gE (by omega)) (by omega) hN hb hj
   have hll:=hl.len
   obtain ⟨l',k',bs',j',q1,q2,q3,e'⟩:=P5 hL hD hN n (i+1) (by omega) (by omega) l1 (k+1) (bs++[b]) j1 (b2.gE (by omega)) (by simp;omega) (by
     intro y hy;simp at hy;rcases hy with hy | rfl
     · exact ho y hy
     · exact b1) b3
   refine ⟨l',k',bs',j',q1,q2,q3,?_⟩
   rw [e]
   exact e'
end Go.Ab.Lw
namespace Go.Ab.Lw
open Ev
theorem c306 {L:List Int} (hL:Sm L) (bits:Int):∃(ds:List Dt) (bs:List Bd) (k j:Nat),pP ds∧0<bs.length∧bs.length≤4∧(∀b∈bs,kY 100 b) ∧
   (aN AP).i 306 [.pv (vI bits),.pv (.aD (L.map vI))] [] []=some ([.agg [.pv (.aD (ds.map Dt.pv)),.bu (1+k) 20 bs.length true]],qd L k bs j,[]):=by
 obtain ⟨ds,k1,d1,d2⟩:=c32 bits
 have hD:pP ds:=⟨d1,d2⟩
 obtain ⟨r,j0,e1,r0,r1,hj0⟩:=mJ (CE (L:=L)) hL (i:=0) (by omega) (n:=4) (by omega) (by omega)
 obtain ⟨r,rfl,hr⟩:=mz (n:=4) r0 (by simpa using r1)
 obtain ⟨b,l1,j1,b1,b2,b3,e2⟩:=P4 hL hD (N:=1+r) (by omega) (by omega) hj0
 obtain ⟨l',k',bs',j',q1,q2,q3,e3⟩:=P5 hL hD (N:=1+r) (by omega) _ 1 rfl (by omega) l1 0 [b] j1 (b2.gE (by omega)) rfl (by simpa using b1) b3
 refine ⟨ds,bs',k',j',hD,by omega,by omega,q2,?_⟩
 have e4:∀y,cl AP g306L0 ⟨[(4,.az 4 0),(5,.a_ 0 0),(6,.az 6 0),(7,.own [] 0),(8,.pv (vI (1+r:Nat))),(9,.pv (vI 0))],[(4,[.own [] 1,.own [] 2]),(6,[.pv (.aD (ds.map Dt.pv)),.own [] 3])],tp L j0,[0,0,0,0]⟩=y↔_=y:=fun y=>by rw [e2]
 have e5:=e2.trans e3
 have tn:=((iU (L:=L) (k:=k') (bs:=bs')).quiet j').norm
 have tsh:=((iU (L:=L) (k:=k') (bs:=bs')).quiet j').shift
 generalize qd L k' bs' j'=S at *
 clear e2 e3 e4
 rw [g306L0e] at e5
 have hw:(1:Int)+r=((1+r:Nat):Int):=by omega
 simp at k1 e1 e5
 rw [aR (af:=g306) rfl (by simp [g306])]
 simp (disch:=omega) [g306,k1,e1,aq,g306L0e,e5,tn,tsh]
end Go.Ab.Lw
namespace Go.Ab.Lw
open Ev
theorem NP {e:Ex} (h:uY e) {c:List Ex} (hl:c.length=e.ch.length) (hc:∀y∈c,uY y):uY (e.pE c):=by
 rw [Ex.fQ] at hl
 have hch:=BH hl
 have hk:(e.pE c).kids.length=e.kids.length:=by rw [Ex.pE,if_pos hl];simp;omega
 have ha:(e.pE c).aX.map (fun a=>(a.d7,a.vars))=e.aX.map (fun a=>(a.d7,a.vars)):=by rw [Ex.pE,if_pos hl];simp only [uZ]
 have ha2:(e.pE c).aX.length=e.aX.length:=by have:=congrArg List.length ha;simpa using this
 have hkd:(e.pE c).kind=e.kind:=by rw [Ex.pE,if_pos hl]
 have hty:(e.pE c).ty=e.ty:=by rw [Ex.pE,if_pos hl]
 refine ⟨.mk (by have:=h.ok.k;omega) (by have:=h.ok.a;omega) ?_ (by rw [hty];exact h.ok.t) (by rw [hch];exact fun y hy=>(hc y hy).ok),.mk (by rw [hkd,hk];exact h.one.h) (by rw [hch];exact fun y hy=>(hc y hy).one),.mk (by rw [hty];exact h.cw.h) (by rw [hch];exact fun y hy=>(hc y hy).cw)⟩
 intro a hm
 have:(a.d7,a.vars)∈e.aX.map (fun a=>(a.d7,a.vars)):=by rw [←ha];exact List.mem_map_of_mem hm
 simp only [List.mem_map] at this
 obtain ⟨b,hb,hq⟩:=this
 have:=h.ok.v b hb
 simp at hq
 rw [←hq.2];exact this
theorem P6 {e:Ex} {c:List Ex} (hl:c.length=e.ch.length) {n:Nat} (hc:∀y∈c,y.tt n):(e.pE c).tt (n+1):=by
 rw [Ex.fQ] at hl
 exact .mk (by rw [BH hl];exact hc)
theorem Ju {sz:Nat} {l:List PV} (h1:1≤l.length) (hs:bI sz l=true):cP false sz true false false [.pv (.aD l),.pv (.int .i64 1)]=some (.pv (.aD (l.drop 1))):=by
 have h2:(1:Int)≤l.length:=by omega
 simp [cP,dY,ee,h2,hs]
theorem c359 {x:Ex} (hx:uY x) {m:Nat} (hm:x.tt m):∀(p:List Int) (e:Ex) (n:Nat),p.length<1000000→uY e→e.tt n→∃(y:Ex) (b:Bool),(aN AP).p 359 [e.pv,.aD (p.map vI),x.pv]=some [y.pv,.bool b]∧uY y∧y.tt (n+m)
 | [],e,n,hp,he,hh=>by
   refine ⟨x,true,?_,hx,kX hm (by omega)⟩
   rw [au (af:=g359) rfl rfl (by decide)]
   simp [g359]
 | q::p,e,n,hp,he,hh=>by
   have hk:=he.ok.k
   have ha:=he.ok.a
   have hlen:=Ex.fQ (e:=e)
   have hz:¬(p.length:Int)+1=0:=by omega
   simp at hp
   have no:(q<0∨e.ch.length≤q)→(aN AP).p 359 [e.pv,.aD ((q::p).map vI),x.pv]=some [e.pv,.bool false]:=by
     intro hq
     obtain ⟨k0,c1⟩:=c145i (e:=e) (A:=.pv (.aD (e.aX.map Ar.pv))) hk ha (X:=[]) (by intro cs h;simp at h) (.inl rfl)
     have cj:=c145j (e:=e) (X:=[])
     rw [c1] at cj
     clear c1
     by_cases z:e.ch=[]
     · rw [if_pos z] at cj
       have z0:e.ch.length=0:=by rw [z];rfl
       simp at cj
       rw [au (af:=g359) rfl rfl (by decide)]
       by_cases q0:q<0
       · simp [g359,hz,cj,q0]
       · have q1:0≤q:=by omega
         simp [g359,hz,cj,q0,q1]
     · rw [if_neg z] at cj
       have hqn:=((dr k0).app (bq.one (bJ (f:=Ex.cells) (l:=e.ch)))).norm
       have hqs:=((dr k0).app (bq.one (bJ (f:=Ex.cells) (l:=e.ch)))).shift
       simp only [List.nil_append,List.length_nil,Nat.zero_add] at cj
       generalize nn k0++[some (bj Ex.cells e.ch)]=S0 at *
       simp at cj
       rw [au (af:=g359) rfl rfl (by decide)]
       by_cases q0:q<0
       · simp [g359,hz,cj,q0,hqn,hqs]
       · have q1:(e.ch.length:Int)≤q:=by omega
         simp [g359,hz,cj,q0,q1,hqn,hqs]
   by_cases hq:0≤q∧q<e.ch.length
   · obtain ⟨q0,q1⟩:=hq
     obtain ⟨i,rfl⟩:∃i:Nat,q=i:=⟨q.toNat,by omega⟩
     have hi:i<e.ch.length:=by omega
     obtain ⟨c,hc⟩:=bn hi
     have hcm:=bo hc
     cases hh with
     | @mk n _ hh=>
       obtain ⟨y,b,k1,hy,hyh⟩:=c359 hx hm p c n (by omega) (he.c hcm) (hh c hcm)
       have z:¬e.ch=[]:=by intro z;rw [z] at hi;simp at hi
       obtain ⟨k0,c1⟩:=c145i (e:=e) (A:=.pv (.aD (e.aX.map Ar.pv))) hk ha (X:=[]) (by intro cs h;simp at h) (.inl rfl)
       have cj:=c145j (e:=e) (X:=[])
       rw [c1,if_neg z] at cj
       clear c1
       have hqn:=((dr k0).app (bq.one (bJ (f:=Ex.cells) (l:=e.ch)))).norm
       have hqs:=((dr k0).app (bq.one (bJ (f:=Ex.cells) (l:=e.ch)))).shift
       have hqn1:=((dr k0).app (bq.one (bJ (f:=Ex.cells) (l:=e.ch.set i y)))).norm
       simp only [List.nil_append,List.length_nil,Nat.zero_add] at cj
       have hget:=je cQ hc (o:=0) (k:=11) (by omega)
       have ht:(((c.cells.drop 0).take 11).map AV.pv)=c.cl:=by
         rw [List.drop_zero,List.take_of_length_le (by rw [cQ.len];omega),Ex.lT]
       rw [ht,Nat.add_zero] at hget
       have hset:=iz cQ hc (y:=y) (o:=0) (vs:=y.cells) (by rw [cQ.len];omega) (by
         have h1:=cQ.len c
         have h2:=cQ.len y
         simp [h1,h2])
       rw [Ex.lT,Nat.add_zero] at hset
       have hB:cR (bj Ex.cells e.ch)=false:=db bJ
       have hlen2:(bj Ex.cells e.ch).length=e.ch.length*11:=cK cQ
       have hle:i*11+11≤e.ch.length*11:=by omega
       have hs1:(nn k0++[some (bj Ex.cells e.ch)])[k0]?=some (some (bj Ex.cells e.ch)):=by simp
       have hs2:(nn k0++[some (bj Ex.cells e.ch)]).set k0 (some (bj Ex.cells (e.ch.set i y)))=nn k0++[some (bj Ex.cells (e.ch.set i y))]:=by simp
       have hs3:(nn k0++[some (bj Ex.cells (e.ch.set i y))])[k0]?=some (some (bj Ex.cells (e.ch.set i y))):=by simp
       have hlst:=uW (l:=e.ch.set i y)
       have hlen3:(bj Ex.cells (e.ch.set i y)).length=e.ch.length*11:=by rw [cK cQ,List.length_set]
       rw [List.length_set] at hlst
       have c2:=c374 (e:=e) hk ha (c:=e.ch.set i y)
       have hsl:=Ju (sz:=1) (l:=(((i:Int)::p).map vI)) (by simp) (kO.head _)
       cases b with
       | false=>
         refine ⟨e,false,?_,he,kX (.mk hh) (by omega)⟩
         generalize nn k0++[some (bj Ex.cells (e.ch.set i y))]=S1 at *
         generalize nn k0++[some (bj Ex.cells e.ch)]=S0 at *
         generalize bj Ex.cells (e.ch.set i y)=T1 at *
         generalize bj Ex.cells e.ch=T at *
         simp at cj k1 hsl
         simp [Ex.cl] at hget
         rw [au (af:=g359) rfl rfl (by decide)]
         simp (disch:=omega) [-getElem?_pos,g359,hz,cj,q1,hi,hqn,hqs,hsl,hs1,hB,hlen2,hle,hget,k1]
       | true=>
         have hcl:(e.ch.set i y).length=e.ch.length:=by simp
         have hce:∀w∈e.ch.set i y,uY w:=by
           intro w hw
           rcases List.mem_or_eq_of_mem_set hw with hw | rfl
           · exact he.c hw
           · exact hy
         have hch:∀w∈e.ch.set i y,w.tt (n+m):=by
           intro w hw
           rcases List.mem_or_eq_of_mem_set hw with hw | rfl
           · exact kX (hh w hw) (by omega)
           · exact hyh
         refine ⟨e.pE (e.ch.set i y),true,?_,NP he hcl hce,by rw [show n+1+m=n+m+1 by omega];exact P6 hcl hch⟩
         generalize e.pE (e.ch.set i y)=Y at *
         generalize nn k0++[some (bj Ex.cells (e.ch.set i y))]=S1 at *
         generalize nn k0++[some (bj Ex.cells e.ch)]=S0 at *
         generalize bj Ex.cells (e.ch.set i y)=T1 at *
         generalize bj Ex.cells e.ch=T at *
         simp at cj k1 hsl c2 hlst
         simp [Ex.cl] at hget hset
         rw [au (af:=g359) rfl rfl (by decide)]
         simp (disch:=omega) [-getElem?_pos,g359,hz,cj,q1,hi,hqn,hqs,hqn1,hsl,hs1,hs2,hs3,hB,hlen2,hlen3,hle,hget,k1,hset,hlst,c2]
   · refine ⟨e,false,no (by omega),he,kX hh (by omega)⟩
end Go.Ab.Lw
namespace Go.Ab.Lw
open Ev
theorem fF.Rg {ds:List Dt} (hD:pP ds) {n:Nat} {e:Ex} (h:fF ds n e):vj (n+1) e:=by
 have hD8:∀d∈ds,D8 d:=fun d hd=>Jb d (hD.all d hd)
 induction h with
 | var _=>exact (ek (by decide)).up (by omega)
 | int _ _=>exact (ek (by decide)).up (by omega)
 | d7 _ _=>exact (ek (by decide)).up (by omega)
 | gone=>exact (ek (by decide)).up (by omega)
 | hole=>exact (ek (by decide)).up (by omega)
 | lam _ _ ih=>exact eF (by decide) (by simp) ig ij (by simpa using ih)
 | app _ _ iha ihb=>exact eF (by decide) (by simp) ig ij (by simpa using ⟨iha,ihb⟩)
 | Pv hk _ _ _ iha ihb=>exact eF (by rcases hk with rfl | rfl<;>decide) (by simp) ig ij (by simpa using ⟨iha,ihb⟩)
 | Q1 _ ht ih=>
   have g:=kb (fun d hd=>(hD8 d hd).1) (by simp) ht
   exact eF (by decide) (by simp) g.ok g.kn.cw (by simpa using ih)
 | held _ ih=>exact eF (by decide) (by simp) ig ij (by simpa using ih)
 | up _ ih=>exact ih.up (by omega)
 | @Mb n d a as hd ha hl hb hv hc iha ihb=>
   obtain ⟨_,_,h8a,h8b⟩:=hD8 _ hd
   refine yq iha (by omega) fun x hx=>⟨?_,ihb x hx⟩
   obtain ⟨i,hi,rfl⟩:=List.getElem_of_mem hx
   obtain ⟨c,hcc⟩:=bn (show i<_ from hl ▸ hi)
   have:=(hc i c _ hcc (List.getElem?_eq_getElem hi)).2
   have:=h8b c (bo hcc)
   omega
theorem QM {L:List Int} {tm:Nat} {TP:Int→Sh} (hT:Tape L tm TP) {i:Nat}:(aN AP).i 162 [.a_ tm 0] (TP i) []=some ([.pv (.bool (decide (L.length≤i)))],TP i,[]):=by
 have tn:=hT.norm
 have tsh:=hT.shift
 have tl:=hT.take
 have tg:=hT.get
 rw [aR (af:=g162) rfl (by simp [g162])]
 simp [g162,tn,tsh,tl,tg]
def Jv (L:List Int) (ds:List Dt) (tm b N i:Nat) (path:List Int) (e:Ex) (n:Int) (S:Sh):St:=⟨[(2,.az 2 0),(4,.az 4 0),(5,.a_ tm 0),(6,.pv (vI i)),(7,.own (path.map vI) 0),(8,.az 8 0),(9,.pv (vI n))],[(2,[.pv (.aD (ds.map Dt.pv)),.bu b 20 N true]),(4,[.own [] 1,.own [] 2]),(8,e.cl)],S,[path.length,0,0]⟩
def Jw (L:List Int) (ds:List Dt) (tm b N i:Nat) (path:List Int) (e:Ex) (n:Int) (S:Sh) (l:Bool):Option (bf×St):=some (.exit 0,⟨[(2,.az 2 0),(4,.az 4 0),(5,.a_ tm 0),(6,.pv (vI i)),(7,.own (path.map vI) 0),(8,.az 8 0),(9,.pv (vI n))]++(if l then [(39,.pv (.bool false))] else [(10,.pv (.aD [])),(46,.pv (.bool true))]),[(2,[.pv (.aD (ds.map Dt.pv)),.bu b 20 N true]),(4,[.own [] 1,.own [] 2]),(8,e.cl)],S,[path.length,0,0]⟩)
theorem P7 {L:List Int} {tm:Nat} {TP:Int→Sh} (hT:Tape L tm TP) (hL:Sm L) {ds:List Dt} {b N i:Nat}:∀(n:Nat),n≤5→∀(path:List Int) (e:Ex) (I:Nat),path.length+n≤5→e.Ok→I≤L.length→∃(path':List Int) (e':Ex) (n':Int) (J:Nat) (l:Bool),path'.length≤5∧J≤L.length ∧
   cl AP g335L0 (Jv L ds tm b N i path e n (TP I))=Jw L ds tm b N i path' e' n' (TP J) l
 | 0,hn,path,e,I,hp,he,hI=>by
   have tn:=hT.norm
   refine ⟨path,e,0,I,true,by omega,hI,?_⟩
   rw [g335L0e]
   simp [g335B0,Jv,Jw,tn,Ex.cl]
 | n+1,hn,path,e,I,hp,he,hI=>by
   have tn:=hT.norm
   have tsh:=hT.shift
   have tl:=hT.take
   have k1:=c145 he
   have hk:=he.k
   have ha:=he.a
   have hlen:=Ex.fQ (e:=e)
   have hn0:(0:Int)<(n:Int)+1:=by omega
   have hn1:(n:Int)+1-1=n:=by omega
   by_cases z:e.ch=[]
   · refine ⟨path,e,((n+1:Nat):Int),I,false,by omega,hI,?_⟩
     rw [z] at k1
     simp at k1
     rw [g335L0e]
     simp [g335B0,Jv,Jw,tn,Ex.cl,hn0,k1]
   · have hpos:0<e.ch.length:=List.length_pos_iff.2 z
     obtain ⟨r,j,e1,r0,r1,hj⟩:=mJ hT hL hI (n:=e.ch.length) (by omega) (by omega)
     obtain ⟨r,rfl,hr⟩:=mz r0 r1
     obtain ⟨x,hx⟩:=bn hr
     obtain ⟨path',e',n',J,l,q1,q2,ih⟩:=P7 hT hL (ds:=ds) (b:=b) (N:=N) (i:=i) n (by omega) (path++[(r:Int)]) x j (by simp;omega) (he.c x (bo hx)) hj
     refine ⟨path',e',n',J,l,q1,q2,?_⟩
     have hb:(path.length+1)*8≤140737488355328:=by omega
     have hh:bI 1 (path.map vI)=true:=kO.head path
     rw [←ih]
     simp at k1 e1
     conv=>lhs;rw [g335L0e]
     simp (disch:=omega) [-getElem?_pos,g335B0,Jv,tn,tsh,tl,Ex.cl,hn0,hn1,k1,z,e1,hx,hb,hh,aq]
end Go.Ab.Lw
namespace Go.Ab.Lw
open Ev
theorem NQ {L:List Int} {j:Int}:bq [some [AV.pv (.aD (L.map vI)),AV.pv (vI j)]]:=bq.one (by intro v hv;simp at hv;rcases hv with rfl | rfl<;>exact ⟨_,rfl⟩)
theorem Jy {L:List Int} {S:Sh} (hS:bq S):Tape L S.length (fun j=>S++[some [.pv (.aD (L.map vI)),.pv (vI j)]]) where
 get:=fun i=>by simp
 set:=fun i j=>by simp
 quiet:=fun i=>hS.app NQ
theorem BT {S:Sh} (hS:bq S) {b:Nat}:bq (S.set b none):=by
 intro cs hcs
 rcases List.mem_or_eq_of_mem_set hcs with h | h
 · exact hS cs h
 · cases h
theorem tK {S:Sh} (hS:bq S) {b:Nat} {cs:List AV} (h:∀v∈cs,∃p,v=AV.pv p):bq (S.set b (some cs)):=by
 intro c hc
 rcases List.mem_or_eq_of_mem_set hc with q | q
 · exact hS c q
 · cases q;exact h
def Bd.put (b:Bd) (e:Ex):Bd:={ b with body:=e }
theorem nN (b:Bd) (e:Ex):(b.put e).cells=b.cells.take 9++e.cells++b.cells.drop (9+e.cells.length):=by
 have h1:=cQ.len e
 have h2:=cQ.len b.body
 simp [Bd.cells,Bd.put,h1,h2]
theorem kY.up {n m:Nat} {b:Bd} (h:kY n b) (hm:n≤m):kY m b:=⟨h.sc,kX h.h hm,h.so,h.sw,h.sn⟩
structure vm (Q:Nat) (ds:List Dt) (bs:List Bd) (b:Nat) (S:Sh):Prop where
 d:pP ds
 pos:0<bs.length
 len:bs.length≤4
 ok:∀x∈bs,kY Q x
 quiet:bq S
 Cs:S[b]?=some (some (bj Bd.cells bs))
theorem c335 {M:List Int} (hM:Sm M) {ds:List Dt} {bs:List Bd} {b:Nat} {S:Sh} (H:vm 100 ds bs b S):∃(bs':List Bd) (b':Nat) (S':Sh),bs'.length=bs.length∧vm 200 ds bs' b' S' ∧
   (aN AP).i 335 [.agg [.pv (.aD (ds.map Dt.pv)),.bu b 20 bs.length true],.pv (.aD (M.map vI))] S []=some ([.agg [.pv (.aD (ds.map Dt.pv)),.bu b' 20 bs'.length true]],S',[]):=by
 obtain ⟨hD,hpos,h4,ho,hS,hb⟩:=H
 have hbl:b<S.length:=(List.getElem?_eq_some_iff.1 hb).1
 have hT:=Jy (L:=M) hS
 have hT0:∀j:Int,(S++[some [.pv (.aD (M.map vI)),.pv (vI j)]])=(fun j=>S++[some [.pv (.aD (M.map vI)),.pv (vI j)]]) j:=fun _=>rfl
 have hget:∀j:Int,((fun j=>S++[some [.pv (.aD (M.map vI)),.pv (vI j)]]) j:Sh)[b]?=some (some (bj Bd.cells bs)):=fun j=>by simp [List.getElem?_append_left hbl,hb]
 have hkill:∀j:Int,((fun j=>S++[some [.pv (.aD (M.map vI)),.pv (vI j)]]) j:Sh).set b none=S.set b none++[some [.pv (.aD (M.map vI)),.pv (vI j)]]:=fun j=>by simp [List.set_append_left,hbl]
 have hlen:∀j:Int,((fun j=>S++[some [.pv (.aD (M.map vI)),.pv (vI j)]]) j:Sh).length=S.length+1:=fun j=>by simp
 generalize hTP:(fun j:Int=>S++[some [AV.pv (.aD (M.map vI)),AV.pv (vI j)]])=TP at *
 have tn:=hT.norm
 have tsh:=hT.shift
 have tl:=hT.take
 have k0:=QM hT (i:=0)
 have nS:=hS.norm
 have sS:=hS.shift
 have hz:bs≠[]:=List.length_pos_iff.1 hpos
 have r1:(bj Bd.cells bs).length=bs.length*20:=cK dt
 have hB:cR (bj Bd.cells bs)=false:=db bJ
 have h0:=hT0 0
 by_cases hE:M=[]
 · refine ⟨bs,b,S,rfl,⟨hD,hpos,h4,fun x hx=>(ho x hx).up (by omega),hS,hb⟩,?_⟩
   have ht:List.take S.length (TP 0)=S:=by rw [←h0];simp
   subst hE
   simp at k0 h0
   rw [aR (af:=g335) rfl (by simp [g335])]
   simp [g335,hz,k0,tn,tsh,nS,sS,h0,hbl,ht]
 · have hMp:0<M.length:=List.length_pos_iff.2 hE
   have hM0:¬M.length≤0:=by omega
   rw [decide_eq_false hM0] at k0
   obtain ⟨q,j1,e1,q0,q1,hj1⟩:=mJ hT hM (i:=0) (by omega) (n:=bs.length) (by omega) (by omega)
   obtain ⟨i,rfl,hi⟩:=mz q0 q1
   obtain ⟨x,hx⟩:=bn hi
   have hxo:=ho x (bo hx)
   obtain ⟨n,j2,e2,n0,n1,hj2⟩:=mJ hT hM hj1 (n:=5) (by omega) (by omega)
   obtain ⟨n,rfl,hn⟩:=mz (n:=5) n0 (by simpa using n1)
   obtain ⟨path,ex,n',J,l,hp,hJ,e3⟩:=P7 hT hM (ds:=ds) (b:=b) (N:=bs.length) (i:=i) n (by omega) [] x.body j2 (by simp;omega) hxo.sc.ok hj2
   have hS2:=BT hS (b:=b)
   have hT2:=CB (L:=M) (A:=S.set b none) (B:=[some (bj Bd.cells bs)]) hS2 (bq.one bJ)
   rw [List.length_set] at hT2
   have hk2:∀j:Int,(TP j).set b none++[some (bj Bd.cells bs)]=(fun i:Int=>S.set b none++[some [.pv (.aD (M.map vI)),.pv (vI i)]]++[some (bj Bd.cells bs)]) j:=fun j=>by rw [hkill]
   have hk3:∀j:Int,S.set b none++[some [.pv (.aD (M.map vI)),.pv (vI j)],some (bj Bd.cells bs)]=(fun i:Int=>S.set b none++[some [.pv (.aD (M.map vI)),.pv (vI i)]]++[some (bj Bd.cells bs)]) j:=fun j=>by simp
   have hg2:∀j:Int,((fun i:Int=>S.set b none++[some [.pv (.aD (M.map vI)),.pv (vI i)]]++[some (bj Bd.cells bs)]) j:Sh)[S.length+1]?=some (some (bj Bd.cells bs)):=fun j=>by simp [List.getElem?_append_right]
   have hs2:∀(j:Int) (c:List Bd),∃S',((fun i:Int=>S.set b none++[some [.pv (.aD (M.map vI)),.pv (vI i)]]++[some (bj Bd.cells bs)]) j:Sh).set (S.length+1) (some (bj Bd.cells c))=S'∧bq S'∧S'[S.length+1]?=some (some (bj Bd.cells c)):=fun j c=>⟨_,rfl,tK (hT2.quiet j) bJ,by simp [List.getElem?_append_right,List.set_append_right]⟩
   generalize (fun i:Int=>S.set b none++[some [AV.pv (.aD (M.map vI)),AV.pv (vI i)]]++[some (bj Bd.cells bs)])=TQ at *
   have un:=hT2.norm
   have ush:=hT2.shift
   have ul:=hT2.take
   obtain ⟨y,f1,f2,f3,j4,e4,hy,hj4⟩:=PU hT2 hM (ds:=ds) (by have:=hD.len;omega) (fun d hd=>Jb d (hD.all d hd)) 2 (by omega) J hJ
   have hyE:=hy.Rg hD
   have hA:=d6 f1 f2 f3 y
   generalize d9 f1 f2 f3 y=A at e4 hA
   have ac:=Ex.bG y
   obtain ⟨w,ok,k5,w1,w2⟩:=c359 hyE.sc hyE.h path x.body 100 (by omega) hxo.sc hxo.h
   obtain ⟨S',s1,s2,s3⟩:=hs2 j4 (bs.set i (x.put w))
   refine ⟨bs.set i (x.put w),S.length+1,S',by simp,⟨hD,by simpa using hpos,by simpa using h4,?_,s2,s3⟩,?_⟩
   · intro z hz
     rcases List.mem_or_eq_of_mem_set hz with hz | rfl
     · exact (ho z hz).up (by omega)
     · exact ⟨w1,kX w2 (by omega),hxo.so,hxo.sw,hxo.sn⟩
   · have hsub:=je dt hx (o:=9) (k:=11) (by omega)
     have kJ:(((x.cells.drop 9).take 11).map AV.pv)=x.body.cl:=by
       have h2:=cQ.len x.body
       have h3:(x.cells.drop 9).take 11=x.body.cells:=by
         simp only [Bd.cells,List.cons_append,List.nil_append,List.drop_succ_cons,List.drop_zero]
         exact List.take_of_length_le (by omega)
       rw [h3,Ex.lT]
     rw [kJ] at hsub
     have hset:=iz dt hx (y:=x.put w) (o:=9) (vs:=w.cells) (by rw [cQ.len];omega) (nN x w)
     rw [Ex.lT] at hset
     have hle:i*20+9+11≤bs.length*20:=by omega
     have hlst:=vk (l:=bs)
     have hmap:=NO (l:=bs)
     have hbb:bs.length*256≤140737488355328:=by omega
     have hib:(i:Int)<bs.length:=by omega
     have hg2':=hg2 j4
     have hnl:¬S.length+1<S.length:=by omega
     have hf:∀S:Sh,c_ S (.az 2 0)=none:=fun _=>rfl
     have hxpv:(bs.map Bd.pv)[i]?=some x.pv:=by simp [hx]
     have hn5:(n:Int)<5:=by omega
     have nS':=s2.norm
     have sS':=s2.shift
     clear hS2 hT2 hs2 hT hTP
     generalize bj Bd.cells (bs.set i (x.put w))=F2 at *
     generalize bj Bd.cells bs=F at *
     rw [g335L0e] at e3
     simp [Jv,Ex.cl,tn] at e3
     simp at k0 e1 e2 e4 k5
     simp [Ex.cl] at hsub hset
     rw [aR (af:=g335) rfl (by simp [g335])]
     cases l with
     | true=>
       simp [Jw,Ex.cl] at e3
       simp (disch:=omega) [-getElem?_pos,g335,hz,k0,tn,tsh,tl,un,ush,ul,nS,sS,h0,hbl,e1,hget,hB,r1,hle,hsub,hx,hi,e2,g335L0e,e3,hlst,hk3,hkill,hmap,hbb,e4,hlen,hA.c_,hA.flat,hA.h_,hA.len,hA.leaf,ac,k5,hg2',hset,s1,hf,hnl,nS',sS']
     | false=>
       simp [Jw,Ex.cl] at e3
       simp (disch:=omega) [-getElem?_pos,g335,hz,k0,tn,tsh,tl,un,ush,ul,nS,sS,h0,hbl,e1,hget,hB,r1,hle,hsub,hx,hi,e2,g335L0e,e3,hlst,hk3,hkill,hmap,hbb,e4,hlen,hA.c_,hA.flat,hA.h_,hA.len,hA.leaf,ac,k5,hg2',hset,s1,hf,hnl,nS',sS']
end Go.Ab.Lw
namespace Go.Ab.Lw
open Ev
theorem vm.up {n m:Nat} {ds:List Dt} {bs:List Bd} {b:Nat} {S:Sh} (h:vm n ds bs b S) (hm:n≤m):vm m ds bs b S:=⟨h.d,h.pos,h.len,fun x hx=>(h.ok x hx).up hm,h.quiet,h.Cs⟩
theorem P8 {sz:Nat} {l:List PV} {k:Nat} (h:k≤l.length) (hs:bI sz l=true):cP false sz true false false [.pv (.aD l),.pv (.int .i64 (k:Int))]=some (.pv (.aD (l.drop k))):=by
 have h2:(k:Int)≤l.length:=by omega
 simp [cP,dY,ee,h2,hs]
theorem c310i {L:List Int} (hL:L.length≤100000) (bits way:Int):∃(ds:List Dt) (bs:List Bd) (b:Nat) (S:Sh),vm 200 ds bs b S ∧
   (aN AP).i 310 [.pv (vI bits),.pv (.aD (L.map vI)),.pv (vI way)] [] []=some ([.agg [.pv (.aD (ds.map Dt.pv)),.bu b 20 bs.length true]],S,[]):=by
 obtain ⟨ds,bs,k,j,hD,h0,h4,ho,k1⟩:=c306 (by unfold Sm;omega:Sm L) bits
 have H:vm 100 ds bs (1+k) (qd L k bs j):=⟨hD,h0,h4,ho,(iU (L:=L)).quiet j,CC⟩
 generalize qd L k bs j=S at *
 have tn:=H.quiet.norm
 have tsh:=H.quiet.shift
 obtain ⟨r,k2,r0,r1⟩:=c26 (n:=way) (m:=3) (by omega) (by omega)
 by_cases hr:r=1
 · obtain ⟨bs',b',S',hl,H',k3⟩:=c335 (M:=L.drop (min L.length 3)) (by unfold Sm;simp;omega) H
   refine ⟨ds,bs',b',S',H',?_⟩
   have tn':=H'.quiet.norm
   have tsh':=H'.quiet.shift
   have hmn:(if (3:Int)<L.length then (3:Int) else L.length)=((min L.length 3:Nat):Int):=by split<;>omega
   have hsl:=P8 (sz:=1) (l:=L.map vI) (k:=min L.length 3) (by simp;omega) (kO.head L)
   generalize min L.length 3=q at *
   subst hr
   simp at k1 k2 k3 hsl
   rw [aR (af:=g310) rfl (by simp [g310])]
   simp [oC,u_,va,pG,g310,k1,k2,hmn,hsl,k3,tn,tsh,tn',tsh',aP]
 · refine ⟨ds,bs,1+k,S,H.up (by omega),?_⟩
   try simp at k1 k2
   rw [aR (af:=g310) rfl (by simp [g310])]
   simp [g310,k1,k2,hr,tn,tsh,aP]
end Go.Ab.Lw
namespace Go.Ab.Lw
open Ev
def Jz (F G:rW):rW:=if F.1≠0 then F else G
theorem P9 {ds:List Dt} {names:List bV} {e:Ex} (he:uY e) (hn:names.length≤900000000)
   (ih:∀i,∀x∈e.ch,(aN AP).p 366 [.aD (ds.map Dt.pv),.aD ((names++eh e i).map .str),x.pv]=some [fP (x.bj ds (names++eh e i))]):∀(n i:Nat),e.ch.length-i=n→i≤e.ch.length→∀F:rW,(F.1=0→F=(0,0))→∃j:Int,
   cl AP g366L0 ⟨[(0,.pv (.aD (ds.map Dt.pv))),(1,.pv (.aD (names.map .str))),(5,.az 5 0),(6,.az 6 0),(7,.az 7 0),(12,.pv (.aD (e.ch.map Ex.pv))),(13,.pv (vI i))],[(5,e.cl),(6,m2 (0,0)),(7,m2 F)],[],[]⟩ =
     some (.exit 1,⟨[(0,.pv (.aD (ds.map Dt.pv))),(1,.pv (.aD (names.map .str))),(5,.az 5 0),(6,.az 6 0),(7,.az 7 0),(12,.pv (.aD (e.ch.map Ex.pv))),(13,.pv (vI j)),(69,.pv (.bool false))],[(5,e.cl),(6,m2 (0,0)),(7,m2 (Jz F (oB (fun i x=>x.bj ds (names++eh e i)) i (e.ch.drop i))))],[],[]⟩)
 | 0,i,hk,hi,F,hF=>by
   have:i=e.ch.length:=by omega
   subst this
   refine ⟨e.ch.length,?_⟩
   rw [List.drop_length]
   have:Jz F (oB (fun i x=>x.bj ds (names++eh e i)) e.ch.length [])=F:=by
     unfold Jz
     split
     · rfl
     · rename_i q;exact (hF (by simpa using q)).symm
   rw [this]
   generalize e.ch=C
   rw [g366L0e]
   simp [g366B0]
 | n+1,i,hk,hi,F,hF=>by
   have hi:i<e.ch.length:=by omega
   by_cases hF0:F.1=0
   · obtain ⟨x,hx⟩:=bn hi
     have hlen:=Ex.fQ (e:=e)
     have hk1:=he.ok.k
     have hk2:=he.ok.a
     obtain ⟨j,hr⟩:=P9 he hn ih n (i+1) (by omega) (by omega) (x.bj ds (names++eh e i)) nD
     refine ⟨j,?_⟩
     have k1:=c380 hi he.one.h he.ok
     have hbl:=nB he.ok (i:=i)
     have hb:(names.length+(eh e i).length)*16≤140737488355328:=by omega
     have hb1:names.length*16≤140737488355328:=by omega
     have hb2:(eh e i).length*16≤140737488355328:=by omega
     have k3:=ih i x (bo hx)
     rw [bC hx]
     have hor:Jz F (oB (fun i x=>x.bj ds (names++eh e i)) i (x::e.ch.drop (i+1)))=Jz (x.bj ds (names++eh e i)) (oB (fun i x=>x.bj ds (names++eh e i)) (i+1) (e.ch.drop (i+1))):=by
       simp only [Jz,oB,hF0]
       simp
     rw [hor]
     clear hor
     generalize hG:Jz (x.bj ds (names++eh e i)) (oB (fun i x=>x.bj ds (names++eh e i)) (i+1) (e.ch.drop (i+1)))=G at *
     generalize hFF:x.bj ds (names++eh e i)=FF at *
     clear ih hG
     have hF':=hF hF0
     subst hF'
     generalize eh e i=B at *
     generalize e.ch=C at *
     rw [g366L0e] at hr ⊢
     simp at k1 k3 hr
     by_cases h1:names=[]
     · subst h1
       simp only [List.map_nil] at hr
       by_cases h2:B=[]
       · subst h2
         simp at k3
         simp (disch:=omega) [-getElem?_pos,g366B0,hi,hx,k1,k3,aq]
         rw [g366L0e]
         simp [hr]
       · simp at k3
         simp (disch:=omega) [-getElem?_pos,g366B0,hi,hx,k1,k3,h2,hb2,aq]
         rw [g366L0e]
         simp [hr]
     · by_cases h2:B=[]
       · subst h2
         simp at k3
         simp (disch:=omega) [-getElem?_pos,g366B0,hi,hx,k1,k3,h1,hb1,aq]
         rw [g366L0e]
         simp [hr]
       · simp (disch:=omega) [-getElem?_pos,g366B0,hi,hx,k1,k3,h1,h2,hb,hb1,aq]
         rw [g366L0e]
         simp [hr]
   · refine ⟨i,?_⟩
     have:Jz F (oB (fun i x=>x.bj ds (names++eh e i)) i (e.ch.drop i))=F:=by simp [Jz,hF0]
     rw [this]
     generalize e.ch=C at *
     rw [g366L0e]
     simp [g366B0,hi,hF0]
theorem c366 {ds:List Dt} (hS:Sm ds) (hc:∀d∈ds,Sm d.cons):∀(n:Nat) {e:Ex},uY e→e.tt n→∀names:List bV,names.length+1000*n≤900000000→(aN AP).p 366 [.aD (ds.map Dt.pv),.aD (names.map .str),e.pv]=some [fP (e.bj ds names)]
 | 0,e,_,hh,_,_=>by cases hh
 | n+1,e,he,hh,names,hl=>by
   have ih:∀i,∀x∈e.ch,(aN AP).p 366 [.aD (ds.map Dt.pv),.aD ((names++eh e i).map .str),x.pv]=some [fP (x.bj ds (names++eh e i))]:=fun i x hx=>
     c366 hS hc n (he.c hx) (hh.c x hx) _ (by have:=nB he.ok (i:=i);simp;omega)
   obtain ⟨j,h⟩:=P9 he (by omega) ih _ 0 rfl (by omega) (ei ds names e) BG
   have k1:=c145 he.ok
   rw [List.drop_zero] at h
   rw [Ex.BF]
   change _=some [fP (Jz (ei ds names e) (oB (fun i x=>x.bj ds (names++eh e i)) 0 e.ch))]
   clear ih
   have k2:=c364 (s:=names) (by unfold Sm;omega) (y:=e.name)
   have k3:=c191 hS hc (s:=e.name)
   have k4:=c379 hS hc he.ok
   have k5:=c186 hS (l:=[]) (by simp [Sm]) he.ok.t he.cw.h
   have f9:=c365 (a:=9) (b:=e.pos)
   have fT:=c365 (a:=e.ty.formed ds []) (b:=e.pos)
   generalize Jz (ei ds names e) (oB (fun i x=>x.bj ds (names++eh e i)) 0 e.ch)=G at *
   generalize e.ch=C at *
   rw [au (af:=g366) rfl rfl (by decide)]
   rw [g366L0e] at h
   simp at k1 k2 k3 k4 k5 f9 fT
   generalize hQ:lW ds e=Q at *
   generalize hT:e.ty.formed ds []=T at *
   by_cases q1:e.kind=1
   · simp only [q1] at k1
     by_cases q2:e.name∈names
     · simp [ei,q1,q2] at h;simp [q2] at k2;simp [g366,q1,k1,k2,g366L0e,h]
     · simp [ei,q1,q2] at h;simp [q2] at k2;simp [g366,q1,k1,k2,f9,g366L0e,h]
   · by_cases q3:e.kind=2
     · simp only [q3] at k1
       cases q4:hZ ds e.name 0 with
       | none=>
         rw [q4] at k3
         simp [rF] at k3
         simp [ei,q3,q4] at h
         simp [g366,q3,k1,k3,f9,g366L0e,h]
       | some r=>
         rw [q4] at k3
         simp [rF] at k3
         simp [ei,q3,q4] at h
         simp [g366,q3,k1,k3,g366L0e,h]
     · by_cases q5:e.kind=8
       · simp only [q5] at k1
         simp [q5] at k4
         simp [ei,q5,hQ] at h
         simp [g366,q5,k1,k4,g366L0e,h]
       · by_cases q7:e.kind=9
         · simp only [q7] at k1
           by_cases q8:T=0
           · subst q8
             simp [ei,q7,hT] at h
             simp [g366,q7,k1,k5,g366L0e,h]
           · simp [ei,q7,hT,q8] at h
             simp [g366,q7,q8,k1,k5,fT,g366L0e,h]
         · simp [ei,q1,q3,q5,q7] at h
           simp [g366,q1,q3,q5,q7,k1,g366L0e,h]
end Go.Ab.Lw
namespace Go.Ab.Lw
open Ev
def la (ds:List Dt) (b:Bd):Int:=if b.sg=true then b.sig.formed ds (cr b.sig) else 0
def f_ (b:Bd) (names:List bV):List bV:=if b.rc=true then names++[b.name] else names
noncomputable def jl (ds:List Dt):List Bd→List bV→rW
 | [],_=>(0,0)
 | b::r,names=>if b.name∈names then (6,b.pos) else if la ds b≠0 then (la ds b,b.pos) else if (b.body.bj ds (f_ b names)).1≠0 then b.body.bj ds (f_ b names) else jl ds r (names++[b.name])
noncomputable def jg (ds:List Dt) (bs:List Bd):rW:=if (check ds).1≠0 then check ds else jl ds bs []
def nV (z:Bool) (names:List bV):AV:=if z then .own [] 0 else .pv (.aD (names.map .str))
def nT (z:Bool):aM:=if z then [0] else []
def pC (ds:List Dt) (bs:List Bd):List AV:=[.pv (.aD (ds.map Dt.pv)),.pv (.aD (bs.map Bd.pv))]
def NR (ds:List Dt) (bs:List Bd) (F:rW) (r:Option (bf×St)):Prop:=
 (F=(0,0)∧∃(V:AV) (T:aM),r=some (.exit 0,⟨[(1,.az 1 0),(2,.az 2 0),(4,V),(18,.pv (.aD (bs.map Bd.pv))),(19,.pv (vI bs.length)),(20,.pv (vI bs.length)),(21,.pv (.bool false))],[(1,pC ds bs),(2,[.pv (vI 0),.pv (vI 0)])],[],T⟩)) ∨
 (F.1≠0∧∃(T:aM),r=some (.ret,⟨[(2,.az 2 0)],[(2,[.pv (vI F.1),.pv (vI F.2)])],[],T⟩))
theorem P_ {ds:List Dt} (hS:Sm ds) (hc:∀d∈ds,Sm d.cons) {Q:Nat} (hQ:Q≤1000) {bs:List Bd} (hl:bs.length≤1000) (ho:∀b∈bs,kY Q b):∀(n i:Nat),bs.length-i=n→i≤bs.length→∀(z:Bool) (names:List bV),(z=true→names=[])→names.length≤i →
   NR ds bs (jl ds (bs.drop i) names) (cl AP g403L0 ⟨[(1,.az 1 0),(2,.az 2 0),(4,nV z names),(18,.pv (.aD (bs.map Bd.pv))),(19,.pv (vI bs.length)),(20,.pv (vI i))],[(1,pC ds bs),(2,[.pv (vI 0),.pv (vI 0)])],[],nT z⟩)
 | 0,i,hn,hi,z,names,hz,hnl=>by
   have:i=bs.length:=by omega
   subst this
   left
   refine ⟨by simp [jl],nV z names,nT z,?_⟩
   rw [g403L0e]
   cases z<;>simp [g403B0,pC,nV,nT]
 | n+1,i,hn,hi,z,names,hz,hnl=>by
   have hi:i<bs.length:=by omega
   obtain ⟨b,hb⟩:=bn hi
   have B:=ho b (bo hb)
   obtain ⟨s1,_⟩:=mL (t:=b.sig)
   have hsn:=B.sn
   have hnn:(cr b.sig).length≤90:=by
     have:=lK (l:=b.sig.d0) (out:=[])
     simp at this
     unfold cr;omega
   have k1:=c214 (s:=names) (by unfold Sm;omega) (y:=b.name)
   have k2:=c195 (S:=b.sig.d0) (by omega) B.so B.sw (fun y hy=>hy)
   have k3:=c185 hS (l:=cr b.sig) (by unfold Sm;omega) B.so
   have h1n:[b.name].length=1:=rfl
   have k4:=c409 (a:=names) (b:=[b.name]) (by omega)
   have hsl:(f_ b names).length≤1001:=by unfold f_;split<;>(try simp)<;>omega
   have k5:=c405 hS hc Q B.sc B.h (f_ b names) (by omega)
   have hz0:∀{f:rW},f=b.body.bj ds (f_ b names)→f.1=0→f=(0,0):=fun h h0=>by rw [h] at h0 ⊢;exact nD h0
   rw [bC hb,jl]
   by_cases q1:b.name∈names
   · rw [if_pos q1]
     rw [decide_eq_true q1] at k1
     right
     refine ⟨by simp,?_⟩
     cases z with
     | true=>rw [hz rfl] at q1;simp at q1
     | false=>
       refine ⟨nT false,?_⟩
       rw [g403L0e]
       simp (disch:=omega) [-getElem?_pos,g403B0,pC,nV,nT,hb,hi,k1]
   · rw [if_neg q1]
     rw [decide_eq_false q1] at k1
     by_cases q2:la ds b=0
     · have q2':¬la ds b≠0:=fun h=>h q2
       rw [if_neg q2']
       by_cases q3:(b.body.bj ds (f_ b names)).1=0
       · have q3':¬(b.body.bj ds (f_ b names)).1≠0:=fun h=>h q3
         rw [if_neg q3']
         have ih:=P_ hS hc hQ hl ho n (i+1) (by omega) (by omega) false (names++[b.name]) (by simp) (by simp;omega)
         have e1:cl AP g403L0 ⟨[(1,.az 1 0),(2,.az 2 0),(4,nV z names),(18,.pv (.aD (bs.map Bd.pv))),(19,.pv (vI bs.length)),(20,.pv (vI i))],[(1,pC ds bs),(2,[.pv (vI 0),.pv (vI 0)])],[],nT z⟩=cl AP g403L0 ⟨[(1,.az 1 0),(2,.az 2 0),(4,nV false (names++[b.name])),(18,.pv (.aD (bs.map Bd.pv))),(19,.pv (vI bs.length)),(20,.pv (vI (i+1:Nat)))],[(1,pC ds bs),(2,[.pv (vI 0),.pv (vI 0)])],[],nT false⟩:=by
           have f0:=hz0 rfl q3
           rw [f0] at k5
           unfold f_ at k5
           unfold la at q2
           conv=>lhs;rw [g403L0e]
           simp at k1 k2 k3 k4
           cases z with
           | true=>
             have:=hz rfl
             subst this
             simp at k1 k4
             cases hg:b.sg<;>cases hr:b.rc<;>simp [hg] at q2<;>simp [hr] at k5<;>simp (disch:=omega) [-getElem?_pos,g403B0,pC,nV,nT,hb,hi,k1,k2,k3,k4,k5,hg,hr,q2,aq]<;>(rw [g403L0e];conv=>rhs;rw [g403L0e])<;>simp
           | false=>
             cases hg:b.sg<;>cases hr:b.rc<;>simp [hg] at q2<;>simp [hr] at k5<;>simp (disch:=omega) [-getElem?_pos,g403B0,pC,nV,nT,hb,hi,k1,k2,k3,k4,k5,hg,hr,q2,aq]
         rw [e1]
         exact ih
       · rw [if_pos q3]
         right
         refine ⟨q3,?_⟩
         generalize hF:b.body.bj ds (f_ b names)=F at *
         unfold f_ at k5
         unfold la at q2
         simp at k1 k2 k3 k4
         cases z with
         | true=>
           have:=hz rfl
           subst this
           simp at k1 k4
           cases hg:b.sg<;>cases hr:b.rc<;>simp [hg] at q2<;>simp [hr] at k5<;>(refine ⟨nT true,?_⟩;rw [g403L0e];simp (disch:=omega) [-getElem?_pos,g403B0,pC,nV,nT,hb,hi,k1,k2,k3,k4,k5,hg,hr,q2,q3,aq])
         | false=>
           cases hg:b.sg<;>cases hr:b.rc<;>simp [hg] at q2<;>simp [hr] at k5<;>(refine ⟨nT false,?_⟩;rw [g403L0e];simp (disch:=omega) [-getElem?_pos,g403B0,pC,nV,nT,hb,hi,k1,k2,k3,k4,k5,hg,hr,q2,q3,aq])
     · rw [if_pos q2]
       right
       refine ⟨q2,?_⟩
       have hg:b.sg=true:=by
         cases hg:b.sg with
         | true=>rfl
         | false=>simp [la,hg] at q2
       simp [la,hg] at q2
       simp [la,hg]
       simp at k1 k2 k3
       cases z with
       | true=>
         have:=hz rfl
         subst this
         simp at k1
         refine ⟨nT true,?_⟩
         rw [g403L0e]
         simp (disch:=omega) [-getElem?_pos,g403B0,pC,nV,nT,hb,hi,k1,k2,k3,hg,q2]
       | false=>
         refine ⟨nT false,?_⟩
         rw [g403L0e]
         simp (disch:=omega) [-getElem?_pos,g403B0,pC,nV,nT,hb,hi,k1,k2,k3,hg,q2]
structure MI (Q:Nat) (ds:List Dt) (bs:List Bd):Prop where
 d:pP ds
 len:bs.length≤1000
 ok:∀b∈bs,kY Q b
theorem c403 {Q:Nat} (hQ:Q≤1000) {ds:List Dt} {bs:List Bd} (P:MI Q ds bs):(aN AP).p 403 [.agg [.aD (ds.map Dt.pv),.aD (bs.map Bd.pv)]]=some [fP (jg ds bs)]:=by
 have hs:=P.d.small
 have k1:=c188 hs.num hs.par hs.d7 (fun d hd c hc=>⟨(hs.Pw d hd c hc).1,(hs.Pw d hd c hc).2.1⟩)
 rw [au (af:=g403) rfl rfl (by decide)]
 unfold jg
 by_cases q:(check ds).1=0
 · have q':¬(check ds).1≠0:=fun h=>h q
   rw [if_neg q']
   rcases P_ hs.num hs.d7 hQ P.len P.ok _ 0 rfl (by omega) true [] (fun _=>rfl) (by simp) with ⟨h0,V,T,h⟩ | ⟨h0,T,h⟩
   · rw [List.drop_zero] at h0
     rw [h0]
     rw [g403L0e] at h
     simp [pC,nV,nT] at h
     simp [g403,k1,q,g403L0e,h]
   · rw [List.drop_zero] at h0 h
     generalize jl ds bs []=F at *
     rw [g403L0e] at h
     simp [pC,nV,nT] at h
     simp [g403,k1,q,g403L0e,h]
 · rw [if_pos q]
   simp [g403,k1,q]
end Go.Ab.Lw
