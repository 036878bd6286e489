import Derived.Test.YthcoecdbgdhihaaGreatDoorLibA
/-
  The holes of an expression behind a change at a hole.
  Depths of types.
  Types that are too deep.
  Valid expressions, by the program: the parts.
  Valid expressions, by the program.
  Valid expressions, by the program: the whole of tree.Valid.
  Programs without positions, as arrays that may be written.
  Texts of types, by the program (over any table of functions that knows the package show) and by the reference.
  Texts of expressions: the parts.
  Texts of expressions: all of them.
  Texts of programs: declarations, and the reference's loops.
  The holes of a program: how many, and where.
  Where a hole of a program is.
  The names at a hole.
  The law ScopeVisible: all of it.
  The names at a hole: the same by both.
  Filling a hole.
  The law ShowPrograms.
  The names at a hole, by the reference.
  Stripped expressions aR their forms.
  Expressions that the maker makes fill holes.
  Expressions are read, by the reference: holes, lambdas, an application.
  A binding is read; what is read is not too deep, by the reference.
  A program of one binding is read, by the reference.
  Lambdas around a hole, as text, tokens and expression.
  The programs of the law SpliceDeep are read.
  Positions are taken away, by the reference: plain expressions.
  Expressions that are equal apart from positions, by the reference.
  Programs that are equal apart from positions, by the reference.
  Two holes filled: changes at different holes may change places, and the names at a hole stay.
  The expressions of the law SpliceDeep: closed under filling; their texts.
  Scopes: the first error of an expression, by the reference.
  Filling the hole of a program of one binding, by the program and by the reference: the same.
  Chapter 12's first example.
  The law SpliceCounts.
  The law SpliceDeep.
-/
set_option linter.unusedVariables false
set_option linter.unusedSimpArgs false
set_option linter.unnecessarySimpa false
set_option maxRecDepth 100000
set_option maxHeartbeats 8000000
namespace Go.Ab.Lw
open Ev
theorem fJ(e:Ex):e.strip.ch=e.ch.map Ex.strip:=by
 rw[Ex.dw];simp only[Ex.ch,List.map_append,List.map_map,Function.comp_def]
theorem lj(e:Ex):e.strip.kind=e.kind:=by rw[Ex.dw]
theorem wD(e:Ex):e.strip.hl=e.hl:=by
 refine Ex.recC (p:=fun e=>e.strip.hl=e.hl) ?_ e;intro e ih;rw[Ex.mg,Ex.mg e,lj,fJ,List.map_map];have:e.ch.map (Ex.hl ∘ Ex.strip)=e.ch.map Ex.hl:=List.map_congr_left fun x hx=>ih x hx
 rw[this]
theorem wE(e:Ex):e.strip.sz=e.sz:=by
 refine Ex.recC (p:=fun e=>e.strip.sz=e.sz) ?_ e;intro e ih;rw[Ex.gW,Ex.gW e,fJ,List.map_map];have:e.ch.map (Ex.sz ∘ Ex.strip)=e.ch.map Ex.sz:=List.map_congr_left fun x hx=>ih x hx
 rw[this]
theorem mY:∀{l:List (List (List Int))} {s i:Nat} {c:List (List Int)},l[i]?=some c→kn s l=kn s (l.take i)++(c.map (fun p=>((s+i:Nat):Int)::p)++kn (s+i+1) (l.drop (i+1)))
 |[],_,_,_,h=>by simp at h
 |a::r,s,0,c,h=>by
   simp at h;subst h;simp[kn]
 |a::r,s,i+1,c,h=>by
   have ih:=mY (l:=r) (s:=s+1) (i:=i) (c:=c) (by simpa using h);have e1:s+1+i=s+(i+1):=(by omega);rw[e1]at ih;simp only[kn,List.take_succ_cons,List.drop_succ_cons];rw[ih,List.append_assoc]
theorem GL:∀{l:List (List (List Int))} {s k:Nat} {p:List Int},(kn s l)[k]?=some p→∃(i:Nat) (c:List (List Int)) (k':Nat) (q:List Int),l[i]?=some c∧c[k']?=some q∧p=((s+i:Nat):Int)::q∧k=(kn s (l.take i)).length+k'
 |[],_,_,_,h=>by simp[kn]at h
 |a::r,s,k,p,h=>by
   simp only[kn]at h;rw[List.getElem?_append]at h;split at h
   ·rename_i hlt;rw[List.getElem?_map,Option.map_eq_some_iff]at h;obtain⟨q,hq,rfl⟩:=h;exact⟨0,a,k,q,rfl,hq,rfl,by simp[kn]⟩
   · rename_i hge;simp only[List.length_map]at hge h;obtain⟨i,c,k',q,h1,h2,h3,h4⟩:=GL h;refine⟨i+1,c,k',q,by simpa using h1,h2,?_,?_⟩
     ·rw[h3];congr 2;omega
     ·simp only[List.take_succ_cons,kn,List.length_append,List.length_map];omega
theorem GM{α:Type}{A M B:List α}{k:Nat}(h:k<M.length):(A++(M++B)).take (A.length+k)=A++M.take k:=by
 rw[List.take_append,List.take_of_length_le (l:=A) (by omega),Nat.add_sub_cancel_left,List.take_append_of_le_length (by omega)]
theorem GN{α:Type}{A M B:List α}{k:Nat}(h:k<M.length):(A++(M++B)).drop (A.length+k+1)=M.drop (k+1)++B:=by
 rw[List.drop_append,List.drop_eq_nil_of_le (as:=A) (by omega),List.nil_append,show A.length+k+1-A.length=k+1 by omega,List.drop_append_of_le_length (by omega)]
theorem KM(x:Ex)(e:Ex):∀(k:Nat) (p:List Int),e.hl[k]?=some p→(Ex.ca x p e).2=true∧(Ex.ca x p e).1.hl=e.hl.take k++(x.hl.map (fun q=>p++q)++e.hl.drop (k+1)):=by
 refine Ex.recC (p:=fun e=>∀(k:Nat) (p:List Int),e.hl[k]?=some p→(Ex.ca x p e).2=true∧(Ex.ca x p e).1.hl=e.hl.take k++(x.hl.map (fun q=>p++q)++e.hl.drop (k+1))) ?_ e;intro e ih k p h;have hh:=Ex.mg e;by_cases hk:e.kind=10
 · rw[if_pos hk]at hh;rw[hh]at h⊢;cases k with
   |zero=>
     simp at h;subst h;simp[Ex.ca]
   |succ k=>simp at h
 · rw[if_neg hk]at hh;rw[hh]at h;obtain⟨i,c,k',q,h1,h2,h3,h4⟩:=GL h;rw[Nat.zero_add]at h3;subst h3;rw[List.getElem?_map,Option.map_eq_some_iff]at h1;obtain⟨y,hy,rfl⟩:=h1;have hi:=(List.getElem?_eq_some_iff.1 hy).1;obtain⟨g1,g2⟩:=ih y (bE hy) k' q h2
   have hR:Ex.ca x ((i:Int)::q) e=(e.jA (e.ch.set i (Ex.ca x q y).1),true):=by
     rw[Ex.ca,if_pos ⟨by omega,by omega⟩,Int.toNat_natCast,hy];simp only;cases hp:Ex.ca x q y with
     |mk z b=>
       rw[hp]at g1;simp only at g1;subst g1;rfl
   rw[hR];refine⟨rfl,?_⟩;have hlc:(e.ch.set i (Ex.ca x q y).1).length=e.kids.length+e.aB.length:=by rw[List.length_set,Ex.c_]
   have hwc:=tH hlc;have hwk:(e.jA (e.ch.set i (Ex.ca x q y).1)).kind=e.kind:=(by rw[Ex.jA,if_pos hlc]);rw[Ex.mg (e.jA _),hwk,if_neg hk,hwc,hh];have s1:=mY (l:=e.ch.map Ex.hl) (s:=0) (i:=i) (c:=y.hl) (by rw[List.getElem?_map,hy];rfl);have s2:=mY (l:=(e.ch.set i (Ex.ca x q y).1).map Ex.hl) (s:=0) (i:=i) (c:=(Ex.ca x q y).1.hl) (by rw[List.getElem?_map,List.getElem?_set_self hi];rfl);rw[Nat.zero_add]at s1 s2;have t1:((e.ch.set i (Ex.ca x q y).1).map Ex.hl).take i=(e.ch.map Ex.hl).take i:=(by rw[List.map_set,List.take_set_of_le (Nat.le_refl i)]);have t2:((e.ch.set i (Ex.ca x q y).1).map Ex.hl).drop (i+1)=(e.ch.map Ex.hl).drop (i+1):=(by rw[List.map_set,List.drop_set_of_lt (by omega)]);rw[t1,t2,g2]at s2;rw[s2,s1,h4];have hk':=(List.getElem?_eq_some_iff.1 h2).1;generalize kn 0 ((e.ch.map Ex.hl).take i)=A at *;generalize kn (i+1) ((e.ch.map Ex.hl).drop (i+1))=B at *;rw[GM (by rw[List.length_map];omega),GN (by rw[List.length_map];omega)];simp only[List.map_append,List.map_map,List.map_take,List.map_drop,List.append_assoc,Function.comp_def,List.cons_append]
theorem N_{ch:List Ty}(hN:ch.length≤1000000000000000000)(hB:∀x∈ch,x.dp≤100000000)(ih:∀x∈ch,(aC AP).p 51 [x.pv]=some [vI x.dp]):∀(n i:Nat),ch.length-i=n→i≤ch.length→∀m:Nat,m≤100000001 →
   cl AP g51L0 ⟨[(3,.pv (vI m)),(7,.pv (.az (ch.map Ty.pv))),(8,.pv (vI ch.length)),(9,.pv (vI i))],[],[],[]⟩ =
     some (.exit 0,⟨[(3,.pv (vI (mV m ((ch.drop i).map Ty.dp):Nat))),(7,.pv (.az (ch.map Ty.pv))),(8,.pv (vI ch.length)),(9,.pv (vI ch.length)),(10,.pv (.bool false))],[],[],[]⟩)
 |0,i,hn,hi,m,hm=>by
   have:i=ch.length:=by omega
   subst this;rw[g51L0e];simp[g51B0,mV]
 |n+1,i,hn,hi,m,hm=>by
   have hi:i<ch.length:=(by omega);obtain⟨x,hx⟩:=bl hi;have k:=ih x (bE hx);have hb:=hB x (bE hx);have e:=N_ hN hB ih n (i+1) (by omega) (by omega) (max m (1+x.dp)) (by omega);rw[aX hx,List.map_cons];simp only[mV];generalize mV (max m (1+x.dp)) ((ch.drop (i+1)).map Ty.dp)=M at *;generalize hd:x.dp=d at *;rw[g51L0e]at e⊢;simp at k e;by_cases q:m<1+d
   ·have q1:(m:Int)<1+d:=(by omega);rw[Nat.max_eq_right (by omega)]at e;simp at e;simp (disch:=omega) [-getElem?_pos,g51B0,hx,hi,k,aw,q1];rw[g51L0e];simp[e]
   ·have q1:¬(m:Int)<1+d:=(by omega);rw[Nat.max_eq_left (by omega)]at e;simp (disch:=omega) [-getElem?_pos,g51B0,hx,hi,k,aw,q1];rw[g51L0e];simp[e]
theorem mZ{t x:Ty}(h:x∈t.args):x.nodes.length<t.nodes.length:=by
 have:=lh (f:=fun y:Ty=>y.nodes.length) h
 have h2:t.nodes.length=1+(t.args.map fun y=>y.nodes.length).sum:=by
   rw[Ty.wo,List.length_cons,List.length_flatMap];omega
 omega
theorem Ty.AI(t:Ty):t.dp<t.nodes.length:=by
 refine Ty.l3 (p:=fun t=>t.dp<t.nodes.length) ?_ t;intro t ih;rw[Ty.ju];have hp:1≤t.nodes.length:=by cases t;rw[Ty.nodes];simp
 have:mV 0 (t.args.map Ty.dp)≤t.nodes.length-1:=zF (by omega) (by
   intro d hd;rw[List.mem_map]at hd;obtain⟨x,hx,rfl⟩:=hd;have h1:=ih x hx;have h2:=mZ hx;omega)
 omega
theorem c51(t:Ty):t.Ok→t.nodes.length≤100000000→(aC AP).p 51 [t.pv]=some [vI t.dp]:=by
 refine Ty.l3 (p:=fun t=>t.Ok→t.nodes.length≤100000000→(aC AP).p 51 [t.pv]=some [vI t.dp]) ?_ t;intro t ih ho hs;have hN:t.args.length≤1000000000000000000:=by have:=ho.sm;unfold Sm at this;omega
 rw[ah (af:=g51) rfl rfl (by decide)];rw[Ty.ju];have e1:=N_ hN (fun x hx=>by have:=x.AI;have:=mZ hx;omega) (fun x hx=>ih x hx (ho.F_ x hx) (by have:=mZ hx;omega)) _ 0 rfl (by omega) 0 (by omega);rw[List.drop_zero]at e1;generalize mV 0 (t.args.map Ty.dp)=M at *;rw[g51L0e]at e1;simp at e1;simp[g51,g51L0e,e1]
def Ex.zL(e:Ex):Bool:=decide (40<e.ty.dp) || (e.ch.attach.map fun x=>x.1.zL).any id
termination_by SizeOf.sizeOf e
decreasing_by exact Ex.ji x.2
theorem Ex.ll(e:Ex):e.zL=(decide (40<e.ty.dp) || e.ch.any Ex.zL):=by
 rw[Ex.zL,List.map_attach_eq_pmap,List.pmap_eq_map,List.any_map];rfl
inductive Ex.Tn:Ex→Prop
 |mk {e:Ex}:e.ty.nodes.length≤100000000→(∀x∈e.ch,x.Tn)→e.Tn
theorem Ex.Tn.t{e:Ex}(h:e.Tn):e.ty.nodes.length≤100000000:=by cases h;assumption
theorem Ex.Tn.c{e:Ex}(h:e.Tn):∀x∈e.ch,x.Tn:=by cases h;assumption
theorem c548i(e:Ex):e.Ok→e.Tn→∀sh,aJ sh→(aC AP).i 548 [.pv e.pv] sh []=some ([.pv (.bool e.zL)],sh,[]):=by
 refine Ex.recC (p:=fun e=>e.Ok→e.Tn→∀sh,aJ sh→(aC AP).i 548 [.pv e.pv] sh []=some ([.pv (.bool e.zL)],sh,[])) ?_ e;intro e ih ho ht sh hq;have k1:=c51 e.ty ho.t ht.t;have k2:=c414 ho;have hN:e.ch.length≤2000:=by rw[Ex.c_];have:=ho.k;have:=ho.a;omega
 have hS:Sm e.ch:=by unfold Sm;omega
 have hA:tq (.fn 548 []) sh Ex.pv Ex.zL e.ch:=by
   intro x hx;have:=ih x hx (ho.c x hx) (ht.c x hx) sh hq;have hn:=hq.norm;have hs:=hq.shift;simp at this;simp[this,hn,hs]
 have k3:=Gf AE (m:=500) (k:=516) rfl rfl hS hq rfl rfl (fun _ _=>rfl) hA;have hn:=hq.norm;have hs:=hq.shift;rw[Ex.ll];rw[aH (af:=g548) rfl (by simp[g548])];generalize e.ch.any Ex.zL=b at *;generalize e.ty.dp=d at *;simp at k1 k2 k3;by_cases h:40<d
 ·have h':40<(d:Int):=(by omega);simp[g548,k1,h,h',hn,hs]
 ·have h':¬40<(d:Int):=(by omega);simp[g548,k1,k2,k3,h,h',hn,hs]
theorem c548{e:Ex}(ho:e.Ok)(ht:e.Tn):(aC AP).p 548 [e.pv]=some [.bool e.zL]:=by
 have k1:=c51 e.ty ho.t ht.t;have k2:=c414 ho;have hN:e.ch.length≤2000:=by rw[Ex.c_];have:=ho.k;have:=ho.a;omega
 have hS:Sm e.ch:=by unfold Sm;omega
 have hA:tq (.fn 548 []) [] Ex.pv Ex.zL e.ch:=by
   intro x hx;have:=c548i x (ho.c x hx) (ht.c x hx) [] (by intro cs h;simp at h);simp at this;simp[this]
 have k3:=Gf AE (m:=500) (k:=516) rfl rfl hS (sh:=[]) (by intro cs h;simp at h) rfl rfl (fun _ _=>rfl) hA;rw[Ex.ll];rw[ah (af:=g548) rfl rfl (by decide)];generalize e.ch.any Ex.zL=b at *;generalize e.ty.dp=d at *;simp at k1 k2 k3;by_cases h:40<d
 ·have h':40<(d:Int):=(by omega);simp[g548,k1,h,h']
 ·have h':¬40<(d:Int):=(by omega);simp[g548,k1,k2,k3,h,h']
def KN(s:bM):Bool:=fH ⟨4,s,0,0,[]⟩
def GO(s:bM):Bool:=fH ⟨5,s,0,0,[]⟩
theorem c495{s:bM}(h:zz s):(aC AP).p 495 [.str s]=some [.bool (KN s)]:=by
 have c:=c29 (t:=⟨4,s,0,0,[]⟩) (.mk (by unfold Sm;simp) (by simp)) (.mk h (by simp));rw[ah (af:=g495) rfl rfl (by decide)];simp at c;simp[g495,c,KN]
theorem c496{s:bM}(h:zz s):(aC AP).p 496 [.str s]=some [.bool (GO s)]:=by
 have c:=c29 (t:=⟨5,s,0,0,[]⟩) (.mk (by unfold Sm;simp) (by simp)) (.mk h (by simp));rw[ah (af:=g496) rfl rfl (by decide)];simp at c;simp[g496,c,GO]
def Ty.wr(t:Ty):Bool:=(decide (t.kind=4) || decide (t.kind=5)) && (t.args.attach.map fun x=>x.1.wr).all fun b=>b
termination_by SizeOf.sizeOf t
decreasing_by
 have:=_root_.List.sizeOf_lt_of_mem x.2;cases t;simp at *;omega
theorem Ty.MF(t:Ty):t.wr=((decide (t.kind=4) || decide (t.kind=5)) && t.args.all Ty.wr):=by
 rw[Ty.wr,List.map_attach_eq_pmap,List.pmap_eq_map,List.all_map];rfl
theorem c497(t:Ty):t.Ok→(aC AP).p 497 [t.pv]=some [.bool t.wr]:=by
 refine Ty.l3 (p:=fun t=>t.Ok→(aC AP).p 497 [t.pv]=some [.bool t.wr]) ?_ t;intro t ih ho
 have hA:tq (.fn 515 []) [] Ty.pv (fun x=>!x.wr) t.args:=by
   intro x hx;have k:=ih x hx (ho.F_ x hx)
   have:(aC AP).i 515 [.pv x.pv] [] []=some ([.pv (.bool (!x.wr))],[],[]):=by
     rw[aH (af:=g515) rfl (by simp[g515])];simp at k;simp[g515,k]
   simp at this;simp[this]
 have k3:=Gf L5 (m:=75) (k:=107) rfl rfl ho.sm (sh:=[]) (by intro cs h;simp at h) rfl rfl (fun _ _=>rfl) hA;have e:(!(t.args.any fun x=>!x.wr))=t.args.all Ty.wr:=oF;rw[Ty.MF,←e];rw[ah (af:=g497) rfl rfl (by decide)];generalize t.args.any (fun x=>!x.wr)=b at *
 try simp at k3
 by_cases h4:t.kind=4
 ·simp[g497,h4,k3]
 · by_cases h5:t.kind=5
   ·simp[g497,h5,k3]
   ·simp[g497,h4,h5]
def MG(a:Ar):Bool:=!decide (a.pos<0) && (KN a.dx && (!decide (4<a.vars.length) && a.vars.all GO))
structure Ng(a:Ar):Prop where
 c:zz a.dx
 l:a.vars.length≤1000
 v:∀s∈a.vars,zz s
theorem KO{s:List bM}(h:∀x∈s,zz x):tq (.fn 499 []) [] PV.str (fun x=>!GO x) s:=by
 intro x hx;have k:=c496 (h x hx)
 have:(aC AP).i 499 [.pv (.str x)] [] []=some ([.pv (.bool (!GO x))],[],[]):=by
   rw[aH (af:=g499) rfl (by simp[g499])];simp[g499,k]
 simp[this]
theorem MH{e:Ex}(hN:e.aB.length≤1000)(hn:∀a∈e.aB,Ng a):∀(n i:Nat),e.aB.length-i=n→i≤e.aB.length→∃i':Int,
   cl AP g483L0 ⟨[(1,.aK 1 0),(127,.pv (.az (e.aB.map Ar.pv))),(128,.pv (vI e.aB.length)),(129,.pv (vI i))],[(1,e.cl)],[],[]⟩ =
     some (if (e.aB.drop i).all MG then (.exit 2,⟨[(1,.aK 1 0),(127,.pv (.az (e.aB.map Ar.pv))),(128,.pv (vI e.aB.length)),(129,.pv (vI e.aB.length)),(130,.pv (.bool false))],[(1,e.cl)],[],[]⟩)
       else (.ret,⟨[(2,.pv (.bool false))],[],[],[]⟩))
 |0,i,hk,hi=>by
   have:i=e.aB.length:=by omega
   subst this;refine⟨0,?_⟩;rw[List.drop_length,g483L0e];simp[g483B0]
 |n+1,i,hk,hi=>by
   have hi:i<e.aB.length:=(by omega);obtain⟨x,hx⟩:=bl hi;obtain⟨n1,n2,n3⟩:=hn x (bE hx);obtain⟨_,ih⟩:=MH hN hn n (i+1) (by omega) (by omega);refine⟨0,?_⟩;have k1:=c495 n1;have k3:=Gf jg (m:=498) (k:=421) rfl rfl (s:=x.vars) (by unfold Sm;omega) (sh:=[]) (by intro cs h;simp at h) rfl rfl (fun _ _=>rfl) (KO n3);have e1:(!(x.vars.any fun x=>!GO x))=x.vars.all GO:=oF;rw[aX hx,List.all_cons];have hv:MG x=(!decide (x.pos<0) && (KN x.dx && (!decide (4<x.vars.length) && !(x.vars.any fun x=>!GO x)))):=(by rw[e1];rfl);rw[hv];generalize x.vars.any (fun x=>!GO x)=b at *;generalize KN x.dx=u at *;rw[g483L0e]at ih⊢;simp at k3 ih;by_cases q1:x.pos<0
   ·simp (disch:=omega) [-getElem?_pos,g483B0,hx,hi,q1]
   · cases u with
     |false=>simp (disch:=omega) [-getElem?_pos,g483B0,hx,hi,q1,k1]
     |true=>
       by_cases q2:4<x.vars.length
       ·have q2':4<(x.vars.length:Int):=(by omega);simp (disch:=omega) [-getElem?_pos,g483B0,hx,hi,q1,k1,q2,q2']
       · have q2':¬4<(x.vars.length:Int):=(by omega);cases b with
         |true=>simp (disch:=omega) [-getElem?_pos,g483B0,hx,hi,q1,k1,q2,q2',k3]
         |false=>
           simp (disch:=omega) [-getElem?_pos,g483B0,hx,hi,q1,k1,q2,q2',k3,aw];rw[g483L0e];simp[ih]
def eU(k:Int):Option (Bool×Nat):=
 if k=1∨k=2 then some (true,0) else if k=3∨k=10 then some (false,0) else if k=4 then some (true,1) else if k=5 then some (false,2)
 else if k=6∨k=7 then some (true,2) else if k=8∨k=9∨k=11 then some (false,1) else none
def cb:ae→ae
 | .seq a _=>a
 |c=>c
def bQ:ae→ae
 | .seq _ b=>b
 |c=>c
def mh:ae:=cb (bQ (bQ g483.body))
def dE:ae:=cb (bQ (bQ (bQ g483.body)))
def KP:ae:=bQ (bQ (bQ (bQ g483.body)))
theorem IH{e:Ex}:∃X:List (Nat×AV),(X=[]∨∃c8 c12,X=[(8,c8),(12,c12)])∧cl AP mh ⟨[(1,.aK 1 0),(3,.pv (.bool false)),(4,.pv (vI 0))],[(1,e.cl)],[],[]⟩ =
   some (match eU e.kind with
     |some (nm,kd)=>(.normal,⟨(1,.aK 1 0)::(3,.pv (.bool nm))::(4,.pv (vI kd))::X,[(1,e.cl)],[],[]⟩)
     |none=>(.ret,⟨[(2,.pv (.bool false))],[],[],[]⟩)):=by
 generalize hk:e.kind=k;by_cases h3:k=3
 ·subst h3;exact⟨[(8,.pv (vI 3)),(12,.pv (.bool true))],Or.inr ⟨_,_,rfl⟩,by simp[mh,cb,bQ,g483,hk,eU]⟩
 by_cases h10:k=10
 ·subst h10;exact⟨[(8,.pv (vI 10)),(12,.pv (.bool true))],Or.inr ⟨_,_,rfl⟩,by simp[mh,cb,bQ,g483,hk,eU]⟩
 refine⟨[],Or.inl rfl,?_⟩;by_cases h1:k=1
 ·subst h1;simp[mh,cb,bQ,g483,hk,eU]
 by_cases h2:k=2
 ·subst h2;simp[mh,cb,bQ,g483,hk,eU]
 by_cases h4:k=4
 ·subst h4;simp[mh,cb,bQ,g483,hk,eU]
 by_cases h5:k=5
 ·subst h5;simp[mh,cb,bQ,g483,hk,eU]
 by_cases h6:k=6
 ·subst h6;simp[mh,cb,bQ,g483,hk,eU]
 by_cases h7:k=7
 ·subst h7;simp[mh,cb,bQ,g483,hk,eU]
 by_cases h8:k=8
 ·subst h8;simp[mh,cb,bQ,g483,hk,eU]
 by_cases h9:k=9
 ·subst h9;simp[mh,cb,bQ,g483,hk,eU]
 by_cases h11:k=11
 ·subst h11;simp[mh,cb,bQ,g483,hk,eU]
 simp[mh,cb,bQ,g483,hk,eU,h1,h2,h3,h4,h5,h6,h7,h8,h9,h10,h11]
noncomputable def Ex.KQ(e:Ex)(nm:Bool)(kd:Nat):Bool:=
 !decide (e.pos<0) && (decide (e.kids.length=kd) && ((decide (0<e.aB.length) == decide (e.kind=8)) && (!decide (e.num<0) && (!decide (999999999<e.num) && ((decide (e.num=0) || decide (e.kind=3)) &&
   ((nm || decide (e.name=[])) && ((!decide (e.kind=2) || KN e.name) && ((!nm || (decide (e.kind=2) || GO e.name)) && ((!decide (e.kind=9) || (fH e.ty && e.ty.wr)) && (decide (e.kind=9) || decide (e.ty=d9)))))))))))
inductive Ex.wR:Ex→Prop
 |mk {e:Ex}:zz e.name→e.ty.Nm→(∀a∈e.aB,Ng a)→(∀x∈e.ch,x.wR)→e.wR
theorem Ex.wR.n{e:Ex}(h:e.wR):zz e.name:=by cases h;assumption
theorem Ex.wR.t{e:Ex}(h:e.wR):e.ty.Nm:=by cases h;assumption
theorem Ex.wR.a{e:Ex}(h:e.wR):∀a∈e.aB,Ng a:=by cases h;assumption
theorem Ex.wR.c{e:Ex}(h:e.wR):∀x∈e.ch,x.wR:=by cases h;assumption
theorem II{e:Ex}(ho:e.Ok)(hn:e.wR){nm:Bool}{kd:Nat}(hkd:kd≤2){X:List (Nat×AV)}(hX:X=[]∨∃c8 c12,X=[(8,c8),(12,c12)]):cl AP dE ⟨(1,.aK 1 0)::(3,.pv (.bool nm))::(4,.pv (vI kd))::X,[(1,e.cl)],[],[]⟩ =
   some (if e.KQ nm kd=true then (.normal,⟨[(1,.aK 1 0),(115,.pv (.bool false))],[(1,e.cl)],[],[]⟩) else (.ret,⟨[(2,.pv (.bool false))],[],[],[]⟩)):=by
 rcases hX with rfl|⟨c8,c12,rfl⟩
 all_goals
   have k1:=c495 hn.n;have k2:=c496 hn.n;have k3:=c29 ho.t hn.t;have k4:=c497 e.ty ho.t;have k5:=c33e (a:=e.ty) (b:=d9) ho.t;unfold Ex.KQ;generalize KN e.name=u at *;generalize GO e.name=l at *;generalize fH e.ty=v at *;generalize e.ty.wr=w at *;generalize decide (e.ty=d9)=z at *;simp[d9]at k3 k4 k5;by_cases q1:e.pos<0
   ·simp[dE,cb,bQ,g483,q1]
   by_cases q2:e.kids.length=kd
   rotate_left
   ·have q2':¬(e.kids.length:Int)=kd:=(by omega);simp[dE,cb,bQ,g483,q1,q2,q2']
   have q2':(e.kids.length:Int)=kd:=(by omega);by_cases a:0<e.aB.length
   · by_cases b:e.kind=8
     rotate_left
     ·simp[dE,cb,bQ,g483,q1,q2,q2',a,b]
     by_cases q4:e.num<0
     ·simp[dE,cb,bQ,g483,q1,q2,q2',a,b,q4]
     by_cases q5:999999999<e.num
     ·simp[dE,cb,bQ,g483,q1,q2,q2',a,b,q4,q5]
     by_cases q6:e.num=0
     · have r6:=q6;cases nm with
       |false=>
         by_cases q8:e.name=[]
         rotate_left
         ·simp[dE,cb,bQ,g483,q1,q2,q2',a,b,q4,q5,q6,q8]
         cases z with
         |false=>simp[dE,cb,bQ,g483,q1,q2,q2',a,b,q4,q5,q6,q8,k1,k2,k3,k4,k5]
         |true=>
           simp[dE,cb,bQ,g483,q1,q2,q2',a,b,q4,q5,q6,q8,k1,k2,k3,k4,k5]
       |true=>
         cases l with
         |false=>simp[dE,cb,bQ,g483,q1,q2,q2',a,b,q4,q5,q6,k1,k2,k3,k4,k5]
         |true=>
           cases z with
           |false=>simp[dE,cb,bQ,g483,q1,q2,q2',a,b,q4,q5,q6,k1,k2,k3,k4,k5]
           |true=>
             simp[dE,cb,bQ,g483,q1,q2,q2',a,b,q4,q5,q6,k1,k2,k3,k4,k5]
     ·have r6:=q6;simp[dE,cb,bQ,g483,q1,q2,q2',a,b,q4,q5,q6]
   · by_cases b:e.kind=8
     ·simp[dE,cb,bQ,g483,q1,q2,q2',a,b]
     by_cases q4:e.num<0
     ·simp[dE,cb,bQ,g483,q1,q2,q2',a,b,q4]
     by_cases q5:999999999<e.num
     ·simp[dE,cb,bQ,g483,q1,q2,q2',a,b,q4,q5]
     by_cases q6:e.num=0
     · have r6:=q6;cases nm with
       |false=>
         by_cases q8:e.name=[]
         rotate_left
         ·simp[dE,cb,bQ,g483,q1,q2,q2',a,b,q4,q5,q6,q8]
         by_cases q9:e.kind=2
         · have r2:=q9;rw[q8]at k1 k2;cases u with
           |false=>simp[dE,cb,bQ,g483,q1,q2,q2',a,b,q4,q5,q6,q8,q9,k1,k2,k3,k4,k5]
           |true=>
             cases z with
             |false=>simp[dE,cb,bQ,g483,q1,q2,q2',a,b,q4,q5,q6,q8,q9,k1,k2,k3,k4,k5]
             |true=>
               simp[dE,cb,bQ,g483,q1,q2,q2',a,b,q4,q5,q6,q8,q9,k1,k2,k3,k4,k5]
         · have r2:=q9;by_cases q10:e.kind=9
           · have r9:=q10;cases v with
             |false=>simp[dE,cb,bQ,g483,q1,q2,q2',a,b,q4,q5,q6,q8,q9,q10,k1,k2,k3,k4,k5]
             |true=>
               cases w with
               |false=>simp[dE,cb,bQ,g483,q1,q2,q2',a,b,q4,q5,q6,q8,q9,q10,k1,k2,k3,k4,k5]
               |true=>
                 simp[dE,cb,bQ,g483,q1,q2,q2',a,b,q4,q5,q6,q8,q9,q10,k1,k2,k3,k4,k5]
           · have r9:=q10;cases z with
             |false=>simp[dE,cb,bQ,g483,q1,q2,q2',a,b,q4,q5,q6,q8,q9,q10,k1,k2,k3,k4,k5]
             |true=>
               simp[dE,cb,bQ,g483,q1,q2,q2',a,b,q4,q5,q6,q8,q9,q10,k1,k2,k3,k4,k5]
       |true=>
         by_cases q9:e.kind=2
         · have r2:=q9;cases u with
           |false=>simp[dE,cb,bQ,g483,q1,q2,q2',a,b,q4,q5,q6,q9,k1,k2,k3,k4,k5]
           |true=>
             cases z with
             |false=>simp[dE,cb,bQ,g483,q1,q2,q2',a,b,q4,q5,q6,q9,k1,k2,k3,k4,k5]
             |true=>
               simp[dE,cb,bQ,g483,q1,q2,q2',a,b,q4,q5,q6,q9,k1,k2,k3,k4,k5]
         · have r2:=q9;cases l with
           |false=>simp[dE,cb,bQ,g483,q1,q2,q2',a,b,q4,q5,q6,q9,k1,k2,k3,k4,k5]
           |true=>
             by_cases q10:e.kind=9
             · have r9:=q10;cases v with
               |false=>simp[dE,cb,bQ,g483,q1,q2,q2',a,b,q4,q5,q6,q9,q10,k1,k2,k3,k4,k5]
               |true=>
                 cases w with
                 |false=>simp[dE,cb,bQ,g483,q1,q2,q2',a,b,q4,q5,q6,q9,q10,k1,k2,k3,k4,k5]
                 |true=>
                   simp[dE,cb,bQ,g483,q1,q2,q2',a,b,q4,q5,q6,q9,q10,k1,k2,k3,k4,k5]
             · have r9:=q10;cases z with
               |false=>simp[dE,cb,bQ,g483,q1,q2,q2',a,b,q4,q5,q6,q9,q10,k1,k2,k3,k4,k5]
               |true=>
                 simp[dE,cb,bQ,g483,q1,q2,q2',a,b,q4,q5,q6,q9,q10,k1,k2,k3,k4,k5]
     · have r6:=q6;by_cases q7:e.kind=3
       rotate_left
       ·simp[dE,cb,bQ,g483,q1,q2,q2',a,b,q4,q5,q6,q7]
       cases nm with
       |false=>
         by_cases q8:e.name=[]
         rotate_left
         ·simp[dE,cb,bQ,g483,q1,q2,q2',a,b,q4,q5,q6,q7,q8]
         cases z with
         |false=>simp[dE,cb,bQ,g483,q1,q2,q2',a,b,q4,q5,q6,q7,q8,k1,k2,k3,k4,k5]
         |true=>
           simp[dE,cb,bQ,g483,q1,q2,q2',a,b,q4,q5,q6,q7,q8,k1,k2,k3,k4,k5]
       |true=>
         cases l with
         |false=>simp[dE,cb,bQ,g483,q1,q2,q2',a,b,q4,q5,q6,q7,k1,k2,k3,k4,k5]
         |true=>
           cases z with
           |false=>simp[dE,cb,bQ,g483,q1,q2,q2',a,b,q4,q5,q6,q7,k1,k2,k3,k4,k5]
           |true=>
             simp[dE,cb,bQ,g483,q1,q2,q2',a,b,q4,q5,q6,q7,k1,k2,k3,k4,k5]
noncomputable def Ex.wS(e:Ex):Bool:=(match eU e.kind with|some (nm,kd)=>e.KQ nm kd|none=>false) && (e.aB.all MG && (e.ch.attach.map fun x=>x.1.wS).all id)
termination_by SizeOf.sizeOf e
decreasing_by exact Ex.ji x.2
theorem Ex.zM(e:Ex):e.wS=((match eU e.kind with|some (nm,kd)=>e.KQ nm kd|none=>false) && (e.aB.all MG && e.ch.all Ex.wS)):=by
 rw[Ex.wS,List.map_attach_eq_pmap,List.pmap_eq_map,List.all_map];rfl
theorem GP{k:Int}{nm:Bool}{kd:Nat}(h:eU k=some (nm,kd)):kd≤2:=by
 unfold eU at h
 repeat' split at h
 all_goals first|(simp at h;omega)|simp at h
theorem c483(e:Ex):e.Ok→e.wR→(aC AP).p 483 [e.pv]=some [.bool e.wS]:=by
 refine Ex.recC (p:=fun e=>e.Ok→e.wR→(aC AP).p 483 [e.pv]=some [.bool e.wS]) ?_ e;intro e ih ho hn;obtain⟨X,hX,kk⟩:=IH (e:=e);have hNa:e.aB.length≤1000:=ho.a;obtain⟨_,kl⟩:=MH (e:=e) hNa hn.a _ 0 rfl (by omega);have k2:=c414 ho;have hN:e.ch.length≤2000:=by rw[Ex.c_];have:=ho.k;have:=ho.a;omega
 have hS:Sm e.ch:=by unfold Sm;omega
 have hA:tq (.fn 501 []) [] Ex.pv (fun x=>!x.wS) e.ch:=by
   intro x hx;have k:=ih x hx (ho.c x hx) (hn.c x hx)
   have:(aC AP).i 501 [.pv x.pv] [] []=some ([.pv (.bool (!x.wS))],[],[]):=by
     rw[aH (af:=g501) rfl (by simp[g501])];simp at k;simp[g501,k]
   simp at this;simp[this]
 have k3:=Gf AE (m:=500) (k:=516) rfl rfl hS (sh:=[]) (by intro cs h;simp at h) rfl rfl (fun _ _=>rfl) hA;have e1:(!(e.ch.any fun x=>!x.wS))=e.ch.all Ex.wS:=oF;rw[Ex.zM,←e1];have hb:g483.body=.seq (cb g483.body) (.seq (cb (bQ g483.body)) (.seq mh (.seq dE KP))):=rfl;rw[ah (af:=g483) rfl rfl (by decide),hb];generalize (e.ch.any fun x=>!x.wS)=b at *;rw[List.drop_zero,g483L0e]at kl;cases hk:eU e.kind with
 |none=>
   rw[hk]at kk;simp at kk;simp[cb,bQ,g483,kk]
 |some p=>
   obtain⟨nm,kd⟩:=p;rw[hk]at kk;have km:=II ho hn (nm:=nm) (GP hk) hX;simp only at kk;by_cases hv:e.KQ nm kd=true
   · rw[if_pos hv]at km;by_cases ha:e.aB.all MG=true
     ·rw[if_pos ha]at kl;simp only[hv,ha,Bool.true_and];simp at kk km kl k2 k3;simp[cb,bQ,g483,KP,kk,km,g483L0e,kl,k2,k3]
     ·rw[if_neg ha]at kl;simp only[hv,ha,Bool.true_and];simp at kk km kl;simp[cb,bQ,g483,KP,kk,km,g483L0e,kl]
   ·rw[if_neg hv]at km;simp only[hv];simp at kk km;simp[cb,bQ,g483,kk,km]
structure KR(ds:List Dt)(bs:List Bd)(V3:AV)(b2:Nat)(S:Sh)(T:aD):Prop where
 q:aJ S
 g:S[b2]?=some (some (aI Bd.cells (bs.map Bd.strip)))
 v:(ds=[]∧V3=.own [] 0∧T=[0])∨(ds≠[]∧∃b',V3=.aM b' 4 ds.length true∧b'≠b2∧T=[]∧S[b']?=some (some (aI Dt.cells (ds.map Dt.strip))))
theorem c544i{ds:List Dt}{bs:List Bd}(hd:∀d∈ds,d.cons≠[]∧d.cons.length≤1000)(hdl:ds.length≤1000)(hb:bs≠[])(hbl:bs.length≤1000)(ho:∀b∈bs,b.body.Ok) :
   ∃V3 b2 S T,(aC AP).i 544 [.pv (.agg [.az (ds.map Dt.pv),.az (bs.map Bd.pv)])] [] []=some ([.agg [V3,.aM b2 20 bs.length true]],S,T)∧KR ds bs V3 b2 S T:=by
 have hb1:bs.length*256≤140737488355328:=by omega
 have hb2:ds.length*72≤140737488355328:=by omega
 have m1:=KF (l:=bs);have m2:=KJ (l:=ds);have a1:=GD (l:=bs.map Bd.strip);have a2:=GF (l:=ds.map Dt.strip);have n1:(aI Bd.cells (bs.map Bd.strip)).length=bs.length*20:=by rw[bc fe,List.length_map]
 have n2:(aI Dt.cells (ds.map Dt.strip)).length=ds.length*4:=by rw[bc gY,List.length_map]
 rw[List.length_map]at a1 a2;by_cases h0:ds=[]
 · subst h0;refine⟨.own [] 0,0,[some (aI Bd.cells (bs.map Bd.strip))],[0],?_,aJ.one aO,rfl,.inl ⟨rfl,rfl,rfl⟩⟩;have l2:=GK (V3:=.own [] 0) (z:=zP 1) (T:=[0,0,0]) (.inr ⟨rfl,rfl,rfl⟩) (b2:=0) (N:=bs.length) hbl (SS:=fun c=>[some (aI Bd.cells c)]) (fun _=>rfl) (fun _ _=>rfl) (fun _=>aJ.one aO) _ 0 rfl (by omega) bs rfl ho;rw[List.take_zero,List.drop_zero,List.nil_append]at l2;have q3:∀aF ts,aW aF ts [some (aI Bd.cells (bs.map Bd.strip))]=([some (aI Bd.cells (bs.map Bd.strip))],aF,ts):=(aJ.one aO).norm;have q1:∀aF ts,aW aF ts [some (aI Bd.cells bs)]=([some (aI Bd.cells bs)],aF,ts):=(aJ.one aO).norm
   try dsimp only at l2
   rw[aH (af:=g544) rfl (by simp[g544])];generalize bs.map Bd.strip=B at *;generalize aI Bd.cells B=TB1 at *;generalize aI Bd.cells bs=TB at *;rw[g544L2e]at l2;simp[zP,q1]at l2;simp at a1 m1;simp (config:={ maxSteps:=1000000 }) (disch:=omega) [-getElem?_pos,g544,hb,hb1,m1,q1,q3,g544L0e,g544B0,g544L2e,l2,a1,n1]
 · have H:SH (fun c=>[some (aI Dt.cells c),some (aI Bd.cells bs)]) 0 1 2 (aI Bd.cells bs):=⟨fun _=>rfl,fun _ _=>rfl,fun _=>(aJ.one aO).app (aJ.one aO),fun _=>rfl,fun _ _=>rfl,fun _=>rfl,by omega⟩;obtain⟨S',b',r1,r2,r3,r4,l1⟩:=Jp (M:=ds.length) (b2:=1) (n2:=bs.length) hdl (TB:=aI Bd.cells bs) _ 0 rfl (by omega) ds _ 0 2 rfl hd H;rw[List.take_zero,List.drop_zero,List.nil_append]at r2;have hlt:1<S'.length:=(List.getElem?_eq_some_iff.1 r3).1
   have hS:S'.set 1 (some (aI Bd.cells bs))=S':=by
     apply List.ext_getElem?
     intro i;rw[List.getElem?_set];split
     ·rename_i e;subst e;first|rw[if_pos hlt,r3]|rw[r3]
     ·rfl
   have hqs:∀c:List Bd,aJ (S'.set 1 (some (aI Bd.cells c))):=fun c cs hc v hv=>by
     rcases List.mem_or_eq_of_mem_set hc with h|h
     ·exact r1 cs h v hv
     ·cases h;exact aO v hv
   have l2:=GK (V3:=.aM b' 4 ds.length true) (z:=zP 0) (T:=[0,0]) (.inl ⟨_,_,rfl,rfl,rfl⟩) (b2:=1) (N:=bs.length) hbl (SS:=fun c=>S'.set 1 (some (aI Bd.cells c))) (fun _=>List.getElem?_set_self hlt) (fun _ _=>List.set_set ..) hqs _ 0 rfl (by omega) bs rfl ho;rw[List.take_zero,List.drop_zero,List.nil_append]at l2
   try dsimp only at l1 l2
   rw[hS]at l2;have g1:(S'.set 1 (some (aI Bd.cells (bs.map Bd.strip))))[b']?=some (some (aI Dt.cells (ds.map Dt.strip))):=by rw[List.getElem?_set,if_neg (Ne.symm r4)];exact r2
   have g2:(S'.set 1 (some (aI Bd.cells (bs.map Bd.strip))))[1]?=some (some (aI Bd.cells (bs.map Bd.strip))):=List.getElem?_set_self hlt;have q0:∀aF ts,aW aF ts [some (aI Dt.cells ds),some (aI Bd.cells bs)]=([some (aI Dt.cells ds),some (aI Bd.cells bs)],aF,ts):=((aJ.one aO).app (aJ.one aO)).norm;have q1:=r1.norm;have q2:=(hqs (bs.map Bd.strip)).norm;refine⟨.aM b' 4 ds.length true,1,S'.set 1 (some (aI Bd.cells (bs.map Bd.strip))),[],?_,hqs _,g2,.inr ⟨h0,b',rfl,r4,rfl,g1⟩⟩;clear r1 r2 r3 hqs hS H;rw[aH (af:=g544) rfl (by simp[g544])];generalize S'.set 1 (some (aI Bd.cells (bs.map Bd.strip)))=S2 at *;generalize bs.map Bd.strip=B at *;generalize ds.map Dt.strip=D at *;generalize aI Bd.cells B=TB1 at *;generalize aI Bd.cells bs=TB at *;generalize aI Dt.cells D=TD1 at *;generalize aI Dt.cells ds=TD at *;rw[g544L0e]at l1;rw[g544L2e]at l2;simp[zP,q0,q1]at l1 l2;simp at a1 a2 m1 m2;simp (config:={ maxSteps:=1000000 }) (disch:=omega) [-getElem?_pos,g544,hb,h0,hb1,hb2,m1,m2,q0,q1,g544L0e,q2,l1,g544L2e,l2,g1,g2,a1,a2,n1,n2]
theorem ff{a b:List UInt8}(h:a.length+b.length≤9223372036854775807):bo (.bin .add) [.pv (.str a),.pv (.str b)]=some (.pv (.str (a++b))):=by rw[dG,if_pos h]
structure mi(AQ:Nat→Option aA):Prop where
 zN:AQ 248=some g248
 Ot:AQ 252=some g252
 MI:AQ 255=some g255
 NK:AQ 257=some g257
 NL:AQ 258=some g258
 NM:AQ 259=some g259
 Ou:AQ 260=some g260
 Ov:AQ 264=some g264
 Ow:AQ 265=some g265
 Ox:AQ 269=some g269
def oe(b:Bool)(s:bM):bM:=if b then 40::(s++[41]) else s
theorem wF{b:Bool}{s:bM}:(oe b s).length≤s.length+2:=by cases b<;>simp[oe]
section
variable {AQ:Nat→Option aA}
theorem c258(hQ:mi AQ){s:bM}{b:Bool}(h:s.length≤1000000000000000000):(aC AQ).p 258 [.str s,.bool b]=some [.str (oe b s)]:=by
 rw[ah (af:=g258) hQ.NL rfl (by decide)];cases b<;>simp (disch:=first|omega|(simp only[List.length_append,List.length_cons,List.length_nil];omega)) [-dG,ff,g258,oe]
end
end Go.Ab.Lw
namespace Go.Ab.Lw
open Ev
def Ex.cE(e:Ex):Bool:=decide (e.kind=1) || (decide (e.kind=2) || (decide (e.kind=3) || (decide (e.kind=10) || (decide (e.kind=9) || decide (e.kind=11)))))
theorem c262{e:Ex}:(aC AP).p 262 [e.pv]=some [.bool e.cE]:=by
 rw[ah (af:=g262) rfl rfl (by decide)];by_cases h1:e.kind=1
 ·simp[g262,Ex.cE,h1]
 · by_cases h2:e.kind=2
   ·simp[g262,Ex.cE,h2]
   · by_cases h3:e.kind=3
     ·simp[g262,Ex.cE,h3]
     · by_cases h4:e.kind=10
       ·simp[g262,Ex.cE,h4]
       · by_cases h5:e.kind=9
         ·simp[g262,Ex.cE,h5]
         · by_cases h6:e.kind=11
           ·simp[g262,Ex.cE,h6]
           ·simp[g262,Ex.cE,h1,h2,h3,h4,h5,h6]
theorem c261{e:Ex}{s:bM}{b:Bool}(h:(aC AP).p 249 [e.pv]=some [.str s])(hs:s.length≤1000000000000000000):(aC AP).p 261 [e.pv,.bool b]=some [.str (oe (!b) s)]:=by
 rw[ah (af:=g261) rfl rfl (by decide)];simp at h;cases b<;>simp (disch:=first|omega|(simp only[List.length_append,List.length_cons,List.length_nil];omega)) [-dG,ff,g261,oe,h]
theorem c256{n:Int}(h0:0≤n)(h4:n<4):(aC AP).p 256 [vI n]=some [.str (Lib.decDigits n.toNat)]:=by
 have:n=0∨n=1∨n=2∨n=3:=by omega
 rw[ah (af:=g256) rfl rfl (by decide)];rcases this with rfl|rfl|rfl|rfl<;>simp[g256,g256L0e,g256B0,Lib.decDigits,aw,IntKind.wrap,IntKind.bits,IntKind.signed,bH,cH]
section
variable {AQ:Nat→Option aA}
theorem c255(hQ:mi AQ){n:Int}(h0:0≤n)(h4:n<4):(aC AQ).p 255 [vI n]=some [.str (Lib.decDigits n.toNat)]:=by
 rw[Af hQ.MI rfl];have h1:-9223372036854775808≤n:=by omega
 have h2:n≤9223372036854775807:=by omega
 have h3:¬n<0:=by omega
 simp[lX,Lib.itoa,h1,h2,h3]
theorem c259(hQ:mi AQ){e:Ex}:(aC AQ).p 259 [e.pv]=some [.bool e.cE]:=by
 rw[ah (af:=g259) hQ.NM rfl (by decide)];by_cases h1:e.kind=1
 ·simp[g259,Ex.cE,h1]
 · by_cases h2:e.kind=2
   ·simp[g259,Ex.cE,h2]
   · by_cases h3:e.kind=3
     ·simp[g259,Ex.cE,h3]
     · by_cases h4:e.kind=10
       ·simp[g259,Ex.cE,h4]
       · by_cases h5:e.kind=9
         ·simp[g259,Ex.cE,h5]
         · by_cases h6:e.kind=11
           ·simp[g259,Ex.cE,h6]
           ·simp[g259,Ex.cE,h1,h2,h3,h4,h5,h6]
theorem c257(hQ:mi AQ){e:Ex}{i:Nat}{x:Ex}(hx:e.kids[i]?=some x){s:bM}(h:(aC AQ).p 248 [x.pv]=some [.str s]) :
   (aC AQ).i 257 [.pv (vI i),.a_ 0 0] [some e.cl] []=some ([.pv (.str s)],[some e.cl],[]):=by
 have hi:=(List.getElem?_eq_some_iff.1 hx).1;rw[aH (af:=g257) hQ.NK (by simp[g257])];simp at h;simp[-getElem?_pos,g257,hx,h,hi]
end
end Go.Ab.Lw
namespace Go.Ab.Lw
open Ev
def GQ(AQ:Nat→Option aA)(e:Ex):Prop:=∃s:bM,s.length+10≤2000000*e.sz∧(aC AQ).p 248 [e.pv]=some [.str s]∧(aC AP).p 249 [e.pv]=some [.str s]
theorem tM{e a:Ex}(h:e.kids=[a]):a.sz+1≤e.sz:=by
 rw[e.gW,Ex.ch,h];simp;omega
theorem zQ{e a b:Ex}(h:e.kids=[a,b]):a.sz+b.sz+1≤e.sz:=by
 rw[e.gW,Ex.ch,h];simp;omega
section
variable {AQ:Nat→Option aA}
theorem IJ(hQ:mi AQ){e:Ex}(h:(e.kind=1∨e.kind=2)∧e.name.length≤100∨e.kind=3∧0≤e.num∧e.num<4∨e.kind=10):GQ AQ e:=by
 have hsz:=e.jZ;rcases h with⟨h|h,hl⟩|⟨h,h0,h4⟩|h
 · refine⟨e.name,by omega,?_,?_⟩
   ·rw[ah (af:=g248) hQ.zN rfl (by decide)];simp[g248,h]
   ·rw[ah (af:=g249) rfl rfl (by decide)];simp[g249,h]
 · refine⟨e.name,by omega,?_,?_⟩
   ·rw[ah (af:=g248) hQ.zN rfl (by decide)];simp[g248,h]
   ·rw[ah (af:=g249) rfl rfl (by decide)];simp[g249,h]
 · have k1:=c255 hQ h0 h4;have k2:=c256 h0 h4
   have hd:(Lib.decDigits e.num.toNat).length≤100:=by
     have:e.num=0∨e.num=1∨e.num=2∨e.num=3:=by omega
     rcases this with q|q|q|q<;>rw[q]<;>simp[Lib.decDigits]
   refine⟨Lib.decDigits e.num.toNat,by omega,?_,?_⟩
   ·rw[ah (af:=g248) hQ.zN rfl (by decide)];simp[g248,h,k1]
   ·rw[ah (af:=g249) rfl rfl (by decide)];simp[g249,h,k2]
 · refine⟨[63],by simp;omega,?_,?_⟩
   ·rw[ah (af:=g248) hQ.zN rfl (by decide)];simp[g248,h]
   ·rw[ah (af:=g249) rfl rfl (by decide)];simp[g249,h]
theorem IK(hQ:mi AQ){e a:Ex}(h:e.kind=4)(hl:e.name.length≤100)(hk:e.kids=[a])(hS:e.sz≤50000000)(ha:GQ AQ a):GQ AQ e:=by
 have hz1:=tM hk;have hsz:=e.jZ;obtain⟨s,ls,p,q⟩:=ha;have k:=c257 hQ (e:=e) (i:=0) (by rw[hk];rfl) p;refine⟨[92]++e.name++[46,32]++s,by simp;omega,?_,?_⟩
 ·rw[ah (af:=g248) hQ.zN rfl (by decide)];simp[h,hk]at k;simp (disch:=first|omega|(simp only[List.length_append,List.length_cons,List.length_nil];omega)) [-dG,ff,g248,h,hk,k]
 ·rw[ah (af:=g249) rfl rfl (by decide)];simp at q;simp (disch:=first|omega|(simp only[List.length_append,List.length_cons,List.length_nil];omega)) [-dG,ff,g249,h,hk,q]
theorem GR(hQ:mi AQ){e a:Ex}(h:e.kind=11)(hk:e.kids=[a])(hS:e.sz≤50000000)(ha:GQ AQ a):GQ AQ e:=by
 have hz1:=tM hk;have hsz:=e.jZ;obtain⟨s,ls,p,q⟩:=ha;have k:=c257 hQ (e:=e) (i:=0) (by rw[hk];rfl) p;refine⟨[123]++s++[125],by simp;omega,?_,?_⟩
 ·rw[ah (af:=g248) hQ.zN rfl (by decide)];simp[h,hk]at k;simp (disch:=first|omega|(simp only[List.length_append,List.length_cons,List.length_nil];omega)) [-dG,ff,g248,h,hk,k]
 ·rw[ah (af:=g249) rfl rfl (by decide)];simp at q;simp (disch:=first|omega|(simp only[List.length_append,List.length_cons,List.length_nil];omega)) [-dG,ff,g249,h,hk,q]
theorem IL(hQ:mi AQ){e a b:Ex}(h:e.kind=5)(hk:e.kids=[a,b])(hS:e.sz≤50000000)(ha:GQ AQ a)(hb:GQ AQ b):GQ AQ e:=by
 have hz1:=zQ hk;have hsz:=e.jZ;obtain⟨s,ls,p,q⟩:=ha;obtain⟨u,lu,pu,qu⟩:=hb;have k:=c257 hQ (e:=e) (i:=0) (by rw[hk];rfl) p;have k':=c257 hQ (e:=e) (i:=1) (by rw[hk];rfl) pu;have a1:=c259 hQ (e:=a);have a2:=c259 hQ (e:=b);have r1:=c262 (e:=a);have r2:=c262 (e:=b);have e1:=c258 hQ (s:=s) (b:=!a.cE && !decide (a.kind=5)) (by omega);have e2:=c258 hQ (s:=u) (b:=!b.cE) (by omega);have f1:=c261 (e:=a) (b:=a.cE || decide (a.kind=5)) q (by omega);have f2:=c261 (e:=b) (b:=b.cE) qu (by omega);have hb1:(!(a.cE || decide (a.kind=5)))=(!a.cE && !decide (a.kind=5)):=by simp
 rw[hb1]at f1;have l1:=wF (b:=!a.cE && !decide (a.kind=5)) (s:=s);have l2:=wF (b:=!b.cE) (s:=u);refine⟨oe (!a.cE && !decide (a.kind=5)) s++[32]++oe (!b.cE) u,by simp;omega,?_,?_⟩
 · rw[ah (af:=g248) hQ.zN rfl (by decide)];simp[h,hk]at k k';generalize oe (!a.cE && !decide (a.kind=5)) s=E1 at *;generalize oe (!b.cE) u=E2 at *;simp at a1 a2 e1 e2;by_cases h5:a.kind=5
   ·have hat:a.cE=false:=(by simp[Ex.cE,h5]);simp[hat,h5]at e1 a1;simp[h5]at k k';simp (disch:=first|omega|(simp only[List.length_append,List.length_cons,List.length_nil];omega)) [-dG,ff,g248,h,hk,k,k',a1,a2,e1,e2,hat,h5]
   · have q1:(a.kind == 5)=false:=(by simp[h5]);have q2:(a.kind != 5)=true:=by simp[h5]
     cases hat:a.cE<;>simp[hat,h5]at e1 a1 <;>
       simp (disch:=first|omega|(simp only[List.length_append,List.length_cons,List.length_nil];omega)) [-dG,ff,g248,h,hk,k,k',a1,a2,e1,e2,hat,h5,q1,q2]
 · rw[ah (af:=g249) rfl rfl (by decide)];generalize oe (!a.cE && !decide (a.kind=5)) s=E1 at *;generalize oe (!b.cE) u=E2 at *;simp at r1 r2 f1 f2;by_cases h5:a.kind=5
   ·have hat:a.cE=false:=(by simp[Ex.cE,h5]);simp[hat,h5]at f1 r1;simp (disch:=first|omega|(simp only[List.length_append,List.length_cons,List.length_nil];omega)) [-dG,ff,g249,h,hk,r1,r2,f1,f2,hat,h5]
   · have q1:(a.kind == 5)=false:=(by simp[h5]);have q2:(a.kind != 5)=true:=by simp[h5]
     cases hat:a.cE<;>simp[hat,h5]at f1 r1 <;>
       simp (disch:=first|omega|(simp only[List.length_append,List.length_cons,List.length_nil];omega)) [-dG,ff,g249,h,hk,r1,r2,f1,f2,hat,h5,q1,q2]
end
end Go.Ab.Lw
namespace Go.Ab.Lw
open Ev
def fh(ds:List Dt)(bs:List Bd):List AV:=[.pv (.az (ds.map Dt.pv)),.pv (.az (bs.map Bd.pv))]
def DV:List Bd→Nat
 |[]=>0
 |b::r=>b.body.hl.length+DV r
def dq:Nat→List Bd→Int→Option (Nat×List Int)
 |_,[],_=>none
 |i,b::r,h=>if h<b.body.hl.length then (b.body.hl[h.toNat]?).map fun p=>(i,p) else dq (i+1) r (h-b.body.hl.length)
def gZ:Option (Nat×List Int)→List PV
 |some (i,p)=>[vI i,lv p,.bool true]
 |none=>[vI 0,.az [],.bool false]
def IM(bs:List Bd):Prop:=bs.length≤1000∧∀b∈bs,b.body.Ok∧b.body.sz≤100000000
theorem IM.c{bs:List Bd}(h:IM bs){b:Bd}(hb:b∈bs):(aC AP).p 543 [b.body.pv]=some [.az (b.body.hl.map lv)]∧(aC AP).p 539 [b.body.pv]=some [.az (b.body.hl.map lv)]∧b.body.hl.length≤100000000:=by
 obtain⟨h1,h2⟩:=h.2 b hb;exact⟨c543 _ h1 h2,c539 _ h1 h2,Nat.le_trans (qk _) h2⟩
theorem MJ{ds:List Dt}{bs:List Bd}(H:IM bs):∀(n i:Nat),bs.length-i=n→i≤bs.length→∀m:Nat,m≤100000000*i →
   cl AP g529L0 ⟨[(1,.aK 1 0),(3,.pv (vI m)),(4,.pv (vI i))],[(1,fh ds bs)],[],[]⟩ =
     some (.exit 0,⟨[(1,.aK 1 0),(3,.pv (vI (m+DV (bs.drop i):Nat))),(4,.pv (vI bs.length)),(9,.pv (.bool false))],[(1,fh ds bs)],[],[]⟩)
 |0,i,hn,hi,m,hm=>by
   have:i=bs.length:=by omega
   subst this;rw[g529L0e];simp[g529B0,DV,fh]
 |n+1,i,hn,hi,m,hm=>by
   have hi:i<bs.length:=(by omega);have hl:=H.1;obtain⟨b,hb⟩:=bl hi;obtain⟨_,k,hk⟩:=H.c (bE hb);have ih:=MJ (ds:=ds) H n (i+1) (by omega) (by omega) (m+b.body.hl.length) (by omega);rw[aX hb];simp only[DV];rw[←Nat.add_assoc];generalize b.body.hl=hs at *;generalize m+hs.length+DV (bs.drop (i+1))=C at *;rw[g529L0e]at ih⊢;simp[fh]at ih k;simp (disch:=omega) [-getElem?_pos,g529B0,fh,hb,hi,k,aw];rw[g529L0e];simp[ih]
theorem c529{ds:List Dt}{bs:List Bd}(H:IM bs):(aC AP).p 529 [.agg [.az (ds.map Dt.pv),.az (bs.map Bd.pv)]]=some [vI (DV bs)]:=by
 have e:=MJ (ds:=ds) H _ 0 rfl (by omega) 0 (by omega);rw[List.drop_zero,Nat.zero_add]at e;rw[g529L0e]at e;simp[fh]at e;rw[ah (af:=g529) rfl rfl (by decide)];simp[g529,g529L0e,e]
theorem rN{i:Nat}{b:Bd}{r:List Bd}{h:Int}(h0:0≤h)(hl:h<b.body.hl.length):∃p,b.body.hl[h.toNat]?=some p∧dq i (b::r) h=some (i,p):=by
 obtain⟨p,hp⟩:=bl (show h.toNat<b.body.hl.length by omega);exact⟨p,hp,by rw[dq,if_pos hl,hp];rfl⟩
theorem MK{bs:List Bd}(H:IM bs):∀(n i:Nat),bs.length-i=n→i≤bs.length→∀h:Int,0≤h→h≤9223372036854775807→∃h':Int,
   cl AP g530L0 ⟨[(1,.pv (vI h)),(13,.pv (.az (bs.map Bd.pv))),(14,.pv (vI bs.length)),(15,.pv (vI i))],[],[],[]⟩ =
     some (match dq i (bs.drop i) h with
       |some (j,p)=>(.ret,⟨[(4,.pv (vI j)),(5,.pv (lv p)),(6,.pv (.bool true))],[],[],[]⟩)
       |none=>(.exit 0,⟨[(1,.pv (vI h')),(13,.pv (.az (bs.map Bd.pv))),(14,.pv (vI bs.length)),(15,.pv (vI bs.length)),(16,.pv (.bool false))],[],[],[]⟩))
 |0,i,hn,hi,h,h0,h1=>by
   have:i=bs.length:=by omega
   subst this;refine⟨h,?_⟩;rw[List.drop_length,dq,g530L0e];simp[g530B0]
 |n+1,i,hn,hi,h,h0,h1=>by
   have hi:i<bs.length:=(by omega);have hl:=H.1;obtain⟨b,hb⟩:=bl hi;obtain⟨k,_,hk⟩:=H.c (bE hb);rw[aX hb];by_cases q:h<b.body.hl.length
   · obtain⟨p,hp,e⟩:=rN (i:=i) (r:=bs.drop (i+1)) h0 q;refine⟨0,?_⟩;rw[e];generalize b.body.hl=hs at *;simp at k;have hp':(hs.map lv)[h.toNat]?=some (lv p):=by simp[hp]
     have q1:h.toNat<hs.length:=(by omega);have q3:¬h<0:=(by omega);rw[g530L0e];simp (disch:=omega) [-getElem?_pos,g530B0,hb,hi,k,aw,q,q3,h0,hp,q1]
   ·obtain⟨h',ih⟩:=MK H n (i+1) (by omega) (by omega) (h-b.body.hl.length) (by omega) (by omega);refine⟨h',?_⟩;rw[dq,if_neg q];generalize dq (i+1) (bs.drop (i+1)) (h-b.body.hl.length)=R at *;generalize b.body.hl=hs at *;rw[g530L0e]at ih⊢;simp at ih k;simp (disch:=omega) [-getElem?_pos,g530B0,hb,hi,k,aw,q];rw[g530L0e];simp[ih]
theorem c530{ds:List Dt}{bs:List Bd}(H:IM bs){h:Int}(h1:h≤9223372036854775807):(aC AP).p 530 [.agg [.az (ds.map Dt.pv),.az (bs.map Bd.pv)],vI h]=some (gZ (if h<0 then none else dq 0 bs h)):=by
 rw[ah (af:=g530) rfl rfl (by decide)];by_cases h0:h<0
 ·simp[g530,h0,gZ]
 · rw[if_neg h0];obtain⟨h',e⟩:=MK H _ 0 rfl (by omega) h (by omega) h1;rw[List.drop_zero]at e;rw[g530L0e]at e;cases hf:dq 0 bs h with
   |none=>rw[hf]at e;simp at e;simp[g530,h0,g530L0e,e,gZ]
   |some r=>obtain⟨j,p⟩:=r;rw[hf]at e;simp at e;simp[g530,h0,g530L0e,e,gZ]
theorem ML{ds:List Dt}{bs:List Bd}(H:IM bs):∀(n i:Nat),bs.length-i=n→i≤bs.length→∀h:Int,0≤h→h≤9223372036854775807→∃(h':Int) (b17:Bool) (l':List (Nat×AV)),
   cl AP g531L0 ⟨[(1,.pv (vI h)),(2,.aK 2 0),(7,.pv (vI i))],[(2,fh ds bs)],[],[]⟩ =
     some (match dq i (bs.drop i) h with
       |some (j,p)=>(.ret,⟨[(4,.pv (vI j)),(5,.pv (lv p)),(6,.pv (.bool true))],[],[],[]⟩)
       |none=>(.exit 0,⟨[(1,.pv (vI h')),(2,.aK 2 0),(7,.pv (vI bs.length)),(17,.pv (.bool false))],[(2,fh ds bs)],[],[]⟩))
 |0,i,hn,hi,h,h0,h1=>by
   have:i=bs.length:=by omega
   subst this;refine⟨h,true,[],?_⟩;rw[List.drop_length,dq,g531L0e];simp[g531B0,fh]
 |n+1,i,hn,hi,h,h0,h1=>by
   have hi:i<bs.length:=(by omega);have hl:=H.1;obtain⟨b,hb⟩:=bl hi;obtain⟨_,k,hk⟩:=H.c (bE hb);rw[aX hb];by_cases q:h<b.body.hl.length
   · obtain⟨p,hp,e⟩:=rN (i:=i) (r:=bs.drop (i+1)) h0 q;refine⟨0,true,[],?_⟩;rw[e];generalize b.body.hl=hs at *;simp at k;have q1:h.toNat<hs.length:=by omega
     have q3:¬h<0:=(by omega);rw[g531L0e];simp (disch:=omega) [-getElem?_pos,g531B0,fh,hb,hi,k,aw,q,q3,h0,hp,q1]
   ·obtain⟨h',b',l',ih⟩:=ML (ds:=ds) H n (i+1) (by omega) (by omega) (h-b.body.hl.length) (by omega) (by omega);refine⟨h',b',l',?_⟩;rw[dq,if_neg q];generalize dq (i+1) (bs.drop (i+1)) (h-b.body.hl.length)=R at *;generalize b.body.hl=hs at *;rw[g531L0e]at ih⊢;simp[fh]at ih k;simp (disch:=omega) [-getElem?_pos,g531B0,fh,hb,hi,k,aw,q,h0];rw[g531L0e];simp[ih,fh]
theorem c531{ds:List Dt}{bs:List Bd}(H:IM bs){h:Int}(h1:h≤9223372036854775807):(aC AP).p 531 [.agg [.az (ds.map Dt.pv),.az (bs.map Bd.pv)],vI h]=some (gZ (if h<0 then none else dq 0 bs h)):=by
 rw[ah (af:=g531) rfl rfl (by decide)];by_cases h0:h<0
 · have h0':¬0≤h:=(by omega);by_cases z:bs=[]
   ·subst z;simp[g531,h0,gZ,g531L0e,g531B0]
   ·have hp:0<bs.length:=List.length_pos_iff.2 z;simp[g531,h0,h0',hp,gZ,g531L0e,g531B0]
 · rw[if_neg h0];obtain⟨h',_,_,e⟩:=ML (ds:=ds) H _ 0 rfl (by omega) h (by omega) h1;rw[List.drop_zero]at e;rw[g531L0e]at e;cases hf:dq 0 bs h with
   |none=>rw[hf]at e;simp[fh]at e;simp[g531,h0,g531L0e,e,gZ]
   |some r=>obtain⟨j,p⟩:=r;rw[hf]at e;simp[fh]at e;simp[g531,h0,g531L0e,e,gZ]
theorem GS{s:List bM}(hS:s.length<1000000):∀(n i:Nat),s.length-i=n→i≤s.length→∀acc:List bM,acc.length≤i →
   cl AP g532L1 ⟨[(9,.own (s.map .str) 0),(13,.own (acc.map .str) 1),(58,.pv (.az (s.map .str))),(59,.pv (vI s.length)),(60,.pv (vI i))],[],[],[s.length,acc.length]⟩ =
     some (.exit 2,⟨[(9,.own (s.map .str) 0),(13,.own ((acc++cU (s.drop i)).map .str) 1),(58,.pv (.az (s.map .str))),(59,.pv (vI s.length)),(60,.pv (vI s.length)),(61,.pv (.bool false))],[],[],[s.length,(acc++cU (s.drop i)).length]⟩)
 |0,i,hn,hi,acc,ha=>by
   have:i=s.length:=by omega
   subst this;rw[List.drop_length];simp only[cU,List.append_nil];rw[g532L1e];simp[g532B1]
 |n+1,i,hn,hi,acc,ha=>by
   have hi:i<s.length:=(by omega);obtain⟨x,hx⟩:=bl hi;have c:=c214 (s:=s.drop (i+1)) (by unfold Sm;simp;omega) (y:=x);have hsl:=My (sz:=1) (τ:=0) (l:=s.map PV.str) (k:=.i64) (h:=(i:Int)+1) (by omega) (by simp;omega) (jg.head s);have h1:((i:Int)+1).toNat=i+1:=(by omega);rw[h1]at hsl;have hb:(acc.length+1)*16≤140737488355328:=(by omega);rw[aX hx,g532L1e];by_cases e:x∈s.drop (i+1)
   ·have ih:=GS hS n (i+1) (by omega) (by omega) acc (by omega);simp only[cU,if_pos e];rw[decide_eq_true e]at c;simp at ih c hsl;simp (disch:=omega) [-getElem?_pos,g532B1,hx,hi,aw,hsl,c,ih]
   ·have ih:=GS hS n (i+1) (by omega) (by omega) (acc++[x]) (by simp;omega);simp only[cU,if_neg e];rw[decide_eq_false e]at c;simp at ih c hsl;simp (disch:=omega) [-getElem?_pos,g532B1,hx,hi,aw,hsl,c,hb,ih]
theorem Jt{ds:List Dt}{bs l:List Bd}{I:Nat}{p:List Int}(hl:l.length≤1000):∀(n i:Nat),l.length-i=n→i≤l.length→∀acc:List bM,acc.length≤i →
   cl AP g532L0 ⟨[(2,.aK 2 0),(6,.pv (vI I)),(7,.pv (.az (p.map vI))),(9,.own (acc.map .str) 0),(28,.pv (.az (l.map Bd.pv))),(29,.pv (vI l.length)),(30,.pv (vI i))],[(2,fh ds bs)],[],[acc.length]⟩ =
     some (.exit 0,⟨[(2,.aK 2 0),(6,.pv (vI I)),(7,.pv (.az (p.map vI))),(9,.own ((acc++(l.drop i).map Bd.name).map .str) 0),(28,.pv (.az (l.map Bd.pv))),(29,.pv (vI l.length)),(30,.pv (vI l.length)),(31,.pv (.bool false))],[(2,fh ds bs)],[],[(acc++(l.drop i).map Bd.name).length]⟩)
 |0,i,hn,hi,acc,ha=>by
   have:i=l.length:=by omega
   subst this;rw[List.drop_length,List.map_nil,List.append_nil,g532L0e];simp[g532B0,fh]
 |n+1,i,hn,hi,acc,ha=>by
   have hi:i<l.length:=(by omega);obtain⟨b,hb⟩:=bl hi;have ih:=Jt (ds:=ds) (bs:=bs) (I:=I) (p:=p) hl n (i+1) (by omega) (by omega) (acc++[b.name]) (by simp;omega);have hbb:(acc.length+1)*16≤140737488355328:=(by omega);rw[aX hb,List.map_cons];rw[g532L0e]at ih⊢;simp[fh]at ih;simp (disch:=omega) [-getElem?_pos,g532B0,fh,hb,hi,hbb,aw];rw[g532L0e];simp[ih]
theorem MM{ds:List Dt}{bs:List Bd}{I:Nat}{p:List Int}(hl:bs.length≤1000)(hI:I≤bs.length):∀(n i:Nat),I-i=n→i≤I→∀acc:List bM,acc.length≤i →
   cl AP g533L0 ⟨[(2,.aK 2 0),(6,.pv (vI I)),(7,.pv (.az (p.map vI))),(9,.own (acc.map .str) 0),(10,.pv (vI i))],[(2,fh ds bs)],[],[acc.length]⟩ =
     some (.exit 0,⟨[(2,.aK 2 0),(6,.pv (vI I)),(7,.pv (.az (p.map vI))),(9,.own ((acc++((bs.take I).drop i).map Bd.name).map .str) 0),(10,.pv (vI I)),(22,.pv (.bool false))],[(2,fh ds bs)],[],[(acc++((bs.take I).drop i).map Bd.name).length]⟩)
 |0,i,hn,hi,acc,ha=>by
   have:i=I:=by omega
   subst this;have e:(bs.take i).drop i=[]:=by apply List.drop_eq_nil_of_le;simp;omega
   rw[e,List.map_nil,List.append_nil,g533L0e];simp[g533B0,fh]
 |n+1,i,hn,hi,acc,ha=>by
   have hi:i<I:=(by omega);obtain⟨b,hb⟩:=bl (show i<bs.length by omega);have hb':(bs.take I)[i]?=some b:=(by rw[List.getElem?_take_of_lt hi];exact hb);have hib:i<bs.length:=(by omega);have ih:=MM (ds:=ds) (p:=p) hl hI n (i+1) (by omega) (by omega) (acc++[b.name]) (by simp;omega);have hbb:(acc.length+1)*16≤140737488355328:=(by omega);rw[aX hb',List.map_cons];generalize ((bs.take I).drop (i+1)).map Bd.name=R at *;rw[g533L0e]at ih⊢;simp[fh]at ih;simp (disch:=omega) [-getElem?_pos,g533B0,fh,hb,hi,hib,hbb,aw];rw[g533L0e];simp[ih]
theorem ko:∀l:List bM,(cU l).length≤l.length
 |[]=>by simp[cU]
 |x::r=>by
   have:=ko r;simp only[cU];split<;>simp<;>omega
theorem iN:∀{l:List Bd} {i j:Nat} {h:Int} {p:List Int},dq i l h=some (j,p)→∃(k:Nat) (b:Bd),j=i+k∧l[k]?=some b∧p∈b.body.hl
 |[],i,j,h,p,e=>by simp[dq]at e
 |b::r,i,j,h,p,e=>by
   rw[dq]at e;split at e
   ·simp only[Option.map_eq_some_iff]at e;obtain⟨q,hq,e⟩:=e;cases e;exact⟨0,b,rfl,rfl,bE hq⟩
   ·obtain⟨k,c,h1,h2,h3⟩:=iN e;exact⟨k+1,c,by omega,by simpa using h2,h3⟩
noncomputable def kz(bs:List Bd)(i:Nat)(b:Bd)(p:List Int):List bM:=(bs.take i).map Bd.name++((if b.rc=true then [b.name] else [])++tB b.body p)
noncomputable def m4(bs:List Bd)(h:Int):List PV:=match (if h<0 then none else dq 0 bs h) with
 |none=>[.az [],vI 16]
 |some (i,p)=>match bs[i]? with
   |some b=>[.az ((cU (kz bs i b p)).map .str),vI 0]
   |none=>[]
structure Nh(bs:List Bd):Prop where
 h:IM bs
 one:∀b∈bs,b.body.One
 dp:∀b∈bs,∀p∈b.body.hl,p.length≤500
theorem oH{e:Ex}(he:e.Ok){p:List Int}(hp:p.length≤500):(tB e p).length≤500000:=by
 unfold tB;cases hx:e.at p with
 |none=>simp
 |some y=>
   have h1:=tz he hx;have h2:=ko (e.tv p);simp only;omega
theorem c532{ds:List Dt}{bs:List Bd}(H:Nh bs){h:Int}(h1:h≤9223372036854775807):(aC AP).p 532 [.agg [.az (ds.map Dt.pv),.az (bs.map Bd.pv)],vI h]=some (m4 bs h):=by
 have k:=c530 (ds:=ds) H.h h1;unfold m4;rw[ah (af:=g532) rfl rfl (by decide)];cases hf:(if h<0 then none else dq 0 bs h) with
 |none=>
   rw[hf]at k;simp[gZ]at k;simp[g532,k]
 |some r=>
   obtain⟨i,p⟩:=r
   have hf':dq 0 bs h=some (i,p):=by
     split at hf
     ·cases hf
     ·exact hf
   obtain⟨j,b,hj,hb,hp⟩:=iN hf';have:j=i:=by omega
   subst this;have hi:=(List.getElem?_eq_some_iff.1 hb).1;have hbm:=bE hb;have hl:=H.h.1;obtain⟨hok,hsz⟩:=H.h.2 b hbm;have hp5:=H.dp b hbm p hp;have kv:=c404 hok (H.one b hbm) (p:=p) (by omega);have vl:=oH hok hp5;rw[hf]at k;simp only[hb,kz];have htl:(bs.take j).length=j:=by simp;omega
   have e0:=Jt (ds:=ds) (bs:=bs) (l:=bs.take j) (I:=j) (p:=p) (by omega) _ 0 rfl (by omega) [] (by simp);rw[htl,List.drop_zero,List.nil_append]at e0;have hnl:((bs.take j).map Bd.name).length=j:=(by rw[List.length_map];exact htl);generalize (bs.take j).map Bd.name=N at *;generalize tB b.body p=V at *;have e1:=GS (s:=N++((if b.rc=true then [b.name] else [])++V)) (by simp only[List.length_append];split<;>simp<;>omega) _ 0 rfl (by omega) [] (by simp);rw[List.drop_zero,List.nil_append]at e1;have hb1:(N.length+1)*16≤140737488355328:=(by omega);have hb2:(N.length+V.length)*16≤140737488355328:=(by omega);have hb3:(N.length+1+V.length)*16≤140737488355328:=(by omega);have hh:=jg.head V;have hh3:a0 1 (N.map PV.str++[PV.str b.name])=true:=by have:=jg.head (N++[b.name]);simpa only[List.map_append,List.map_cons,List.map_nil] using this
   have hslb:bH false 20 false true false [.pv (.az (bs.map Bd.pv)),.pv (.int .i64 (j:Int))]=some (.pv (.az ((bs.take j).map Bd.pv))):=by
     have:=Iy (sz:=20) (l:=bs.map Bd.pv) (k:=.i64) (h:=(j:Int)) (by omega) (by simp;omega);simpa using this
   rw[g532L0e]at e0;rw[g532L1e]at e1;simp[gZ]at k kv hh hslb;simp[fh,htl]at e0;have hb4:N.length*16≤140737488355328:=by omega
   cases hr:b.rc
   · simp[hr]at e1;by_cases z:V=[]
     ·subst z;simp at e1 kv;simp (disch:=omega) [-getElem?_pos,g532,k,hslb,htl,g532L0e,e0,hb,hi,hr,hb1,hb2,hb3,hb4,hh3,kv,g532L1e,e1]
     ·simp (disch:=omega) [-getElem?_pos,g532,k,hslb,htl,g532L0e,e0,hb,hi,hr,hb1,hb2,hb3,hh,hh3,z,kv,g532L1e,e1]
   · simp[hr]at e1;by_cases z:V=[]
     ·subst z;simp at e1 kv;simp (disch:=omega) [-getElem?_pos,g532,k,hslb,htl,g532L0e,e0,hb,hi,hr,hb1,hb2,hb3,hb4,hh3,kv,g532L1e,e1]
     ·simp (disch:=omega) [-getElem?_pos,g532,k,hslb,htl,g532L0e,e0,hb,hi,hr,hb1,hb2,hb3,hh,hh3,z,kv,g532L1e,e1]
theorem j2{sh:Sh}{d o:Nat}:iC sh (.aK d o)=none:=rfl
def Bd.rp(b:Bd)(r:Ex):Bd:=⟨0,b.rc,b.name,b.sg,b.sig,r⟩
def oI:PV:=.agg [.az [],.az []]
def gh(bs:List Bd)(i:Nat)(b:Bd)(p:List Int)(x:Ex):List Bd:=(bs.map Bd.strip).set i (b.rp (Ex.ca x.strip p b.body.strip).1)
noncomputable def nQ(ds:List Dt)(T:List Bd→bM)(bs:List Bd)(h:Int)(x:Ex):List PV:=match (if h<0 then none else dq 0 bs h) with
 |none=>[oI,vI 16]
 |some (i,p)=>match bs[i]? with
   |none=>[]
   |some b=>if x.wS=false then [oI,vI 17] else if ¬(x.aI ds (cU (kz bs i b p))).1=0 then [oI,vI (x.aI ds (cU (kz bs i b p))).1]
     else if 40<(Ex.ca x.strip p b.body.strip).1.dp then [oI,vI 4] else if x.zL=true then [oI,vI 4]
     else if 4000<(T (gh bs i b p x)).length then [oI,vI 1]
     else [.agg [.az ((ds.map Dt.strip).map Dt.pv),.az ((gh bs i b p x).map Bd.pv)],vI 0]
structure GU(ds:List Dt)(T:List Bd→bM)(bs:List Bd)(h:Int)(x:Ex):Prop where
 d:∀d∈ds,d.cons≠[]∧d.cons.length≤1000
 dl:ds.length≤1000
 b:Nh bs
 h1:h≤9223372036854775807
 sc:rL x
 nm:x.wR
 tn:x.Tn
 hl:∃n,x.tF n∧∀(i:Nat) (b:Bd) (p:List Int),bs[i]?=some b→p∈b.body.hl→(cU (kz bs i b p)).length+1000*n≤900000000
 ok:∀(i:Nat) (b:Bd) (p:List Int),bs[i]?=some b→p∈b.body.hl→(Ex.ca x.strip p b.body.strip).1.Ok∧(Ex.ca x.strip p b.body.strip).1.sz≤100000000
 tx:∀(i:Nat) (b:Bd) (p:List Int),bs[i]?=some b→p∈b.body.hl→(aC AP).p 311 [.agg [.az ((ds.map Dt.strip).map Dt.pv),.az ((gh bs i b p x).map Bd.pv)]]=some [.str (T (gh bs i b p x))]∧(T (gh bs i b p x)).length≤130000000000000
theorem c536{ds:List Dt}{T:List Bd→bM}{bs:List Bd}{h:Int}{x:Ex}(H:GU ds T bs h x) :
   (aC AP).p 536 [.agg [.az (ds.map Dt.pv),.az (bs.map Bd.pv)],vI h,x.pv]=some (nQ ds T bs h x):=by
 have k1:=c532 (ds:=ds) H.b H.h1;have k4:=c530 (ds:=ds) H.b.h H.h1;unfold nQ;unfold m4 at k1;rw[ah (af:=g536) rfl rfl (by decide)];cases hf:(if h<0 then none else dq 0 bs h) with
 |none=>
   rw[hf]at k1;simp at k1;simp[g536,oI,k1]
 |some r=>
   obtain⟨i,p⟩:=r
   have hf':dq 0 bs h=some (i,p):=by
     split at hf
     ·cases hf
     ·exact hf
   obtain⟨j,b,hj,hb,hp⟩:=iN hf';have:j=i:=by omega
   subst this;have hi:=(List.getElem?_eq_some_iff.1 hb).1;have hbm:=bE hb;have hl:=H.b.h.1;obtain⟨hok,hsz⟩:=H.b.h.2 b hbm;have hp5:=H.b.dp b hbm p hp;rw[hf]at k1 k4;simp only[hb]at k1⊢;simp only[gZ,lv]at k4;have k2:=c483 x H.sc.ok H.nm;obtain⟨n,hn1,hn2⟩:=H.hl;have k3:=c405 (ds:=ds) (by unfold Sm;have:=H.dl;omega) (fun d hd=>by unfold Sm;have:=(H.d d hd).2;omega) n H.sc hn1 (cU (kz bs j b p)) (hn2 j b p hb hp);obtain⟨V3,b2,S,Tk,k5,q⟩:=c544i H.d H.dl (by intro e;subst e;simp at hi) hl (fun b hb=>(H.b.h.2 b hb).1);have k6:=c546 x H.sc.ok;have k7:=c545 (x:=x.strip) p b.body.strip (by omega) (qj hok);obtain⟨o1,o2⟩:=H.ok j b p hb hp;have k8:=c547 _ o1 o2;have k9:=c548 H.sc.ok H.tn;obtain⟨k10,hT⟩:=H.tx j b p hb hp;have hx0:(bs.map Bd.strip)[j]?=some b.strip:=by rw[List.getElem?_map,hb];rfl
   have hget:=jh fe hx0 (o:=9) (k:=11) (by omega)
   have ht:((((b.strip).cells.drop 9).take 11).map AV.pv)=b.body.strip.cl:=by
     have:(b.strip).cells.drop 9=b.body.strip.cells:=rfl;rw[this,List.take_of_length_le (by rw[bg.len];omega),Ex.ir]
   rw[ht]at hget
   have hset2:=iq fe hx0 (y:=b.rp (Ex.ca x.strip p b.body.strip).1) (o:=9) (vs:=(Ex.ca x.strip p b.body.strip).1.cells) (by rw[bg.len];omega) (by
     have h2:=bg.len (Ex.ca x.strip p b.body.strip).1;rw[h2];have e1:(b.strip).cells.take 9=[vI 0,.bool b.rc,.str b.name,.bool b.sg,vI b.sig.kind,.str b.sig.name,vI b.sig.id,vI b.sig.home,.az (b.sig.args.map Ty.pv)]:=rfl;have e2:(b.strip).cells.drop (9+11)=[]:=List.drop_eq_nil_of_le (by rw[fe.len];omega);rw[e1,e2,List.append_nil];rfl)
   rw[Ex.ir]at hset2;have a1:=GD (l:=gh bs j b p x);have a2:=GF (l:=ds.map Dt.strip);have e3:gh bs j b p x=(bs.map Bd.strip).set j (b.rp (Ex.ca x.strip p b.body.strip).1):=rfl;rw[←e3]at hset2;have hfl:(gh bs j b p x).length=bs.length:=by rw[e3,List.length_set,List.length_map]
   rw[hfl]at a1;rw[List.length_map]at a2;have hq:=q.q.norm;have hsh:=q.q.shift
   have hQ2:aJ (S.set b2 (some (aI Bd.cells (gh bs j b p x)))):=fun cs hc v hv=>by
     rcases List.mem_or_eq_of_mem_set hc with h|h
     ·exact q.q cs h v hv
     ·cases h;exact aO v hv
   have hq2:=hQ2.norm;have hsh2:=hQ2.shift;have hQl:(S.set b2 (some (aI Bd.cells (gh bs j b p x)))).length=S.length:=List.length_set;clear hQ2;have hB:bU (aI Bd.cells (bs.map Bd.strip))=false:=bT aO;have hlen:(aI Bd.cells (bs.map Bd.strip)).length=bs.length*20:=(by rw[bc fe,List.length_map]);have hlen1:(aI Bd.cells (gh bs j b p x)).length=bs.length*20:=(by rw[bc fe,hfl]);have n2:(aI Dt.cells (ds.map Dt.strip)).length=ds.length*4:=(by rw[bc gY,List.length_map]);have hle2:j*20+9+11≤bs.length*20:=(by omega);have hS:=q.g;have hv:=q.v;have hlt:b2<S.length:=(List.getElem?_eq_some_iff.1 hS).1;have hS2:(S.set b2 (some (aI Bd.cells (gh bs j b p x))))[b2]?=some (some (aI Bd.cells (gh bs j b p x))):=List.getElem?_set_self hlt;have hD:ds=[]→ds.map Dt.strip=[]:=fun e=>by rw[e];rfl
   have hV:(V3=.own [] 0∧Tk=[0]∧ds.map Dt.strip=[])∨∃b',V3=.aM b' 4 ds.length true∧Tk=[]∧(S.set b2 (some (aI Bd.cells (gh bs j b p x))))[b']?=some (some (aI Dt.cells (ds.map Dt.strip))):=by
     rcases hv with⟨h1,h2,h3⟩|⟨_,b',h2,h3,h4,h5⟩
     ·exact .inl ⟨h2,h3,hD h1⟩
     ·exact .inr ⟨b',h2,h4,by rw[List.getElem?_set,if_neg (Ne.symm h3)];exact h5⟩
   clear hx0 ht H e3 hv hD q;generalize gh bs j b p x=B at *;generalize bs.map Bd.strip=B0 at *;generalize ds.map Dt.strip=D at *;generalize aI Bd.cells B=TB at *;generalize hSS:S.set b2 (some TB)=S2 at *;generalize aI Bd.cells B0=TB0 at *;generalize (Ex.ca x.strip p b.body.strip).2=r2 at *;generalize (Ex.ca x.strip p b.body.strip).1=r at *;generalize b.body.strip=y at *;generalize cU (kz bs j b p)=N at *;generalize x.aI ds N=f at *;generalize x.strip=xs at *;generalize T B=TX at *;simp[fP]at k1 k2 k3 k4 k5 k6 k7 k8 k9 k10;cases hv1:x.wS with
   |false=>
     rw[hv1]at k2;simp[g536,oI,k1,k2]
   |true=>
   rw[hv1]at k2;by_cases hf1:f.1=0
   rotate_left
   ·simp[g536,oI,k1,k2,k3,hf1]
   have hTX:(TX.length:Int)≤130000000000000:=(by omega);simp[Ex.cl]at hget hset2;simp at a1 a2;rcases hV with⟨rfl,rfl,hD⟩|⟨b',rfl,rfl,hg⟩
   · subst hD;simp only[List.map_nil]at k10;by_cases c1:40<r.dp
     ·have c1':40<(r.dp:Int):=(by omega);simp (config:={ maxSteps:=1000000 }) (disch:=omega) [-getElem?_pos,j2,g536,oI,k1,k2,k3,hf1,k4,k5,k6,k7,k8,k9,k10,hq,hsh,hq2,hsh2,hS,hi,hB,hlen,hlen1,hle2,hget,hset2,hSS,hS2,a1,a2,n2,c1,c1']
     have c1':¬40<(r.dp:Int):=(by omega);cases c2:x.zL with
     |true=>
       rw[c2]at k9;simp (config:={ maxSteps:=1000000 }) (disch:=omega) [-getElem?_pos,j2,g536,oI,k1,k2,k3,hf1,k4,k5,k6,k7,k8,k9,k10,hq,hsh,hq2,hsh2,hS,hi,hB,hlen,hlen1,hle2,hget,hset2,hSS,hS2,a1,a2,n2,c1,c1',c2]
     |false=>
       rw[c2]at k9;by_cases c3:4000<TX.length
       ·have c3':4000<(TX.length:Int):=(by omega);simp (config:={ maxSteps:=1000000 }) (disch:=omega) [-getElem?_pos,j2,g536,oI,k1,k2,k3,hf1,k4,k5,k6,k7,k8,k9,k10,hq,hsh,hq2,hsh2,hS,hi,hB,hlen,hlen1,hle2,hget,hset2,hSS,hS2,a1,a2,n2,c1,c1',c2,c3,c3']
       ·have c3':¬4000<(TX.length:Int):=(by omega);simp (config:={ maxSteps:=1000000 }) (disch:=omega) [-getElem?_pos,j2,g536,oI,k1,k2,k3,hf1,k4,k5,k6,k7,k8,k9,k10,hq,hsh,hq2,hsh2,hS,hi,hB,hlen,hlen1,hle2,hget,hset2,hSS,hS2,a1,a2,n2,c1,c1',c2,c3,c3']
   · by_cases c1:40<r.dp
     ·have c1':40<(r.dp:Int):=(by omega);simp (config:={ maxSteps:=1000000 }) (disch:=omega) [-getElem?_pos,j2,g536,oI,k1,k2,k3,hf1,k4,k5,k6,k7,k8,k9,k10,hq,hsh,hq2,hsh2,hS,hi,hB,hlen,hlen1,hle2,hget,hset2,hSS,hS2,a1,a2,n2,hg,c1,c1']
     have c1':¬40<(r.dp:Int):=(by omega);cases c2:x.zL with
     |true=>
       rw[c2]at k9;simp (config:={ maxSteps:=1000000 }) (disch:=omega) [-getElem?_pos,j2,g536,oI,k1,k2,k3,hf1,k4,k5,k6,k7,k8,k9,k10,hq,hsh,hq2,hsh2,hS,hi,hB,hlen,hlen1,hle2,hget,hset2,hSS,hS2,a1,a2,n2,hg,c1,c1',c2]
     |false=>
       rw[c2]at k9;by_cases c3:4000<TX.length
       ·have c3':4000<(TX.length:Int):=(by omega);simp (config:={ maxSteps:=1000000 }) (disch:=omega) [-getElem?_pos,j2,g536,oI,k1,k2,k3,hf1,k4,k5,k6,k7,k8,k9,k10,hq,hsh,hq2,hsh2,hS,hi,hB,hlen,hlen1,hle2,hget,hset2,hSS,hS2,a1,a2,n2,hg,c1,c1',c2,c3,c3']
       ·have c3':¬4000<(TX.length:Int):=(by omega);simp (config:={ maxSteps:=1000000 }) (disch:=omega) [-getElem?_pos,j2,g536,oI,k1,k2,k3,hf1,k4,k5,k6,k7,k8,k9,k10,hq,hsh,hq2,hsh2,hS,hi,hB,hlen,hlen1,hle2,hget,hset2,hSS,hS2,a1,a2,n2,hg,c1,c1',c2,c3,c3']
theorem wG:mi AP:=⟨rfl,rfl,rfl,rfl,rfl,rfl,rfl,rfl,rfl,rfl⟩
theorem c533{ds:List Dt}{bs:List Bd}(H:Nh bs){h:Int}(h1:h≤9223372036854775807):(aC AP).p 533 [.agg [.az (ds.map Dt.pv),.az (bs.map Bd.pv)],vI h]=some (m4 bs h):=by
 have k:=c531 (ds:=ds) H.h h1;unfold m4;rw[ah (af:=g533) rfl rfl (by decide)];cases hf:(if h<0 then none else dq 0 bs h) with
 |none=>
   rw[hf]at k;simp[gZ]at k;simp[g533,k]
 |some r=>
   obtain⟨i,p⟩:=r
   have hf':dq 0 bs h=some (i,p):=by
     split at hf
     ·cases hf
     ·exact hf
   obtain⟨j,b,hj,hb,hp⟩:=iN hf';have:j=i:=by omega
   subst this;have hi:=(List.getElem?_eq_some_iff.1 hb).1;have hbm:=bE hb;have hl:=H.h.1;obtain⟨hok,hsz⟩:=H.h.2 b hbm;have hp5:=H.dp b hbm p hp;have kv:=c432 hok (H.one b hbm) (p:=p) (by omega);have vl:=oH hok hp5;rw[hf]at k;simp only[hb,kz];have htl:(bs.take j).length=j:=by simp;omega
   have e0:=MM (ds:=ds) (bs:=bs) (I:=j) (p:=p) hl (by omega) _ 0 rfl (by omega) [] (by simp);rw[List.drop_zero,List.nil_append]at e0;have hnl:((bs.take j).map Bd.name).length=j:=(by rw[List.length_map];exact htl);generalize (bs.take j).map Bd.name=N at *;generalize tB b.body p=V at *;have k4:=c440 (s:=N++((if b.rc=true then [b.name] else [])++V)) (by simp only[List.length_append];split<;>simp<;>omega);have hb1:(N.length+1)*16≤140737488355328:=(by omega);have hb2:(N.length+V.length)*16≤140737488355328:=(by omega);have hb3:(N.length+1+V.length)*16≤140737488355328:=(by omega);have hh:=jg.head V;have hh3:a0 1 (N.map PV.str++[PV.str b.name])=true:=by have:=jg.head (N++[b.name]);simpa only[List.map_append,List.map_cons,List.map_nil] using this
   have hb4:N.length*16≤140737488355328:=(by omega);rw[g533L0e]at e0;simp[gZ]at k kv hh;simp[fh]at e0;cases hr:b.rc
   · simp[hr]at k4;by_cases z:V=[]
     ·subst z;simp at k4 kv;simp (disch:=omega) [-getElem?_pos,g533,k,g533L0e,e0,hb,hi,hr,hb1,hb2,hb3,hb4,kv,k4]
     ·simp (disch:=omega) [-getElem?_pos,g533,k,g533L0e,e0,hb,hi,hr,hb1,hb2,hb3,hh,z,kv,k4]
   · simp[hr]at k4;by_cases z:V=[]
     ·subst z;simp at k4 kv;simp (disch:=omega) [-getElem?_pos,g533,k,g533L0e,e0,hb,hi,hr,hb1,hb2,hb3,hb4,hh3,kv,k4]
     ·simp (disch:=omega) [-getElem?_pos,g533,k,g533L0e,e0,hb,hi,hr,hb1,hb2,hb3,hh,hh3,z,kv,k4]
theorem AN{e x:Ex}(h:x∈e.strip.ch):∃y∈e.ch,x=y.strip:=by
 rw[fJ,List.mem_map]at h;obtain⟨y,hy,rfl⟩:=h;exact⟨y,hy,rfl⟩
theorem ql(e:Ex):e.strip.kids=e.kids.map Ex.strip:=by rw[Ex.dw]
theorem zR(e:Ex):e.strip.aB=e.aB.map fun a=>⟨0,a.dx,a.vars,a.body.strip⟩:=by rw[Ex.dw]
theorem wH(e:Ex):e.strip.ty=e.ty:=by rw[Ex.dw]
theorem zS(e:Ex):e.strip.name=e.name:=by rw[Ex.dw]
theorem DM(e:Ex):e.strip.num=e.num:=by rw[Ex.dw]
theorem DN(e:Ex):e.One→e.strip.One:=by
 refine Ex.recC (p:=fun e=>e.One→e.strip.One) ?_ e;intro e ih h;refine .mk (fun hk=>by rw[ql,List.length_map];rw[lj]at hk;exact h.h hk) fun x hx=>?_;obtain⟨y,hy,rfl⟩:=AN hx;exact ih y hy (h.c y hy)
theorem GV(e:Ex):(e.AL fun x=>x.ty.Cw)→e.strip.AL fun x=>x.ty.Cw:=by
 refine Ex.recC (p:=fun e=>(e.AL fun x=>x.ty.Cw)→e.strip.AL fun x=>x.ty.Cw) ?_ e;intro e ih h;refine .mk (by rw[wH];exact h.h) fun x hx=>?_;obtain⟨y,hy,rfl⟩:=AN hx;exact ih y hy (h.c y hy)
theorem rO{e:Ex}(h:rL e):rL e.strip:=⟨qj h.ok,DN e h.one,GV e h.cw⟩
theorem KS:d9.Nm:=.mk (by simp[d9,zz]) (by simp[d9])
theorem DO:d9.nodes.length≤100000000:=by rw[Ty.wo];simp[d9]
def NT(e:Ex):Prop:=e.wR∧e.Tn
theorem IN{k p m:Int}{s:bM}{l:List Ex}{as:List Ar}{t:Ty}(hs:s.length≤100)(ht:t.Nm)(hn:t.nodes.length≤100000000)(ha:∀a∈as,Ng a∧NT a.body)(hl:∀x∈l,NT x):NT ⟨k,p,s,m,l,as,t⟩:=by
 have hc:∀x∈(⟨k,p,s,m,l,as,t⟩:Ex).ch,NT x:=by
   intro x hx;simp only[Ex.ch,List.mem_append,List.mem_map]at hx;rcases hx with h|⟨a,h,rfl⟩
   ·exact hl x h
   ·exact (ha a h).2
 exact⟨.mk (by simp only[zz];omega) ht (fun a h=>(ha a h).1) fun x hx=>(hc x hx).1,.mk hn fun x hx=>(hc x hx).2⟩
def tN(p:Int):Ex:=⟨10,p,[],0,[],[],d9⟩
def jy(p:Int)(s:bM)(e:Ex):Ex:=⟨4,p,s,0,[e],[],d9⟩
def m5(p:Int)(a b:Ex):Ex:=⟨5,p,[],0,[a,b],[],d9⟩
theorem c142m{t:cO}(hk:t.kind=5):(aC AP).p 142 [t.pv]=some [.bool (decide (t.text=[63]) || (decide (t.text=[40]) || decide (t.text=[123])))]:=by
 rw[ah (af:=g142) rfl rfl (by decide)];by_cases h1:t.text=[63]
 ·simp[g142,hk,h1]
 · by_cases h2:t.text=[40]
   ·simp[g142,hk,h1,h2]
   · have:∀a b:bM,(a == b)=decide (a=b):=fun a b=>by rw[Bool.eq_iff_iff];simp
     simp[g142,hk,h1,h2,this]
theorem rP{L:List cO}{I:Nat}{t:cO}(h:L[I]?=some t)(hL:L.length≤4000)(hk:t.kind=5)(ht:t.text=[63]):∃a b c,(aC AP).i 141 [.a_ 0 0] (rd L I) []=some ([.agg (rJ a b c (tN t.pos))],rd L (I+1),[]):=by
 refine⟨true,true,true,?_⟩;have k1:=c126r h;have k2:=c129r h (k:=1);have k3:=c129r h (k:=2);have k4:=c129r h (k:=3);have k5:=c132t h hL (s:=[63]) (by simp[cO.jV,hk,ht]);rw[hk]at k2 k3 k4;rw[aH (af:=g141) rfl (by simp[g141])];simp at k1 k2 k3 k4 k5;simp[g141,k1,k2,k3,k4,k5,rJ,tV,tN,d9]
def tO(g:Nat)(L:List cO)(I:Nat)(e:Ex)(J:Nat):Prop:=∃a b c,(aC AP).i g [.a_ 0 0] (rd L I) []=some ([.agg (rJ a b c e)],rd L J,[])
theorem qm{L:List cO}{I J:Nat}{t u:cO}{e:Ex}(h:L[I]?=some t)(hL:L.length≤4000)(hk:t.kind=5)(ht:t.text=[40])(hr:tO 134 L (I+1) e J)(hu:L[J]?=some u)(huk:u.kind=5)(hut:u.text=[41]):tO 141 L I e (J+1):=by
 obtain⟨a,b,c,r⟩:=hr;have k1:=c126r h;have k2:=c129r h (k:=1);have k3:=c129r h (k:=2);have k4:=c129r h (k:=3);have k5:=c132f h (s:=[63]) (by simp[cO.jV,ht]);have k6:=c132f h (s:=[123]) (by simp[cO.jV,ht]);have k7:=c127r h hL (s:=[40]) (by simp[cO.jV,ht,hk]);have k8:=c132f hu (s:=[58]) (by simp[cO.jV,hut]);have k9:=c127r hu hL (s:=[41]) (by simp[cO.jV,hut,huk]);rw[hk]at k2 k3 k4;refine⟨a,b,c,?_⟩;rw[aH (af:=g141) rfl (by simp[g141])];simp at k1 k2 k3 k4 k5 k6 k7 k8 k9;cases a<;>cases b<;>cases c<;>simp[rJ,tV]at r<;>simp[g141,k1,k2,k3,k4,k5,k6,k7,k8,k9,r,rJ,tV]
theorem wI{L:List cO}{I J:Nat}{t u v:cO}{e:Ex}(h:L[I]?=some t)(hu:L[I+1]?=some u)(hv:L[I+2]?=some v)(hL:L.length≤4000)(hk:t.kind=5)(ht:t.text=[92])(huk:u.kind=1)(hvk:v.kind=5)(hvt:v.text=[46])(hr:tO 134 L (I+3) e J) :
   tO 134 L I (jy t.pos u.text e) J:=by
 obtain⟨a,b,c,r⟩:=hr;have k1:=c126r h;have k2:=c132t h hL (s:=[92]) (by simp[cO.jV,ht,hk]);have k3:(aC AP).i 128 [.a_ 0 0,.pv (vI 1)] (rd L (I+1)) []=some ([.pv (.str u.text)],rd L (I+2),[]):=c128r hu hL (k:=1) huk;have k4:(aC AP).i 127 [.a_ 0 0,.pv (.str [46])] (rd L (I+2)) []=some ([],rd L (I+3),[]):=c127r hv hL (s:=[46]) (by simp[cO.jV,hvt,hvk]);refine⟨true,true,true,?_⟩;have hA:=Gq a b c e;generalize rJ a b c e=A at *;have tA:List.take 11 A=A:=List.take_of_length_le (by rw[hA.len];omega);have ec:=Ex.bX e;rw[aH (af:=g134) rfl (by simp[g134])];simp at k1 k2 k3 k4 r;simp (disch:=omega) [-getElem?_pos,g134,k1,k2,k3,k4,r,hA.iC,hA.flat,hA.N8,hA.len,hA.leaf,tA,ec,rJ,tV,jy,d9]
theorem wJ{L:List cO}{I J:Nat}{t u:cO}{e:Ex}(h:L[I]?=some t)(hL:L.length≤4000)(hk:t.kind=5)(ht:t.text=[63]∨t.text=[40])(hr:tO 141 L I e J)(hu:L[J]?=some u)(huk:u.kind=5)(hut:u.text≠[63]∧u.text≠[40]∧u.text≠[123]):tO 134 L I e J:=by
 obtain⟨a,b,c,r⟩:=hr;have hJ:=(List.getElem?_eq_some_iff.1 hu).1;have k1:=c126r h;have k2:=c132f h (s:=[92]) (by rcases ht with q|q<;>simp[cO.jV,q]);have k3:=c132f h (s:=[108,101,116]) (by rcases ht with q|q<;>simp[cO.jV,q]);have k4:=c132f h (s:=[99,97,115,101]) (by rcases ht with q|q<;>simp[cO.jV,q]);have k5:=c142m huk;rw[decide_eq_false hut.1,decide_eq_false hut.2.1,decide_eq_false hut.2.2]at k5;unfold tO;rw[aH (af:=g134) rfl (by simp[g134])];simp at k1 k2 k3 k4 k5;refine⟨false,false,false,?_⟩;cases a<;>cases b<;>cases c<;>simp[rJ,tV]at r<;>simp (disch:=omega) [-getElem?_pos,g134,g134L0e,g134B0,k1,k2,k3,k4,k5,r,rJ,tV,hu,hJ]
theorem GW{L:List cO}{I J K:Nat}{t u v:cO}{e f:Ex}(h:L[I]?=some t)(hL:L.length≤4000)(hk:t.kind=5)(ht:t.text=[40])(hr:tO 141 L I e J)(hu:L[J]?=some u)(huk:u.kind=5)(hut:u.text=[40])(hr2:tO 141 L J f K)
   (hv:L[K]?=some v) (hvk:v.kind=5) (hvt:v.text≠[63]∧v.text≠[40]∧v.text≠[123]):tO 134 L I (m5 e.pos e f) K:=by
 obtain⟨a,b,c,r⟩:=hr;obtain⟨a2,b2,c2,r2⟩:=hr2;have hJ:=(List.getElem?_eq_some_iff.1 hu).1;have hK:=(List.getElem?_eq_some_iff.1 hv).1;have k1:=c126r h;have k2:=c132f h (s:=[92]) (by simp[cO.jV,ht]);have k3:=c132f h (s:=[108,101,116]) (by simp[cO.jV,ht]);have k4:=c132f h (s:=[99,97,115,101]) (by simp[cO.jV,ht]);have k5:=c142m huk;have k6:=c142m hvk;rw[decide_eq_false hvt.1,decide_eq_false hvt.2.1,decide_eq_false hvt.2.2]at k6;have hA:=Gq a2 b2 c2 f;generalize rJ a2 b2 c2 f=A at *;have tA:List.take 11 A=A:=List.take_of_length_le (by rw[hA.len];omega);have ec:=Ex.bX e;have fc:=Ex.bX f;unfold tO;rw[aH (af:=g134) rfl (by simp[g134])];simp[hut]at k5;simp at k1 k2 k3 k4 k6 r2;refine⟨false,false,false,?_⟩;cases a<;>cases b<;>cases c<;>simp[rJ,tV]at r<;>simp (disch:=omega) [-getElem?_pos,g134,g134L0e,g134B0,k1,k2,k3,k4,k5,k6,r,r2,rJ,tV,hu,hut,hJ,hv,hK,m5,d9,hA.iC,hA.flat,hA.N8,hA.len,hA.leaf,tA,ec,fc]
def NN(z a b c:Bool)(d:Bd):List AV:=[.pv (vI d.pos),.pv (.bool d.rc),.pv (.str d.name),.pv (.bool d.sg),.pv (vI d.sig.kind),.pv (.str d.sig.name),.pv (vI d.sig.id),.pv (vI d.sig.home),tV z (d.sig.args.map Ty.pv)]++rJ a b c d.body
theorem c122r{L:List cO}{I J:Nat}{t u v w:cO}{e:Ex}(h:L[I]?=some t)(hu:L[I+1]?=some u)(hv:L[I+2]?=some v)(hw:L[J]?=some w)(hL:L.length≤4000)(hk:t.kind=4)(ht:t.text=[108,101,116])(huk:u.kind=1)(hvk:v.kind=5)(hvt:v.text=[61])(hr:tO 134 L (I+3) e J)(hwk:w.kind=5)(hwt:w.text=[59]):∃z a b c,(aC AP).i 122 [.a_ 0 0] (rd L I) []=some ([.agg (NN z a b c ⟨t.pos,false,u.text,false,d9,e⟩)],rd L (J+1),[]):=by
 obtain⟨a,b,c,r⟩:=hr;have k1:=c126r h;have k2:(aC AP).i 127 [.a_ 0 0,.pv (.str [108,101,116])] (rd L I) []=some ([],rd L (I+1),[]):=c127r h hL (by simp[cO.jV,ht,hk]);have k3:=c132f hu (s:=[114,101,99]) (by simp[cO.jV,huk]);have k4:(aC AP).i 128 [.a_ 0 0,.pv (vI 1)] (rd L (I+1)) []=some ([.pv (.str u.text)],rd L (I+2),[]):=c128r hu hL (k:=1) huk;have k5:=c132f hv (s:=[58]) (by simp[cO.jV,hvt]);have k6:(aC AP).i 127 [.a_ 0 0,.pv (.str [61])] (rd L (I+2)) []=some ([],rd L (I+3),[]):=c127r hv hL (by simp[cO.jV,hvt,hvk]);have k7:=c127r hw hL (s:=[59]) (by simp[cO.jV,hwt,hwk]);rw[aH (af:=g122) rfl (by simp[g122])];simp at k1 k2 k3 k4 k5 k6 k7;refine⟨true,a,b,c,?_⟩;cases a<;>cases b<;>cases c<;>simp[rJ,tV]at r<;>simp (disch:=omega) [-getElem?_pos,g122,k1,k2,k3,k4,k5,k6,k7,r,NN,rJ,tV,d9]
def Pl(e:Ex):Prop:=e.AL fun x=>x.kind≠9∧x.aB=[]
theorem c144f(e:Ex):Pl e→e.Ok→(aC AP).p 144 [e.pv]=some [.bool false]:=by
 refine Ex.recC (p:=fun e=>Pl e→e.Ok→(aC AP).p 144 [e.pv]=some [.bool false]) ?_ e;intro e ih hP hO;have c:=c145 hO;have hl:e.ch.length≤2000:=by have h1:=hO.k;have h2:=hO.a;rw[Ex.c_];omega
 have key:∀(n i:Nat),e.ch.length-i=n→i≤e.ch.length→cl AP g144L0 ⟨[(3,.pv (.az (e.ch.map Ex.pv))),(4,.pv (vI i))],[],[],[]⟩=some (.exit 0,⟨[(3,.pv (.az (e.ch.map Ex.pv))),(4,.pv (vI e.ch.length)),(19,.pv (.bool false))],[],[],[]⟩):=by
   intro n;induction n with
   |zero=>
     intro i hn hi;have:i=e.ch.length:=by omega
     subst this;rw[g144L0e];simp[g144B0]
   |succ n ihn=>
     intro i hn hi;have hi:i<e.ch.length:=by omega
     obtain⟨x,hx⟩:=bl hi;have k:=ih x (bE hx) (hP.c x (bE hx)) (hO.c x (bE hx));have ihn:=ihn (i+1) (by omega) (by omega);generalize e.ch=C at *;rw[g144L0e]at ihn⊢;simp at k ihn;simp (disch:=omega) [-getElem?_pos,g144B0,hx,hi,k,aw];rw[g144L0e];simp[ihn]
 have k:=key _ 0 rfl (by omega);have h9:=hP.h.1;rw[ah (af:=g144) rfl rfl (by decide)];rw[g144L0e]at k;simp at k c;simp[g144,c,h9,g144L0e,k]
theorem c136f(e:Ex):Pl e→e.Ok→(aC AP).p 136 [e.pv]=some [vI 0,.bool false]:=by
 refine Ex.recC (p:=fun e=>Pl e→e.Ok→(aC AP).p 136 [e.pv]=some [vI 0,.bool false]) ?_ e;intro e ih hP hO;have c:=c145 hO;have hl:e.ch.length≤2000:=by have h1:=hO.k;have h2:=hO.a;rw[Ex.c_];omega
 have key:∀(n i:Nat),e.ch.length-i=n→i≤e.ch.length→cl AP g136L1 ⟨[(5,.pv (.az (e.ch.map Ex.pv))),(6,.pv (vI i))],[],[],[]⟩=some (.exit 2,⟨[(5,.pv (.az (e.ch.map Ex.pv))),(6,.pv (vI e.ch.length)),(35,.pv (.bool false))],[],[],[]⟩):=by
   intro n;induction n with
   |zero=>
     intro i hn hi;have:i=e.ch.length:=by omega
     subst this;rw[g136L1e];simp[g136B1]
   |succ n ihn=>
     intro i hn hi;have hi:i<e.ch.length:=by omega
     obtain⟨x,hx⟩:=bl hi;have k:=ih x (bE hx) (hP.c x (bE hx)) (hO.c x (bE hx));have ihn:=ihn (i+1) (by omega) (by omega);generalize e.ch=C at *;rw[g136L1e]at ihn⊢;simp at k ihn;simp (disch:=omega) [-getElem?_pos,g136B1,hx,hi,k,aw];rw[g136L1e];simp[ihn]
 have k:=key _ 0 rfl (by omega);have h9:=hP.h.2;rw[ah (af:=g136) rfl rfl (by decide)];rw[g136L1e]at k;simp[h9]at k c;simp[g136,c,h9,g136L0e,g136B0,g136L1e,k]
theorem c135f{e:Ex}(hP:Pl e)(hO:e.Ok)(hs:e.sz≤100000000):(aC AP).p 135 [e.pv]=some [.bool (decide (40<e.dp))]:=by
 have k1:=c143 e hO hs;have k2:=c144f e hP hO;rw[ah (af:=g135) rfl rfl (by decide)];simp at k1 k2;by_cases h:(40:Int)<e.dp
 · have:40<e.dp:=by omega
   simp[g135,k1,k2,h,this]
 · have:¬40<e.dp:=by omega
   simp[g135,k1,k2,h,this]
theorem c123f{b:Bd}(hb:b.sg=false)(hP:Pl b.body)(hO:b.body.Ok)(hs:b.body.sz≤100000000)(hd:b.body.dp≤40):(aC AP).p 123 [.agg [.az [],.az [b.pv]]]=some [.agg [vI 0,vI 0]]:=by
 have k1:=c135f hP hO hs;have k2:=c136f _ hP hO;rw[decide_eq_false (by omega)]at k1;rw[ah (af:=g123) rfl rfl (by decide)];simp at k1 k2;simp (disch:=omega) [g123,g123L0e,g123B0,g123L2e,g123B2,g123L5e,g123B5,hb,k1,k2,aw]
theorem c119r{L:List cO}:(aC AP).i 119 [.pv (.az (L.map cO.pv)),.pv (vI 0)] [] []=some ([.a_ 0 0],rd L 0,[]):=by
 rw[aH (af:=g119) rfl (by simp[g119])];have:¬(L.length:Int)<0:=by omega
 simp[g119,this]
theorem c112f{src:bM}{L:List cO}(hc:(aC AP).p 118 [.str src]=some [.az (L.map cO.pv),.agg [vI 0,vI 0]]){J:Nat}{t u v w:cO}{e:Ex}(h:L[0]?=some t)(hu:L[1]?=some u)(hv:L[2]?=some v)(hw:L[J]?=some w)(hJ:L.length=J+1)(hL:L.length≤4000)(hk:t.kind=4)(ht:t.text=[108,101,116])(huk:u.kind=1)(hvk:v.kind=5)(hvt:v.text=[61])
   (hr:tO 134 L 3 e J) (hwk:w.kind=5) (hwt:w.text=[59]) (hP:Pl e) (hO:e.Ok) (hs:e.sz≤100000000) (hd:e.dp≤40) :
   (aC AP).p 112 [.str src]=some [.agg [.az [],.az [(⟨t.pos,false,u.text,false,d9,e⟩:Bd).pv]],.agg [vI 0,vI 0]]:=by
 obtain⟨z,a,b,c,r⟩:=c122r h hu hv hw hL hk ht huk hvk hvt hr hwk hwt;have k1:=c119r (L:=L);have k2:=c120r h (s:=[100,97,116,97]);rw[show t.jV [100,97,116,97]=false by simp[cO.jV,ht]]at k2;have k3:=c123f (b:=⟨t.pos,false,u.text,false,d9,e⟩) rfl hP hO hs hd;have hpos:0<L.length:=by omega
 have hl1:¬((J:Int)+1<L.length):=by omega
 rw[ah (af:=g112) rfl rfl (by decide)];simp[Bd.dR]at hc k1 k2 k3;simp only[NN]at r
 cases z<;>cases a<;>cases b<;>cases c<;>simp[rJ,tV,d9]at r<;>simp[d9]at k3 <;>
   simp (disch:=omega) [-getElem?_pos,g112,g112L0e,g112B0,hc,k1,k2,k3,r,hpos,hl1,hJ,Bd.dR,d9]
theorem KU:(aC AP).p 125 [.str [92]]=some [vI 5]∧(aC AP).p 125 [.str [120]]=some [vI 1]∧(aC AP).p 125 [.str [46]]=some [vI 5]∧(aC AP).p 125 [.str [63]]=some [vI 5]∧(aC AP).p 125 [.str [59]]=some [vI 5] ∧
   (aC AP).p 125 [.str [61]]=some [vI 5]∧(aC AP).p 125 [.str [40]]=some [vI 5]∧(aC AP).p 125 [.str [41]]=some [vI 5]∧(aC AP).p 125 [.str [108,101,116]]=some [vI 4]:=by
 refine⟨?_,?_,?_,?_,?_,?_,?_,?_,?_⟩<;>exact Fc.FY (k:=400) (n:=40) (by kernel_rfl)
def og:Nat→bM
 |0=>[]
 |a+1=>92::120::46::32::og a
def jm(p:Nat):Nat→List cO
 |0=>[]
 |a+1=>⟨5,[92],(p:Int)⟩::⟨1,[120],((p+1:Nat):Int)⟩::⟨5,[46],((p+2:Nat):Int)⟩::jm (p+4) a
def lp(p:Nat):Nat→Ex
 |0=>tN (p:Int)
 |a+1=>jy (p:Int) [120] (lp (p+4) a)
theorem j3:∀a,(og a).length=4*a
 |0=>rfl
 |a+1=>by simp only[og,List.length_cons,j3 a];omega
theorem fj:∀{p:Nat} (a:Nat),(jm p a).length=3*a
 |_,0=>rfl
 |p,a+1=>by simp only[jm,List.length_cons,fj a];omega
section
variable {src:bM} (hS:src.length≤4000)
include hS
theorem lq{i:Nat}{acc:List cO}(hA:acc.length≤i){c:UInt8}{r:bM}(hd:src.drop i=c::r){k:Int}(hk:(aC AP).p 125 [.str [c]]=some [vI k])(h0:k≠0)(hn:im c.toNat=false)
   (hx:(c.toNat:Int)≠32∧(c.toNat:Int)≠9∧(c.toNat:Int)≠13∧(c.toNat:Int)≠10∧(c.toNat:Int)≠35∧(c.toNat:Int)≠45) {R:Option (aU×St)} (ih:src.drop (i+1)=r→(acc++[(⟨k,[c],(i:Int)⟩:cO)]).length≤i+1→cl AP g118L0 (qo src (i+1) (acc++[⟨k,[c],i⟩]))=R):cl AP g118L0 (qo src i acc)=R:=by
 have hc:src[i]?=some c:=by have:=congrArg List.head? hd;rw[List.head?_drop]at this;simpa using this
 refine Is hS hA hc hk h0 hn hx (ih ?_ (by simp;omega));rw[aX hc]at hd;exact (List.cons.inj hd).2
theorem tP{i:Nat}{acc:List cO}(hA:acc.length≤i){r:bM}(hd:src.drop i=32::r){R:Option (aU×St)}(ih:src.drop (i+1)=r→acc.length≤i+1→cl AP g118L0 (qo src (i+1) acc)=R):cl AP g118L0 (qo src i acc)=R:=by
 have hc:src[i]?=some 32:=by have:=congrArg List.head? hd;rw[List.head?_drop]at this;simpa using this
 refine Gp hS hc (ih ?_ (by omega));rw[aX hc]at hd;exact (List.cons.inj hd).2
theorem DP{i:Nat}{acc:List cO}(hA:acc.length≤i){c d:UInt8}{t r:bM}(hd:src.drop i=(c::t)++d::r)(hi:ix (c::t)=true)(hr:im d.toNat=false)
   {k:Int} (hk:(aC AP).p 125 [.str (c::t)]=some [vI k]) (h0:k≠0) {R:Option (aU×St)} (ih:src.drop (i+(t.length+1))=d::r→(acc++[(⟨k,c::t,(i:Int)⟩:cO)]).length≤i+(t.length+1)→cl AP g118L0 (qo src (i+(t.length+1)) (acc++[⟨k,c::t,i⟩]))=R):cl AP g118L0 (qo src i acc)=R:=by
 refine Iu hS hA hd hi (fun x hx=>by simp at hx;subst hx;exact hr) hk h0 (ih ?_ (by simp;omega));have:(src.drop i).drop (t.length+1)=d::r:=by rw[hd];simp
 rw[List.drop_drop]at this;exact this
theorem tQ{r:bM}{R:Option (aU×St)}:∀(a i:Nat) (acc:List cO),acc.length≤i→src.drop i=og a++r→(src.drop (i+4*a)=r→(acc++jm i a).length≤i+4*a→cl AP g118L0 (qo src (i+4*a) (acc++jm i a))=R)→cl AP g118L0 (qo src i acc)=R
 |0,i,acc,hA,hd,ih=>by
   have:=ih (by simpa[og] using hd) (by simpa[jm] using hA);simpa[jm] using this
 |a+1,i,acc,hA,hd,ih=>by
   obtain⟨k1,k2,k3,_⟩:=KU;simp only[og,List.cons_append]at hd;refine lq hS hA hd k1 (by decide) (by decide) (by decide) fun h1 a1=>?_;refine DP hS a1 (t:=[]) h1 (by decide) (by decide) k2 (by decide) fun h2 a2=>?_;refine lq hS a2 h2 k3 (by decide) (by decide) (by decide) fun h3 a3=>?_;refine tP hS a3 h3 fun h4 a4=>?_;refine tQ a _ _ a4 h4 ?_;intro h5 a5;have e:i+1+(([]:bM).length+1)+1+1+4*a=i+4*(a+1):=by simp;omega
   have e2:acc++[(⟨5,[92],(i:Int)⟩:cO)]++[⟨1,[120],((i+1:Nat):Int)⟩]++[⟨5,[46],((i+1+(([]:bM).length+1):Nat):Int)⟩]++jm (i+1+(([]:bM).length+1)+1+1) a=acc++jm i (a+1):=by
     simp[jm];omega
   rw[e]at h5 a5⊢;rw[e2]at a5⊢;exact ih h5 a5
end
theorem m6{L:List cO}(hL:L.length≤4000){w:cO}(hwk:w.kind=5)(hwt:w.text≠[63]∧w.text≠[40]∧w.text≠[123]){r:List cO}:∀(a I p:Nat),L.drop I=jm p a++(⟨5,[63],((p+4*a:Nat):Int)⟩::w::r)→tO 134 L I (lp p a) (I+3*a+1)
 |0,I,p,h=>by
   have h1:L[I]?=some ⟨5,[63],((p+4*0:Nat):Int)⟩:=by have:=congrArg List.head? h;rw[List.head?_drop]at this;simpa[jm] using this
   have h2:L[I+1]?=some w:=by have:=congrArg (fun l=>l[1]?) h;simp only[List.getElem?_drop]at this;simpa[jm] using this
   exact wJ h1 hL rfl (.inl rfl) (rP h1 hL rfl rfl) h2 hwk hwt
 |a+1,I,p,h=>by
   have g:∀j,L[I+j]?=(jm p (a+1)++(⟨5,[63],((p+4*(a+1):Nat):Int)⟩::w::r))[j]?:=fun j=>by rw[←h,List.getElem?_drop]
   have h1:=g 0;have h2:=g 1;have h3:=g 2
   have ih:=m6 hL hwk hwt (r:=r) a (I+3) (p+4) (by
     have:(L.drop I).drop 3=_:=congrArg (List.drop 3) h;rw[List.drop_drop]at this;rw[this,show p+4+4*a=p+4*(a+1) by omega];simp[jm])
   rw[show I+3+3*a+1=I+3*(a+1)+1 by omega]at ih;exact wI (t:=⟨5,[92],(p:Int)⟩) (u:=⟨1,[120],((p+1:Nat):Int)⟩) (v:=⟨5,[46],((p+2:Nat):Int)⟩) (by rw[Nat.add_zero]at h1;rw[h1];rfl) (by rw[h2];rfl) (by rw[h3];rfl) hL rfl rfl rfl rfl rfl ih
end Go.Ab.Lw
namespace Go.Ab.Lw
open Ev
def zT(a:Nat):bM:=[108,101,116,32,120,32,61,32]++(og a++[63,59])
def zU(a:Nat):bM:=[108,101,116,32,120,32,61,32,40,92,120,46,32,63,41,32,40]++(og a++[63,41,59])
def tR(a:Nat):List cO:=[⟨4,[108,101,116],0⟩,⟨1,[120],4⟩,⟨5,[61],6⟩]++(jm 8 a++[⟨5,[63],((8+4*a:Nat):Int)⟩,⟨5,[59],((9+4*a:Nat):Int)⟩])
def lr(a:Nat):List cO:=[⟨4,[108,101,116],0⟩,⟨1,[120],4⟩,⟨5,[61],6⟩,⟨5,[40],8⟩,⟨5,[92],9⟩,⟨1,[120],10⟩,⟨5,[46],11⟩,⟨5,[63],13⟩,⟨5,[41],14⟩,⟨5,[40],16⟩]++(jm 17 a++[⟨5,[63],((17+4*a:Nat):Int)⟩,⟨5,[41],((18+4*a:Nat):Int)⟩,⟨5,[59],((19+4*a:Nat):Int)⟩])
theorem GX{src:bM}{i:Nat}{acc T:List cO}{R:Option (aU×St)}(hi:i=src.length)(hT:acc=T)(h:some (.exit 0,⟨[(0,.pv (.str src)),(3,.aK 3 0),(4,.own (T.map cO.pv) 0),(5,.pv (vI src.length)),(16,.pv (.bool false))],[(3,[.pv (vI 0),.pv (vI 0)])],[],[T.length]⟩)=R):cl AP g118L0 (qo src i acc)=R:=by
 subst hi;subst hT;exact Kq h
theorem MN{a:Nat}(ha:a≤100):(aC AP).p 118 [.str (zT a)]=some [.az ((tR a).map cO.pv),.agg [vI 0,vI 0]]:=by
 have hl:(zT a).length=10+4*a:=by simp[zT,j3];omega
 have hS:(zT a).length≤4000:=by omega
 obtain⟨k1,k2,k3,k4,k5,k6,k7,k8,k9⟩:=KU;refine c118 hS fun R hR=>?_;refine DP hS (acc:=[]) (by simp) (c:=108) (t:=[101,116]) (d:=32) rfl (by decide) (by decide) k9 (by decide) fun h a1=>?_;refine tP hS a1 h fun h a1=>?_;refine DP hS a1 (t:=[]) h (by decide) (by decide) k2 (by decide) fun h a1=>?_;refine tP hS a1 h fun h a1=>?_;refine lq hS a1 h k6 (by decide) (by decide) (by decide) fun h a1=>?_;refine tP hS a1 h fun h a1=>?_;refine tQ hS a _ _ a1 h fun h a1=>?_;refine lq hS a1 h k4 (by decide) (by decide) (by decide) fun h a1=>?_;refine lq hS a1 h k5 (by decide) (by decide) (by decide) fun h a1=>?_;refine GX (by rw[hl];simp;omega) ?_ hR;simp[tR];omega
theorem MO{a:Nat}(ha:a≤100):(aC AP).p 118 [.str (zU a)]=some [.az ((lr a).map cO.pv),.agg [vI 0,vI 0]]:=by
 have hl:(zU a).length=20+4*a:=by simp[zU,j3];omega
 have hS:(zU a).length≤4000:=by omega
 obtain⟨k1,k2,k3,k4,k5,k6,k7,k8,k9⟩:=KU;refine c118 hS fun R hR=>?_;refine DP hS (acc:=[]) (by simp) (c:=108) (t:=[101,116]) (d:=32) rfl (by decide) (by decide) k9 (by decide) fun h a1=>?_;refine tP hS a1 h fun h a1=>?_;refine DP hS a1 (t:=[]) h (by decide) (by decide) k2 (by decide) fun h a1=>?_;refine tP hS a1 h fun h a1=>?_;refine lq hS a1 h k6 (by decide) (by decide) (by decide) fun h a1=>?_;refine tP hS a1 h fun h a1=>?_;refine lq hS a1 h k7 (by decide) (by decide) (by decide) fun h a1=>?_;refine lq hS a1 h k1 (by decide) (by decide) (by decide) fun h a1=>?_;refine DP hS a1 (t:=[]) h (by decide) (by decide) k2 (by decide) fun h a1=>?_;refine lq hS a1 h k3 (by decide) (by decide) (by decide) fun h a1=>?_;refine tP hS a1 h fun h a1=>?_;refine lq hS a1 h k4 (by decide) (by decide) (by decide) fun h a1=>?_;refine lq hS a1 h k8 (by decide) (by decide) (by decide) fun h a1=>?_;refine tP hS a1 h fun h a1=>?_;refine lq hS a1 h k7 (by decide) (by decide) (by decide) fun h a1=>?_;refine tQ hS a _ _ a1 h fun h a1=>?_;refine lq hS a1 h k4 (by decide) (by decide) (by decide) fun h a1=>?_;refine lq hS a1 h k8 (by decide) (by decide) (by decide) fun h a1=>?_;refine lq hS a1 h k5 (by decide) (by decide) (by decide) fun h a1=>?_;refine GX (by rw[hl];simp;omega) ?_ hR;simp[lr];omega
def exp2(a:Nat):Ex:=m5 9 (jy 9 [120] (tN 13)) (lp 17 a)
inductive Sx:Ex→Prop
 |mk {e:Ex}:e.aB=[]→e.ty=d9→e.name.length≤1→e.kids.length≤2→e.kind≠8→e.kind≠9→(∀x∈e.kids,Sx x)→Sx e
theorem Sx.all{e:Ex}(h:Sx e):e.Ok∧e.One∧(e.AL fun x=>x.ty.Cw)∧Pl e∧NT e:=by
 induction h with
 | @mk e h1 h2 h3 h4 h5 h6 h7 ih=>
   have hc:e.ch=e.kids:=by rw[Ex.ch,h1];simp
   refine⟨.mk (by omega) (by simp[h1]) (by simp[h1]) (by rw[h2];exact GC) (by rw[hc];exact fun x hx=>(ih x hx).1),.mk (fun q=>absurd q h5) (by rw[hc];exact fun x hx=>(ih x hx).2.1),
     .mk (by rw[h2];exact KE) (by rw[hc];exact fun x hx=>(ih x hx).2.2.1),.mk ⟨h6,h1⟩ (by rw[hc];exact fun x hx=>(ih x hx).2.2.2.1),?_⟩
   have:=IN (k:=e.kind) (p:=e.pos) (m:=e.num) (s:=e.name) (l:=e.kids) (as:=e.aB) (t:=e.ty) (by omega) (by rw[h2];exact KS) (by rw[h2];exact DO) (by simp[h1]) (fun x hx=>(ih x hx).2.2.2.2);cases e;exact this
theorem Sx.KV{e:Ex}(h:Sx e):rL e:=⟨h.all.1,h.all.2.1,h.all.2.2.1⟩
theorem Ju{p:Int}:Sx (tN p):=.mk rfl rfl (by simp[tN]) (by simp[tN]) (by simp[tN]) (by simp[tN]) (by simp[tN])
theorem GY{p:Int}{e:Ex}(h:Sx e):Sx (jy p [120] e):=.mk rfl rfl (by simp[jy]) (by simp[jy]) (by simp[jy]) (by simp[jy]) (by simp[jy,h])
theorem KX{p:Int}{e f:Ex}(h:Sx e)(k:Sx f):Sx (m5 p e f):=.mk rfl rfl (by simp[m5]) (by simp[m5]) (by simp[m5]) (by simp[m5]) (by simp[m5,h,k])
theorem tS:∀(a p:Nat),Sx (lp p a)
 |0,_=>Ju
 |a+1,p=>GY (tS a (p+4))
theorem KY(a:Nat):Sx (exp2 a):=KX (GY Ju) (tS a 17)
theorem zV{p:Int}{e:Ex}:(jy p [120] e).sz=e.sz+1∧(jy p [120] e).dp=e.dp+1∧(jy p [120] e).ch=[e]:=by
 have hc:(jy p [120] e).ch=[e]:=rfl;refine⟨?_,?_,hc⟩
 ·rw[Ex.gW,hc];simp;omega
 ·rw[Ex.ju,hc];simp[mV];omega
theorem GZ{p:Int}{e f:Ex}:(m5 p e f).sz=e.sz+f.sz+1∧(m5 p e f).dp=max e.dp f.dp+1∧(m5 p e f).ch=[e,f]:=by
 have hc:(m5 p e f).ch=[e,f]:=rfl;refine⟨?_,?_,hc⟩
 ·rw[Ex.gW,hc];simp;omega
 ·rw[Ex.ju,hc];simp[mV];omega
theorem G5{p:Int}:(tN p).sz=1∧(tN p).dp=0:=by
 have hc:(tN p).ch=[]:=rfl;exact⟨by rw[Ex.gW,hc];simp,by rw[Ex.ju,hc];simp[mV]⟩
theorem mj:∀(a p:Nat),(lp p a).sz=a+1∧(lp p a).dp=a
 |0,_=>G5
 |a+1,p=>by
   obtain⟨h1,h2⟩:=mj a (p+4);obtain⟨k1,k2,_⟩:=zV (p:=(p:Int)) (e:=lp (p+4) a);exact⟨by rw[lp,k1,h1],by rw[lp,k2,h2]⟩
def gi(e:Ex):Bd:=⟨0,false,[120],false,d9,e⟩
theorem c535f{src:bM}{b:Bd}(h:(aC AP).p 112 [.str src]=some [.agg [.az [],.az [b.pv]],.agg [vI 0,vI 0]]):(aC AP).p 535 [.str src]=some [.agg [.az [],.az [b.pv]]]:=by
 rw[ah (af:=g535) rfl rfl (by decide)];simp[Bd.dR]at h;simp[g535,h,Bd.dR]
theorem MP{a:Nat}(ha:a≤40):(aC AP).p 535 [.str (zT a)]=some [.agg [.az [],.az [(gi (lp 8 a)).pv]]]:=by
 have hL:(tR a).length=3*a+5:=by simp[tR,fj]
 have g:∀j,(tR a)[3+j]?=(jm 8 a++[(⟨5,[63],((8+4*a:Nat):Int)⟩:cO),⟨5,[59],((9+4*a:Nat):Int)⟩])[j]?:=fun j=>by
   unfold tR;rw[List.getElem?_append_right (by simp)];congr 1;simp
 have hw:(tR a)[3+3*a+1]?=some ⟨5,[59],((9+4*a:Nat):Int)⟩:=by
   rw[show 3+3*a+1=3+(3*a+1) by omega,g,List.getElem?_append_right (by rw[fj];omega),fj,show 3*a+1-3*a=1 by omega];rfl
 obtain⟨h1,h2⟩:=mj a 8;have hs:=tS a 8
 exact c535f (c112f (MN (by omega)) (t:=⟨4,[108,101,116],0⟩) (u:=⟨1,[120],4⟩) (v:=⟨5,[61],6⟩) rfl rfl rfl hw (by omega) (by omega) rfl rfl rfl rfl rfl
   (m6 (by omega) (w:=⟨5,[59],((9+4*a:Nat):Int)⟩) rfl (by simp) (r:=[]) a 3 8 (by show List.drop 3 (tR a)=_;unfold tR;rfl)) rfl rfl hs.all.2.2.2.1 hs.all.1 (by omega) (by omega))
theorem MQ{a:Nat}(ha:a≤38):(aC AP).p 535 [.str (zU a)]=some [.agg [.az [],.az [(gi (exp2 a)).pv]]]:=by
 have hL:(lr a).length=3*a+13:=by simp[lr,fj]
 have g:∀j,(lr a)[10+j]?=(jm 17 a++[(⟨5,[63],((17+4*a:Nat):Int)⟩:cO),⟨5,[41],((18+4*a:Nat):Int)⟩,⟨5,[59],((19+4*a:Nat):Int)⟩])[j]?:=fun j=>by
   unfold lr;rw[List.getElem?_append_right (by simp)];congr 1;simp
 have hw:(lr a)[10+3*a+1]?=some ⟨5,[41],((18+4*a:Nat):Int)⟩:=by
   rw[show 10+3*a+1=10+(3*a+1) by omega,g,List.getElem?_append_right (by rw[fj];omega),fj,show 3*a+1-3*a=1 by omega];rfl
 have hz:(lr a)[10+3*a+1+1]?=some ⟨5,[59],((19+4*a:Nat):Int)⟩:=by
   rw[show 10+3*a+1+1=10+(3*a+2) by omega,g,List.getElem?_append_right (by rw[fj];omega),fj,show 3*a+2-3*a=2 by omega];rfl
 have hs:=KY a
 have hd:(exp2 a).sz=a+4∧(exp2 a).dp≤40:=by
   obtain⟨h1,h2⟩:=mj a 17;obtain⟨k1,k2,_⟩:=GZ (p:=9) (e:=jy 9 [120] (tN 13)) (f:=lp 17 a);obtain⟨m1,m2,_⟩:=zV (p:=9) (e:=tN 13);obtain⟨n1,n2⟩:=G5 (p:=13);exact⟨by rw[exp2,k1,m1,n1,h1];omega,by rw[exp2,k2,m2,n2,h2];omega⟩
 have r1:tO 134 (lr a) 4 (jy 9 [120] (tN 13)) 8:=wI (t:=⟨5,[92],9⟩) (u:=⟨1,[120],10⟩) (v:=⟨5,[46],11⟩) rfl rfl rfl (by omega) rfl rfl rfl rfl rfl
   (wJ (t:=⟨5,[63],13⟩) rfl (by omega) rfl (.inl rfl) (rP (t:=⟨5,[63],13⟩) rfl (by omega) rfl rfl) (u:=⟨5,[41],14⟩) rfl rfl (by simp))
 have r2:tO 141 (lr a) 3 (jy 9 [120] (tN 13)) 9:=qm (t:=⟨5,[40],8⟩) rfl (by omega) rfl rfl r1 (u:=⟨5,[41],14⟩) rfl rfl rfl;have r3:tO 134 (lr a) 10 (lp 17 a) (10+3*a+1):=m6 (by omega) (w:=⟨5,[41],((18+4*a:Nat):Int)⟩) rfl (by simp) (r:=[⟨5,[59],((19+4*a:Nat):Int)⟩]) a 10 17 (by show List.drop 10 (lr a)=_;unfold lr;rfl);have r4:tO 141 (lr a) 9 (lp 17 a) (10+3*a+1+1):=qm (t:=⟨5,[40],16⟩) rfl (by omega) rfl rfl r3 hw rfl rfl;have r5:tO 134 (lr a) 3 (exp2 a) (10+3*a+1+1):=GW (t:=⟨5,[40],8⟩) rfl (by omega) rfl rfl r2 (u:=⟨5,[40],16⟩) rfl rfl rfl r4 hz rfl (by simp);exact c535f (c112f (MO (by omega)) (t:=⟨4,[108,101,116],0⟩) (u:=⟨1,[120],4⟩) (v:=⟨5,[61],6⟩) rfl rfl rfl hz (by omega) (by omega) rfl rfl rfl rfl rfl r5 rfl rfl hs.all.2.2.2.1 hs.all.1 (by omega) hd.2)
def nd(k p:Int)(s:bM)(n:Int)(l:List Ex):Ex:=⟨k,p,s,n,l,[],d9⟩
section
variable {k p n:Int} {s:bM} {y y' z z':Ex}
theorem c145k0:(aC AP).i 145 [.pv (nd k p s n []).pv] [] []=some ([.own [] 0],[],[0]):=by
 rw[aH (af:=g145) rfl (by simp[g145])];simp[g145,g145L0e,g145B0,nd,d9]
theorem c145k1:(aC AP).i 145 [.pv (nd k p s n [y]).pv] [] []=some ([.aM 0 11 1 true],[some y.cl],[]):=by
 rw[aH (af:=g145) rfl (by simp[g145])];simp[g145,g145L0e,g145B0,nd,d9]
theorem c145k2:(aC AP).i 145 [.pv (nd k p s n [y,z]).pv] [] []=some ([.aM 0 11 2 true],[some (y.cl++z.cl)],[]):=by
 rw[aH (af:=g145) rfl (by simp[g145])];simp[g145,g145L0e,g145B0,nd,d9]
def IP(k p:Int)(s:bM)(n:Int)(l:List Ex):List AV:=[.pv (vI k),.pv (vI p),.pv (.str s),.pv (vI n),.own (l.map Ex.pv) 0,.own [] 1,.pv (vI 0),.pv (.str []),.pv (vI 0),.pv (vI 0),.pv (.az [])]
theorem c374k0:(aC AP).i 374 [.pv (nd k p s n []).pv,.pv (.az [])] [] []=some ([.agg (IP k p s n [])],[],[0,0]):=by
 rw[aH (af:=g374) rfl (by simp[g374])];simp[g374,g374L0e,g374B0,nd,d9,aw,bH,cH,IP]
theorem c374k1:(aC AP).i 374 [.pv (nd k p s n [y]).pv,.pv (.az [y'.pv])] [none] []=some ([.agg (IP k p s n [y'])],[none],[1,0]):=by
 rw[aH (af:=g374) rfl (by simp[g374])];simp[g374,g374L0e,g374B0,nd,d9,aw,bH,cH,IP]
theorem c374k2:(aC AP).i 374 [.pv (nd k p s n [y,z]).pv,.pv (.az [y'.pv,z'.pv])] [none] []=some ([.agg (IP k p s n [y',z'])],[none],[2,0]):=by
 rw[aH (af:=g374) rfl (by simp[g374])];simp[g374,g374L0e,g374B0,nd,d9,aw,bH,cH,IP]
theorem c558k0:(aC AP).p 558 [(nd k p s n []).pv]=some [(nd k 0 s n []).pv]:=by
 have k1:=c145k0 (k:=k) (p:=p) (n:=n) (s:=s);have k2:=c374k0 (k:=k) (p:=p) (n:=n) (s:=s);rw[ah (af:=g558) rfl rfl (by decide)];simp[nd,IP,d9]at k1 k2;simp[g558,g558L0e,g558B0,g558L1e,g558B1,nd,d9,k1,k2]
theorem c558k1(h:(aC AP).p 558 [y.pv]=some [y'.pv]):(aC AP).p 558 [(nd k p s n [y]).pv]=some [(nd k 0 s n [y']).pv]:=by
 have k1:=c145k1 (k:=k) (p:=p) (n:=n) (s:=s) (y:=y);have k2:=c374k1 (k:=k) (p:=p) (n:=n) (s:=s) (y:=y) (y':=y');rw[ah (af:=g558) rfl rfl (by decide)];simp[nd,IP,d9]at k1 k2;simp at h;simp[g558,g558L0e,g558B0,g558L1e,g558B1,nd,d9,k1,k2,h,aw,dy,chunk]
theorem c558k2(h:(aC AP).p 558 [y.pv]=some [y'.pv])(h':(aC AP).p 558 [z.pv]=some [z'.pv]):(aC AP).p 558 [(nd k p s n [y,z]).pv]=some [(nd k 0 s n [y',z']).pv]:=by
 have k1:=c145k2 (k:=k) (p:=p) (n:=n) (s:=s) (y:=y) (z:=z);have k2:=c374k2 (k:=k) (p:=p) (n:=n) (s:=s) (y:=y) (y':=y') (z:=z) (z':=z');rw[ah (af:=g558) rfl rfl (by decide)];simp[nd,IP,d9]at k1 k2;simp at h h';simp[g558,g558L0e,g558B0,g558L1e,g558B1,nd,d9,k1,k2,h,h',aw,dy,chunk]
end
theorem MR{e:Ex}(h:Sx e):e=nd e.kind e.pos e.name e.num e.kids:=by
 cases h with
 |mk h1 h2=>
   cases e
   simp only at h1 h2;subst h1;subst h2;rfl
theorem iO{k p n:Int}{s:bM}{l:List Ex}:(nd k p s n l).strip=nd k 0 s n (l.map Ex.strip):=by rw[Ex.dw];rfl
theorem c558s{e:Ex}(h:Sx e):(aC AP).p 558 [e.pv]=some [e.strip.pv]:=by
 induction h with
 | @mk e h1 h2 h3 h4 h5 h6 h7 ih=>
   have he:=MR (.mk h1 h2 h3 h4 h5 h6 h7);rw[he,iO]
   match hk:e.kids with
   |[]=>exact c558k0
   |[y]=>exact c558k1 (ih y (by rw[hk];simp))
   |[y,z]=>exact c558k2 (ih y (by rw[hk];simp)) (ih z (by rw[hk];simp))
   |_::_::_::_=>rw[hk]at h4;simp at h4
theorem c551s{b:Bd}{y:Ex}(h:(aC AP).p 558 [b.body.pv]=some [y.pv]):(aC AP).p 551 [.agg [.az [],.az [b.pv]]]=some [.agg [.az [],.az [(⟨0,b.rc,b.name,b.sg,b.sig,y⟩:Bd).pv]]]:=by
 rw[ah (af:=g551) rfl rfl (by decide)];simp at h;simp[g551,g551L0e,g551B0,g551L2e,g551B2,Bd.dR,h,aw]
def hv:Nat→Ex
 |0=>nd 3 0 [] 7 []
 |b+1=>nd 11 0 [] 0 [hv b]
theorem G8:∀b,Sx (hv b)
 |0=>.mk rfl rfl (by simp[hv,nd]) (by simp[hv,nd]) (by simp[hv,nd]) (by simp[hv,nd]) (by simp[hv,nd])
 |b+1=>.mk rfl rfl (by simp[hv,nd]) (by simp[hv,nd]) (by simp[hv,nd]) (by simp[hv,nd]) (by simp[hv,nd,G8 b])
theorem N':(aC AP).p 20 [d9.pv,d9.pv]=some [.bool true]:=Fc.FY (k:=400) (n:=40) (by kernel_rfl)
theorem c549h:∀b,(aC AP).p 549 [(hv b).pv]=some [.bool true]
 |0=>by
   have k:=N';have c:(aC AP).p 145 [(nd 3 0 [] 7 []).pv]=some [.az []]:=c145 (G8 0).all.1;rw[ah (af:=g549) rfl rfl (by decide)];simp[d9]at k;simp[nd,d9]at c;simp[g549,hv,nd,d9,k,c,g549L0e,g549B0,g549L2e,g549B2]
 |b+1=>by
   have k:=N';have ih:=c549h b;have c:(aC AP).p 145 [(nd 11 0 [] 0 [hv b]).pv]=some [.az [(hv b).pv]]:=c145 (G8 (b+1)).all.1;rw[ah (af:=g549) rfl rfl (by decide)];simp[d9]at k;simp[nd,d9]at c;simp at ih;simp[g549,hv,nd,d9,k,c,ih,g549L0e,g549B0,g549L2e,g549B2,aw]
end Go.Ab.Lw
namespace Go.Ab.Lw
open Ev
theorem MS{s:List bM}(hS:s.length<1000000000):∀(n i:Nat),s.length-i=n→i≤s.length →
   cl AP g266L0 ⟨[(0,.pv (.az (s.map .str))),(1,.pv (.az (s.map .str))),(5,.pv (vI i))],[],[],[]⟩ =
     some (.exit 0,⟨[(0,.pv (.az (s.map .str))),(1,.pv (.az (s.map .str))),(5,.pv (vI s.length)),(14,.pv (.bool false))],[],[],[]⟩)
 |0,i,hn,hi=>by
   have:i=s.length:=by omega
   subst this;rw[g266L0e];simp[g266B0]
 |n+1,i,hn,hi=>by
   have hi:i<s.length:=(by omega);obtain⟨x,hx⟩:=bl hi;have ih:=MS hS n (i+1) (by omega) (by omega);rw[g266L0e]at ih⊢;simp at ih;simp (disch:=omega) [-getElem?_pos,g266B0,hx,hi,aw];rw[g266L0e];simp[ih]
theorem c266{s:List bM}(hS:s.length<1000000000):(aC AP).p 266 [.az (s.map .str),.az (s.map .str)]=some [.bool true]:=by
 have e:=MS hS _ 0 rfl (by omega);rw[g266L0e]at e;simp at e;rw[ah (af:=g266) rfl rfl (by decide)];simp[g266,g266L0e,e]
theorem MT{a b:List Ex}(hN:a.length≤1000000)(hl:b.length=a.length)(h:∀(i:Nat) (x y:Ex),a[i]?=some x→b[i]?=some y→(aC AP).p 253 [x.pv,y.pv]=some [.bool true]):∀(n i:Nat),a.length-i=n→i≤a.length →
   cl AP g267L0 ⟨[(0,.pv (.az (a.map Ex.pv))),(1,.pv (.az (b.map Ex.pv))),(5,.pv (vI i))],[],[],[]⟩ =
     some (.exit 0,⟨[(0,.pv (.az (a.map Ex.pv))),(1,.pv (.az (b.map Ex.pv))),(5,.pv (vI a.length)),(14,.pv (.bool false))],[],[],[]⟩)
 |0,i,hn,hi=>by
   have:i=a.length:=by omega
   subst this;rw[g267L0e];simp[g267B0]
 |n+1,i,hn,hi=>by
   have hi:i<a.length:=(by omega);have hib:i<b.length:=(by omega);obtain⟨x,hx⟩:=bl hi;obtain⟨y,hy⟩:=bl hib;have k:=h i x y hx hy;have ih:=MT hN hl h n (i+1) (by omega) (by omega);rw[g267L0e]at ih⊢;simp at ih k;simp (disch:=omega) [-getElem?_pos,g267B0,hx,hy,hi,hib,k,aw];rw[g267L0e];simp[ih]
theorem c267{a b:List Ex}(hN:a.length≤1000000)(hl:b.length=a.length)(h:∀(i:Nat) (x y:Ex),a[i]?=some x→b[i]?=some y→(aC AP).p 253 [x.pv,y.pv]=some [.bool true]):(aC AP).p 267 [.az (a.map Ex.pv),.az (b.map Ex.pv)]=some [.bool true]:=by
 have e:=MT hN hl h _ 0 rfl (by omega);rw[g267L0e]at e;simp at e;rw[ah (af:=g267) rfl rfl (by decide)];simp[g267,hl,g267L0e,e]
theorem DQ{a b:Ex}(h:a.strip=b.strip):b.kind=a.kind∧b.name=a.name∧b.num=a.num∧b.ty=a.ty∧b.kids.length=a.kids.length∧b.aB.map (fun x=>(x.dx,x.vars))=a.aB.map (fun x=>(x.dx,x.vars))∧b.ch.map Ex.strip=a.ch.map Ex.strip:=by
 rw[Ex.dw,Ex.dw b]at h;simp only[Ex.mk.injEq,true_and]at h;obtain⟨h1,h2,h3,h4,h5,h6⟩:=h;have e1:=congrArg (List.map fun x:Ar=>(x.dx,x.vars)) h5;have e2:=congrArg (List.map fun x:Ar=>x.body) h5;simp only[List.map_map,Function.comp_def]at e1 e2;refine⟨h1.symm,h2.symm,h3.symm,h6.symm,?_,e1.symm,?_⟩
 ·have:=congrArg List.length h4;simpa using this.symm
 ·simp only[Ex.ch,List.map_append,List.map_map,Function.comp_def];rw[h4,e2]
theorem MU{a b:Ex}(hN:a.aB.length≤1000)(hv:∀x∈a.aB,x.vars.length≤1000)(he:b.aB.map (fun x=>(x.dx,x.vars))=a.aB.map (fun x=>(x.dx,x.vars))):∀(n i:Nat),a.aB.length-i=n→i≤a.aB.length →
   cl AP g253L0 ⟨[(2,.aK 2 0),(3,.aK 3 0),(5,.pv (vI i))],[(2,a.cl),(3,b.cl)],[],[]⟩ =
     some (.exit 0,⟨[(2,.aK 2 0),(3,.aK 3 0),(5,.pv (vI a.aB.length)),(55,.pv (.bool false))],[(2,a.cl),(3,b.cl)],[],[]⟩)
 |0,i,hn,hi=>by
   have:i=a.aB.length:=by omega
   subst this;rw[g253L0e];simp[g253B0]
 |n+1,i,hn,hi=>by
   have hl:b.aB.length=a.aB.length:=by have:=congrArg List.length he;simpa using this
   have hi:i<a.aB.length:=(by omega);have hib:i<b.aB.length:=(by omega);obtain⟨x,hx⟩:=bl hi;obtain⟨y,hy⟩:=bl hib
   have hxy:y.dx=x.dx∧y.vars=x.vars:=by
     have:=congrArg (fun l=>l[i]?) he;simp only[List.getElem?_map,hx,hy,Option.map_some,Option.some.injEq,Prod.mk.injEq]at this;exact this
   obtain⟨hc,hvv⟩:=hxy;have k:=c266 (s:=x.vars) (by have:=hv x (bE hx);omega);have ih:=MU hN hv he n (i+1) (by omega) (by omega);rw[g253L0e]at ih⊢;simp at ih k;simp (disch:=omega) [-getElem?_pos,g253B0,hx,hy,hi,hib,hc,hvv,k,aw];rw[g253L0e];simp[ih]
theorem c253(a:Ex):∀b:Ex,a.Ok→b.Ok→a.strip=b.strip→(aC AP).p 253 [a.pv,b.pv]=some [.bool true]:=by
 refine Ex.recC (p:=fun a=>∀b:Ex,a.Ok→b.Ok→a.strip=b.strip→(aC AP).p 253 [a.pv,b.pv]=some [.bool true]) ?_ a;intro a ih b ha hb h;obtain⟨h1,h2,h3,h4,h5,h6,h7⟩:=DQ h;have hla:b.aB.length=a.aB.length:=by have:=congrArg List.length h6;simpa using this
 have hlc:b.ch.length=a.ch.length:=by have:=congrArg List.length h7;simpa using this
 have hN:a.ch.length≤1000000:=by rw[Ex.c_];have:=ha.k;have:=ha.a;omega
 have k1:=c20 (a:=a.ty) (b:=b.ty) ha.t;rw[h4,decide_eq_true rfl]at k1;have k2:=c145 ha;have k3:=c145 hb
 have k4:=c267 (a:=a.ch) (b:=b.ch) hN hlc (fun i x y hx hy=>by
   refine ih x (bE hx) y (ha.c x (bE hx)) (hb.c y (bE hy)) ?_;have:=congrArg (fun l=>l[i]?) h7;simp only[List.getElem?_map,hx,hy,Option.map_some,Option.some.injEq]at this;exact this.symm)
 have e:=MU ha.a ha.v h6 _ 0 rfl (by omega);rw[ah (af:=g253) rfl rfl (by decide)];rw[g253L0e]at e;simp[h1,h2,h3,h4]at e k1 k2 k3 k4;simp[g253,h1,h2,h3,h4,h5,hla,k1,g253L0e,e,k2,k3,k4]
def Oa(ds:List Dt):Prop:=ds.length≤1000∧∀d∈ds,d.params.length≤1000∧d.cons.length≤1000∧∀c∈d.cons,Sm c.fields∧∀t∈c.fields,t.Ok
def MV(bs:List Bd):Prop:=bs.length≤1000∧∀b∈bs,b.sig.Ok∧b.body.Ok
theorem Jv{P Q:List AV}{x y:Dt}{i:Nat}(hN:x.cons.length≤1000)(hf:∀c∈x.cons,Sm c.fields∧∀t∈c.fields,t.Ok)(he:y.cons.map dn.p0=x.cons.map dn.p0)
   (hP:∃a b,P=fh a b) (hQ:∃a b,Q=fh a b):∀(n k:Nat),x.cons.length-k=n→k≤x.cons.length →
   cl AP g538L1 ⟨[(2,.aK 2 0),(3,.aK 3 0),(5,.pv (vI i)),(6,.aK 6 0),(7,.aK 7 0),(8,.pv (vI k))],[(2,P),(3,Q),(6,x.cells.map .pv),(7,y.cells.map .pv)],[],[]⟩ =
     some (.exit 2,⟨[(2,.aK 2 0),(3,.aK 3 0),(5,.pv (vI i)),(6,.aK 6 0),(7,.aK 7 0),(8,.pv (vI x.cons.length)),(71,.pv (.bool false))],[(2,P),(3,Q),(6,x.cells.map .pv),(7,y.cells.map .pv)],[],[]⟩)
 |0,k,hn,hk=>by
   have:k=x.cons.length:=by omega
   subst this;obtain⟨a,b,rfl⟩:=hP;obtain⟨c,d,rfl⟩:=hQ;rw[g538L1e];simp[g538B1,fh,Dt.cells]
 |n+1,k,hn,hk=>by
   have hl:y.cons.length=x.cons.length:=by have:=congrArg List.length he;simpa using this
   have hk:k<x.cons.length:=(by omega);have hkb:k<y.cons.length:=(by omega);obtain⟨u,hu⟩:=bl hk;obtain⟨v,hv⟩:=bl hkb
   have huv:v.name=u.name∧v.fields=u.fields:=by
     have:=congrArg (fun l=>l[k]?) he;simp only[List.getElem?_map,hu,hv,Option.map_some,Option.some.injEq,dn.p0,dn.mk.injEq,true_and]at this;exact this
   obtain⟨q1,q2⟩:=huv;obtain⟨f1,f2⟩:=hf u (bE hu);have c:=c57 (as:=u.fields) (bs:=u.fields) f1 fun t ht y=>c20 (f2 t ht)
   have ih:=Jv (i:=i) hN hf he hP hQ n (k+1) (by omega) (by omega);obtain⟨a,b,rfl⟩:=hP;obtain⟨a',b',rfl⟩:=hQ;rw[g538L1e]at ih⊢;simp[fh,Dt.cells]at ih c;simp (disch:=omega) [-getElem?_pos,g538B1,fh,Dt.cells,hu,hv,hk,hkb,q1,q2,c,aw];rw[g538L1e];simp[ih]
theorem Jw{ds es:List Dt}{bs cs:List Bd}(H:Oa ds)(he:es.map Dt.strip=ds.map Dt.strip):∀(n i:Nat),ds.length-i=n→i≤ds.length →
   cl AP g538L0 ⟨[(2,.aK 2 0),(3,.aK 3 0),(5,.pv (vI i))],[(2,fh ds bs),(3,fh es cs)],[],[]⟩ =
     some (.exit 0,⟨[(2,.aK 2 0),(3,.aK 3 0),(5,.pv (vI ds.length)),(32,.pv (.bool false))],[(2,fh ds bs),(3,fh es cs)],[],[]⟩)
 |0,i,hn,hi=>by
   have:i=ds.length:=by omega
   subst this;rw[g538L0e];simp[g538B0,fh]
 |n+1,i,hn,hi=>by
   have hN:=H.1;have hl:es.length=ds.length:=by have:=congrArg List.length he;simpa using this
   have hi:i<ds.length:=(by omega);have hib:i<es.length:=(by omega);obtain⟨x,hx⟩:=bl hi;obtain⟨y,hy⟩:=bl hib
   have hxy:y.name=x.name∧y.params=x.params∧y.cons.map dn.p0=x.cons.map dn.p0:=by
     have:=congrArg (fun l=>l[i]?) he;simp only[List.getElem?_map,hx,hy,Option.map_some,Option.some.injEq,Dt.strip,Dt.mk.injEq,true_and]at this;exact this
   obtain⟨q1,q2,q3⟩:=hxy;obtain⟨p1,p2,p3⟩:=H.2 x (bE hx);have hlc:y.cons.length=x.cons.length:=by have:=congrArg List.length q3;simpa using this
   have c:=c266 (s:=x.params) (by omega);have e:=Jv (P:=fh ds bs) (Q:=fh es cs) (i:=i) p2 p3 q3 ⟨_,_,rfl⟩ ⟨_,_,rfl⟩ _ 0 rfl (by omega);have ih:=Jw (bs:=bs) (cs:=cs) H he n (i+1) (by omega) (by omega);rw[g538L1e]at e;rw[g538L0e]at ih⊢;simp[fh,Dt.cells,q1,q2]at ih c e;simp (disch:=omega) [-getElem?_pos,g538B0,fh,hx,hy,hi,hib,q1,q2,hlc,c,aw,g538L1e,e];rw[g538L0e];simp[ih]
theorem Jx{ds es:List Dt}{bs cs:List Bd}(H:MV bs)(H2:MV cs)(he:cs.map Bd.strip=bs.map Bd.strip):∀(n i:Nat),bs.length-i=n→i≤bs.length →
   cl AP g538L2 ⟨[(2,.aK 2 0),(3,.aK 3 0),(9,.pv (vI i))],[(2,fh ds bs),(3,fh es cs)],[],[]⟩ =
     some (.exit 4,⟨[(2,.aK 2 0),(3,.aK 3 0),(9,.pv (vI bs.length)),(107,.pv (.bool false))],[(2,fh ds bs),(3,fh es cs)],[],[]⟩)
 |0,i,hn,hi=>by
   have:i=bs.length:=by omega
   subst this;rw[g538L2e];simp[g538B2,fh]
 |n+1,i,hn,hi=>by
   have hN:=H.1;have hl:cs.length=bs.length:=by have:=congrArg List.length he;simpa using this
   have hi:i<bs.length:=(by omega);have hib:i<cs.length:=(by omega);obtain⟨x,hx⟩:=bl hi;obtain⟨y,hy⟩:=bl hib
   have hxy:y.rc=x.rc∧y.name=x.name∧y.sg=x.sg∧y.sig=x.sig∧y.body.strip=x.body.strip:=by
     have:=congrArg (fun l=>l[i]?) he;simp only[List.getElem?_map,hx,hy,Option.map_some,Option.some.injEq,Bd.strip,Bd.mk.injEq,true_and]at this;exact this
   obtain⟨q1,q2,q3,q4,q5⟩:=hxy;obtain⟨p1,p2⟩:=H.2 x (bE hx);have c1:=c20 (a:=x.sig) (b:=x.sig) p1;rw[decide_eq_true rfl]at c1;have c2:=c253 x.body y.body p2 (H2.2 y (bE hy)).2 q5.symm;have ih:=Jx (ds:=ds) (es:=es) H H2 he n (i+1) (by omega) (by omega);rw[g538L2e]at ih⊢;simp[fh]at ih c1 c2;simp (disch:=omega) [-getElem?_pos,g538B2,fh,hx,hy,hi,hib,q1,q2,q3,q4,c1,c2,aw];rw[g538L2e];simp[ih]
theorem c538{ds es:List Dt}{bs cs:List Bd}(H:Oa ds)(K:MV bs)(K2:MV cs)(h1:es.map Dt.strip=ds.map Dt.strip)(h2:cs.map Bd.strip=bs.map Bd.strip) :
   (aC AP).p 538 [.agg [.az (ds.map Dt.pv),.az (bs.map Bd.pv)],.agg [.az (es.map Dt.pv),.az (cs.map Bd.pv)]]=some [.bool true]:=by
 have l1:es.length=ds.length:=by have:=congrArg List.length h1;simpa using this
 have l2:cs.length=bs.length:=by have:=congrArg List.length h2;simpa using this
 have e1:=Jw (bs:=bs) (cs:=cs) H h1 _ 0 rfl (by omega);have e2:=Jx (ds:=ds) (es:=es) K K2 h2 _ 0 rfl (by omega);rw[ah (af:=g538) rfl rfl (by decide)];rw[g538L0e]at e1;rw[g538L2e]at e2;simp[fh]at e1 e2;simp[g538,l1,l2,g538L0e,e1,g538L2e,e2]
def pt(x:Ex)(p:List Int)(e:Ex):Ex:=(Ex.ca x p e).1
theorem kq{e:Ex}{p:List Int}(h:p∈e.hl):(e.kind=10∧p=[])∨(e.kind≠10∧∃(i:Nat) (y:Ex) (q:List Int),e.ch[i]?=some y∧q∈y.hl∧p=(i:Int)::q):=by
 rw[Ex.mg]at h;split at h
 ·rename_i k;exact .inl ⟨k,by simpa using h⟩
 ·rename_i k;obtain⟨j,c,q,h1,h2,h3⟩:=tK h;rw[List.getElem?_map,Option.map_eq_some_iff]at h1;obtain⟨y,hy,rfl⟩:=h1;rw[Nat.zero_add]at h3;exact .inr ⟨k,j,y,q,hy,h2,h3⟩
theorem ml{x e y:Ex}{i:Nat}{q:List Int}(hy:e.ch[i]?=some y)(hq:q∈y.hl):pt x ((i:Int)::q) e=e.jA (e.ch.set i (pt x q y)):=by
 have hi:=(List.getElem?_eq_some_iff.1 hy).1;obtain⟨k,hk⟩:=List.getElem?_of_mem hq;have g1:=(KM x y k q hk).1;unfold pt;rw[Ex.ca,if_pos ⟨by omega,by omega⟩,Int.toNat_natCast,hy];simp only;cases hp:Ex.ca x q y with
 |mk z b=>rw[hp]at g1;simp only at g1;subst g1;rfl
theorem zW{e:Ex}{c:List Ex}(h:c.length=e.ch.length):e.jA c=⟨e.kind,e.pos,e.name,e.num,c.take e.kids.length,cV e.aB (c.drop e.kids.length),e.ty⟩:=by
 rw[Ex.jA,if_pos (by rw[h,Ex.c_])]
theorem wK:∀{as:List Ar} {l:List Ex},l.length=as.length→(cV as l).map (fun a=>(⟨0,a.dx,a.vars,a.body.strip⟩:Ar))=cV (as.map fun a=>(⟨0,a.dx,a.vars,a.body.strip⟩:Ar)) (l.map Ex.strip)
 |[],l,_=>by simp[mc]
 |a::as,[],h=>by simp at h
 |a::as,x::l,h=>by simp only[cV,List.map_cons,wK (as:=as) (l:=l) (by simpa using h)]
theorem DR{e:Ex}{c:List Ex}(h:c.length=e.ch.length):(e.jA c).strip=e.strip.jA (c.map Ex.strip):=by
 have l:=Ex.c_ (e:=e);have h2:(c.map Ex.strip).length=e.strip.ch.length:=by rw[fJ,List.length_map,List.length_map,h]
 rw[zW h,zW h2,Ex.dw,lj,zS,DM,ql,zR,wH];simp only[List.length_map,List.map_take];rw[wK (by simp;omega),List.map_drop,Ex.dw e]
theorem G9(x e:Ex):∀p∈e.hl,(pt x p e).strip=pt x.strip p e.strip:=by
 refine Ex.recC (p:=fun e=>∀p∈e.hl,(pt x p e).strip=pt x.strip p e.strip) ?_ e;intro e ih p hp;rcases kq hp with⟨k,rfl⟩|⟨k,i,a,p,ha,hp',rfl⟩
 ·rfl
 have ha':e.strip.ch[i]?=some a.strip:=by rw[fJ,List.getElem?_map,ha];rfl
 rw[ml ha hp',ml ha' (by rw[wD];exact hp'),DR (by simp),List.map_set,ih a (bE ha) p hp',fJ]
inductive Sy:Ex→Prop
 |ho (p:Int):Sy (nd 10 p [] 0 [])
 |i7 (p:Int):Sy (nd 3 p [] 7 [])
 |lam (p:Int) {e:Ex}:Sy e→Sy (nd 4 p [120] 0 [e])
 |app (p:Int) {e f:Ex}:Sy e→Sy f→Sy (nd 5 p [] 0 [e,f])
 |held (p:Int) {e:Ex}:Sy e→Sy (nd 11 p [] 0 [e])
theorem Sy.sx{e:Ex}(h:Sy e):Sx e:=by
 induction h with
 |ho p=>exact .mk rfl rfl (by simp[nd]) (by simp[nd]) (by simp[nd]) (by simp[nd]) (by simp[nd])
 |i7 p=>exact .mk rfl rfl (by simp[nd]) (by simp[nd]) (by simp[nd]) (by simp[nd]) (by simp[nd])
 |lam p _ ih=>exact .mk rfl rfl (by simp[nd]) (by simp[nd]) (by simp[nd]) (by simp[nd]) (by simp[nd,ih])
 |app p _ _ ih ih2=>exact .mk rfl rfl (by simp[nd]) (by simp[nd]) (by simp[nd]) (by simp[nd]) (by simp[nd,ih,ih2])
 |held p _ ih=>exact .mk rfl rfl (by simp[nd]) (by simp[nd]) (by simp[nd]) (by simp[nd]) (by simp[nd,ih])
theorem Sy.strip{e:Ex}(h:Sy e):Sy e.strip:=by
 induction h with
 |ho p=>rw[iO];exact .ho 0
 |i7 p=>rw[iO];exact .i7 0
 |lam p _ ih=>rw[iO];exact .lam 0 ih
 |app p _ _ ih ih2=>rw[iO];exact .app 0 ih ih2
 |held p _ ih=>rw[iO];exact .held 0 ih
theorem gj{k p n:Int}{s:bM}{l:List Ex}:(nd k p s n l).ch=l:=by simp[Ex.ch,nd]
theorem zX{k p n:Int}{s:bM}{l m:List Ex}(h:m.length=l.length):(nd k p s n l).jA m=nd k p s n m:=by
 rw[zW (by rw[gj];exact h)];simp only[nd,mc];rw[List.take_of_length_le (by omega)]
theorem Sy.pt{x e:Ex}(hx:Sy x)(h:Sy e):∀p∈e.hl,Sy (Lw.pt x p e):=by
 induction h with
 |ho p=>
   intro q hq;rcases kq hq with⟨_,rfl⟩|⟨k,_⟩
   ·exact hx
   ·exact absurd rfl k
 |i7 p=>
   intro q hq;rcases kq hq with⟨k,_⟩|⟨_,i,y,r,hy,_,_⟩
   ·simp[nd]at k
   ·rw[gj]at hy;simp at hy
 |lam p _ ih=>
   intro q hq;rcases kq hq with⟨k,_⟩|⟨_,i,y,r,hy,hr,rfl⟩
   ·simp[nd]at k
   · rw[ml hy hr,gj,zX (by simp)];rw[gj]at hy
     match i,hy with
     |0,hy=>simp at hy;subst hy;exact .lam p (ih r hr)
 |held p _ ih=>
   intro q hq;rcases kq hq with⟨k,_⟩|⟨_,i,y,r,hy,hr,rfl⟩
   ·simp[nd]at k
   · rw[ml hy hr,gj,zX (by simp)];rw[gj]at hy
     match i,hy with
     |0,hy=>simp at hy;subst hy;exact .held p (ih r hr)
 |app p h1 h2 ih ih2=>
   intro q hq;rcases kq hq with⟨k,_⟩|⟨_,i,y,r,hy,hr,rfl⟩
   ·simp[nd]at k
   · rw[ml hy hr,gj,zX (by simp)];rw[gj]at hy
     match i,hy with
     |0,hy=>simp at hy;subst hy;exact .app p (ih r hr) h2
     |1,hy=>simp at hy;subst hy;exact .app p h1 (ih2 r hr)
theorem NO:(aC AP).p 256 [vI 7]=some [.str [55]]:=Fc.FY (k:=400) (n:=40) (by kernel_rfl)
theorem NP:(aC AP).p 255 [vI 7]=some [.str [55]]:=by
 rw[Af wG.MI rfl];simp[lX,Lib.itoa,Lib.decDigits]
theorem Sy.NQ{e:Ex}(h:Sy e):e.sz≤50000000→GQ AP e:=by
 induction h with
 |ho p=>exact fun _=>IJ wG (.inr (.inr rfl))
 |i7 p=>
   intro _;have k1:=NP;have k2:=NO;have hz:=(nd 3 p [] 7 []).jZ;refine⟨[55],by simp;omega,?_,?_⟩
   ·rw[ah (af:=g248) rfl rfl (by decide)];simp[g248,nd,d9,k1]
   ·rw[ah (af:=g249) rfl rfl (by decide)];simp[g249,nd,d9,k2]
 | @lam p e _ ih=>exact fun hS=>IK wG rfl (by simp[nd]) rfl hS (ih (by have:=tM (e:=nd 4 p [120] 0 [e]) rfl;omega))
 | @app p e f _ _ ih ih2=>exact fun hS=>IL wG rfl rfl hS (ih (by have:=zQ (e:=nd 5 p [] 0 [e,f]) rfl;omega)) (ih2 (by have:=zQ (e:=nd 5 p [] 0 [e,f]) rfl;omega))
 | @held p e _ ih=>exact fun hS=>GR wG rfl rfl hS (ih (by have:=tM (e:=nd 11 p [] 0 [e]) rfl;omega))
open Classical in
noncomputable def MW(e:Ex):bM:=if h:GQ AP e then h.choose else []
theorem zY{e:Ex}(h:GQ AP e):(MW e).length+10≤2000000*e.sz∧(aC AP).p 248 [e.pv]=some [.str (MW e)]∧(aC AP).p 249 [e.pv]=some [.str (MW e)]:=by
 unfold MW;rw[dif_pos h];exact h.choose_spec
noncomputable def oh(l:List Bd):bM:=match l with
 |[b]=>[108,101,116,32]++(b.name++([32,61,32]++(MW b.body++[59,10])))
 |_=>[]
section
variable {e:Ex} (h:Sy e) (hs:e.sz≤100)
include h hs
theorem AO:(oh [gi e]).length≤130000000000000:=by
 have:=(zY (h.NQ (by omega))).1;simp[oh,gi];omega
theorem IQ:(aC AP).p 311 [.agg [.az [],.az [(gi e).pv]]]=some [.str (oh [gi e])]:=by
 obtain⟨l,k1,_⟩:=zY (h.NQ (by omega));have hl:=AO h hs
 have k2:(aC AP).p 337 [(gi e).pv]=some [.str (oh [gi e])]:=by
   rw[ah (af:=g337) rfl rfl (by decide)];simp at k1;simp (disch:=first|omega|(simp only[List.length_append,List.length_cons,List.length_nil];omega)) [-dG,ff,g337,gi,oh,d9,k1]
 rw[sA (f:=F4 336 337) (af:=g311) rfl rfl];have q2:[(gi e).pv].all (eM 20)=true:=by simp[eM,da]
 simp only[F4,rz];rw[if_pos ⟨by simp,q2,by simp,by simp⟩];simp only[jU,k2,Option.map_some];simp only[List.nil_append,List.append_nil];rw[if_pos (by omega)]
theorem IS:(aC AP).p 312 [.agg [.az [],.az [(gi e).pv]]]=some [.str (oh [gi e])]:=by
 obtain⟨l,_,k1⟩:=zY (h.NQ (by omega));rw[ah (af:=g312) rfl rfl (by decide)];simp at k1;simp (disch:=first|omega|(simp only[List.length_append,List.length_cons,List.length_nil];omega)) [-dG,ff,g312,g312L0e,g312B0,g312L4e,g312B4,Bd.dR,gi,oh,d9,k1,aw]
end
end Go.Ab.Lw
namespace Go.Ab.Lw
open Ev
def G_(F G:wQ):wQ:=if F.1≠0 then F else G
theorem MX{ds:List Dt}{names:List bM}{e:Ex}(he:rL e)(hn:names.length≤900000000)
   (ih:∀i,∀x∈e.ch,(aC AP).p 366 [.az (ds.map Dt.pv),.az ((names++cN e i).map .str),x.pv]=some [fP (x.aI ds (names++cN e i))]):∀(n i:Nat),e.ch.length-i=n→i≤e.ch.length→∀F:wQ,(F.1=0→F=(0,0))→∃j:Int,
   cl AP g366L0 ⟨[(0,.pv (.az (ds.map Dt.pv))),(1,.pv (.az (names.map .str))),(5,.aK 5 0),(6,.aK 6 0),(7,.aK 7 0),(12,.pv (.az (e.ch.map Ex.pv))),(13,.pv (vI i))],[(5,e.cl),(6,m2 (0,0)),(7,m2 F)],[],[]⟩ =
     some (.exit 1,⟨[(0,.pv (.az (ds.map Dt.pv))),(1,.pv (.az (names.map .str))),(5,.aK 5 0),(6,.aK 6 0),(7,.aK 7 0),(12,.pv (.az (e.ch.map Ex.pv))),(13,.pv (vI j)),(69,.pv (.bool false))],[(5,e.cl),(6,m2 (0,0)),(7,m2 (G_ F (mW (fun i x=>x.aI ds (names++cN e i)) i (e.ch.drop i))))],[],[]⟩)
 |0,i,hk,hi,F,hF=>by
   have:i=e.ch.length:=by omega
   subst this;refine⟨e.ch.length,?_⟩;rw[List.drop_length]
   have:G_ F (mW (fun i x=>x.aI ds (names++cN e i)) e.ch.length [])=F:=by
     unfold G_;split
     ·rfl
     ·rename_i q;exact (hF (by simpa using q)).symm
   rw[this];generalize e.ch=C;rw[g366L0e];simp[g366B0]
 |n+1,i,hk,hi,F,hF=>by
   have hi:i<e.ch.length:=(by omega);by_cases hF0:F.1=0
   · obtain⟨x,hx⟩:=bl hi;have hlen:=Ex.c_ (e:=e);have hk1:=he.ok.k;have hk2:=he.ok.a;obtain⟨j,hr⟩:=MX he hn ih n (i+1) (by omega) (by omega) (x.aI ds (names++cN e i)) wB;refine⟨j,?_⟩;have k1:=c380 hi he.one.h he.ok;have hbl:=gX he.ok (i:=i);have hb:(names.length+(cN e i).length)*16≤140737488355328:=by omega
     have hb1:names.length*16≤140737488355328:=(by omega);have hb2:(cN e i).length*16≤140737488355328:=(by omega);have k3:=ih i x (bE hx);rw[aX hx]
     have hor:G_ F (mW (fun i x=>x.aI ds (names++cN e i)) i (x::e.ch.drop (i+1)))=G_ (x.aI ds (names++cN e i)) (mW (fun i x=>x.aI ds (names++cN e i)) (i+1) (e.ch.drop (i+1))):=by
       simp only[G_,mW,hF0];simp
     rw[hor];clear hor;generalize hG:G_ (x.aI ds (names++cN e i)) (mW (fun i x=>x.aI ds (names++cN e i)) (i+1) (e.ch.drop (i+1)))=G at *;generalize hFF:x.aI ds (names++cN e i)=FF at *;clear ih hG;have hF':=hF hF0;subst hF';generalize cN e i=B at *;generalize e.ch=C at *;rw[g366L0e]at hr⊢;simp at k1 k3 hr;by_cases h1:names=[]
     · subst h1;simp only[List.map_nil]at hr;by_cases h2:B=[]
       ·subst h2;simp at k3;simp (disch:=omega) [-getElem?_pos,g366B0,hi,hx,k1,k3,aw];rw[g366L0e];simp[hr]
       ·simp at k3;simp (disch:=omega) [-getElem?_pos,g366B0,hi,hx,k1,k3,h2,hb2,aw];rw[g366L0e];simp[hr]
     · by_cases h2:B=[]
       ·subst h2;simp at k3;simp (disch:=omega) [-getElem?_pos,g366B0,hi,hx,k1,k3,h1,hb1,aw];rw[g366L0e];simp[hr]
       ·simp (disch:=omega) [-getElem?_pos,g366B0,hi,hx,k1,k3,h1,h2,hb,hb1,aw];rw[g366L0e];simp[hr]
   · refine⟨i,?_⟩;have:G_ F (mW (fun i x=>x.aI ds (names++cN e i)) i (e.ch.drop i))=F:=by simp[G_,hF0]
     rw[this];generalize e.ch=C at *;rw[g366L0e];simp[g366B0,hi,hF0]
theorem c366{ds:List Dt}(hS:Sm ds)(hc:∀d∈ds,Sm d.cons):∀(n:Nat) {e:Ex},rL e→e.tF n→∀names:List bM,names.length+1000*n≤900000000→(aC AP).p 366 [.az (ds.map Dt.pv),.az (names.map .str),e.pv]=some [fP (e.aI ds names)]
 |0,e,_,hh,_,_=>by cases hh
 |n+1,e,he,hh,names,hl=>by
   have ih:∀i,∀x∈e.ch,(aC AP).p 366 [.az (ds.map Dt.pv),.az ((names++cN e i).map .str),x.pv]=some [fP (x.aI ds (names++cN e i))]:=fun i x hx=>
     c366 hS hc n (he.c hx) (hh.c x hx) _ (by have:=gX he.ok (i:=i);simp;omega)
   obtain⟨j,h⟩:=MX he (by omega) ih _ 0 rfl (by omega) (dP ds names e) zJ;have k1:=c145 he.ok;rw[List.drop_zero]at h;rw[Ex.zI]
   change _=some [fP (G_ (dP ds names e) (mW (fun i x=>x.aI ds (names++cN e i)) 0 e.ch))]
   clear ih;have k2:=c364 (s:=names) (by unfold Sm;omega) (y:=e.name);have k3:=c191 hS hc (s:=e.name);have k4:=c379 hS hc he.ok;have k5:=c186 hS (l:=[]) (by simp[Sm]) he.ok.t he.cw.h;have f9:=c365 (a:=9) (b:=e.pos);have fT:=c365 (a:=e.ty.formed ds []) (b:=e.pos);generalize G_ (dP ds names e) (mW (fun i x=>x.aI ds (names++cN e i)) 0 e.ch)=G at *;generalize e.ch=C at *;rw[ah (af:=g366) rfl rfl (by decide)];rw[g366L0e]at h;simp at k1 k2 k3 k4 k5 f9 fT;generalize hQ:kI ds e=Q at *;generalize hT:e.ty.formed ds []=T at *;by_cases q1:e.kind=1
   · simp only[q1]at k1;by_cases q2:e.name∈names
     ·simp[dP,q1,q2]at h;simp[q2]at k2;simp[g366,q1,k1,k2,g366L0e,h]
     ·simp[dP,q1,q2]at h;simp[q2]at k2;simp[g366,q1,k1,k2,f9,g366L0e,h]
   · by_cases q3:e.kind=2
     · simp only[q3]at k1;cases q4:jl ds e.name 0 with
       |none=>
         rw[q4]at k3;simp[rF]at k3;simp[dP,q3,q4]at h;simp[g366,q3,k1,k3,f9,g366L0e,h]
       |some r=>
         rw[q4]at k3;simp[rF]at k3;simp[dP,q3,q4]at h;simp[g366,q3,k1,k3,g366L0e,h]
     · by_cases q5:e.kind=8
       ·simp only[q5]at k1;simp[q5]at k4;simp[dP,q5,hQ]at h;simp[g366,q5,k1,k4,g366L0e,h]
       · by_cases q7:e.kind=9
         · simp only[q7]at k1;by_cases q8:T=0
           ·subst q8;simp[dP,q7,hT]at h;simp[g366,q7,k1,k5,g366L0e,h]
           ·simp[dP,q7,hT,q8]at h;simp[g366,q7,q8,k1,k5,fT,g366L0e,h]
         ·simp[dP,q1,q3,q5,q7]at h;simp[g366,q1,q3,q5,q7,k1,g366L0e,h]
theorem Ha(e:Ex):e.strip.dp=e.dp:=by
 refine Ex.recC (p:=fun e=>e.strip.dp=e.dp) ?_ e;intro e ih;rw[Ex.ju,Ex.ju e,fJ,List.map_map];have:e.ch.map (Ex.dp ∘ Ex.strip)=e.ch.map Ex.dp:=List.map_congr_left fun x hx=>ih x hx
 rw[this]
theorem m7(e:Ex):e.tF e.sz:=by
 refine Ex.recC (p:=fun e=>e.tF e.sz) ?_ e;intro e ih;obtain⟨n,hn⟩:∃n,e.sz=n+1:=⟨e.sz-1,by have:=e.jZ;omega⟩;rw[hn];refine .mk fun x hx=>tI (ih x hx) ?_;have:=lh (f:=Ex.sz) hx
 have:=e.gW;omega
theorem KZ{x:Ex}(h:Sy x):x.zL=false:=by
 have hz:d9.dp=0:=by rw[Ty.ju];simp[d9,mV]
 induction h with
 |ho p=>rw[Ex.ll,gj];simp[nd,hz]
 |i7 p=>rw[Ex.ll,gj];simp[nd,hz]
 |lam p _ ih=>rw[Ex.ll,gj];simp[nd,hz,ih]
 |app p _ _ ih ih2=>rw[Ex.ll,gj];simp[nd,hz,ih,ih2]
 |held p _ ih=>rw[Ex.ll,gj];simp[nd,hz,ih]
section
variable {E x:Ex} (hE:Sy E) (hx:Sy x) (sE:E.sz≤50) (sx:x.sz≤50)
theorem IT(hE:Sy E)(sE:E.sz≤50):Nh [gi E] where
 h:=⟨by simp,fun b hb=>by simp at hb;subst hb;exact⟨hE.sx.all.1,by show E.sz≤_;omega⟩⟩
 one:=fun b hb=>by simp at hb;subst hb;exact hE.sx.all.2.1
 dp:=fun b hb p hp=>by
   simp at hb;subst hb;have:=(tL E p hp).1;omega
theorem c550s{y:Ex}(hy:Sy y)(hs:y.sz≤100):(aC AP).p 550 [y.pv]=some [.bool (decide (40<y.dp))]:=by
 have k:=c135f hy.sx.all.2.2.2.1 hy.sx.all.1 (by omega);rw[ah (af:=g550) rfl rfl (by decide)];simp at k;simp[g550,k]
include hE hx sE sx
theorem tT{p:List Int}(hp:p∈E.hl):Sy (pt x.strip p E.strip)∧(pt x.strip p E.strip).sz≤100:=by
 refine⟨hx.strip.pt hE.strip p (by rw[wD];exact hp),?_⟩;have q:=(tJ (rO hx.sx.KV) (m7 x.strip) p E.strip _ (rO hE.sx.KV) (m7 E.strip)).2.2.2;rw[wE,wE]at q;show (Ex.ca x.strip p E.strip).1.sz≤_;omega
theorem IU{h:Int}(h1:h≤9223372036854775807):GU [] oh [gi E] h x where
 d:=by simp
 dl:=by simp
 b:=IT hE sE
 h1:=h1
 sc:=hx.sx.KV
 nm:=hx.sx.all.2.2.2.2.1
 tn:=hx.sx.all.2.2.2.2.2
 hl:=by
   refine⟨x.sz,m7 x,fun i b p hb hp=>?_⟩;have k:=ko (kz [gi E] i b p);have hN:=IT hE sE;have v:=oH (hN.h.2 b (bE hb)).1 (hN.dp b (bE hb) p hp)
   have:(kz [gi E] i b p).length≤500005:=by
     unfold kz;rw[List.length_append,List.length_append,List.length_map,List.length_take];split<;>simp<;>omega
   omega
 ok:=fun i b p hb hp=>by
   have:=bE hb;simp at this;subst this;obtain⟨q1,q2⟩:=tT hE hx sE sx hp;exact⟨q1.sx.all.1,by have:(Ex.ca x.strip p E.strip).1.sz≤100:=q2;show (Ex.ca x.strip p E.strip).1.sz≤_;omega⟩
 tx:=fun i b p hb hp=>by
   have hi:=(List.getElem?_eq_some_iff.1 hb).1;have hm:=bE hb;simp at hm;subst hm;have:i=0:=(by simp at hi;exact hi);subst this;obtain⟨q1,q2⟩:=tT hE hx sE sx hp;exact⟨IQ q1 q2,AO q1 q2⟩
theorem c537s{h:Int}(h1:h≤9223372036854775807)(hv:(aC AP).p 549 [x.pv]=some [.bool x.wS]):(aC AP).p 537 [.agg [.az [],.az [(gi E).pv]],vI h,x.pv]=some (nQ [] oh [gi E] h x):=by
 have hN:=IT hE sE;have k1:=c533 (ds:=[]) hN h1;have k2:=c531 (ds:=[]) hN.h h1;unfold nQ;unfold m4 at k1;rw[ah (af:=g537) rfl rfl (by decide)];cases hf:(if h<0 then none else dq 0 [gi E] h) with
 |none=>
   rw[hf]at k1;simp[Bd.dR]at k1;simp[g537,oI,k1,Bd.dR]
 |some r=>
   obtain⟨i,p⟩:=r
   have hf':dq 0 [gi E] h=some (i,p):=by
     split at hf
     ·cases hf
     ·exact hf
   obtain⟨j,b,hj,hb,hp⟩:=iN hf';have hm:=bE hb;simp at hm;subst hm;have hi:=(List.getElem?_eq_some_iff.1 hb).1;have:j=0:=by simpa using hi
   subst this;have:i=0:=by omega
   subst this;rw[hf]at k1 k2;simp only[hb]at k1⊢;simp only[gZ,lv]at k2;have hp':p∈E.hl:=hp;obtain⟨q1,q2⟩:=tT hE hx sE sx hp';have hq:=hx.pt hE p hp';have ot:=G9 x E p hp'
   have k3:=c366 (ds:=[]) (by simp[Sm]) (by simp) x.sz hx.sx.KV (m7 x) (cU (kz [gi E] 0 (gi E) p)) (by
     have k:=ko (kz [gi E] 0 (gi E) p);have v:=oH (hN.h.2 _ (bE hb)).1 (hN.dp _ (bE hb) p hp)
     have:(kz [gi E] 0 (gi E) p).length≤500005:=by
       unfold kz;rw[List.length_append,List.length_append,List.length_map,List.length_take];split<;>simp<;>omega
     omega)
   have k4:=c359f (x:=x) p E (by have:=(tL E p hp').1;omega) hE.sx.KV
   have hsz:(pt x p E).sz≤100:=by
     have:=(tJ hx.sx.KV (m7 x) p E _ hE.sx.KV (m7 E)).2.2.2;show (Ex.ca x p E).1.sz≤_;omega
   have k5:=c550s hq hsz;have hd:(pt x p E).dp=(pt x.strip p E.strip).dp:=by rw[←ot,Ha]
   have k6:(aC AP).p 551 [.agg [.az [],.az [(gi (pt x p E)).pv]]]=some [.agg [.az [],.az [(gi (pt x.strip p E.strip)).pv]]]:=by
     rw[←ot];exact c551s (b:=gi (pt x p E)) (c558s hq.sx)
   have k7:=IS q1 q2;have e1:gh [gi E] 0 (gi E) p x=[gi (pt x.strip p E.strip)]:=rfl;have e2:(Ex.ca x.strip p (gi E).body.strip).1=pt x.strip p E.strip:=rfl;have e3:(Ex.ca x p E).1=pt x p E:=rfl;have ht:=KZ hx;rw[hd]at k5;rw[e3]at k4;rw[e1,e2,ht];clear ot hd e1 e2 e3 q1 q2 hq hsz hf hf' hN;generalize (Ex.ca x p E).2=b2 at *;generalize pt x.strip p E.strip=r at *;generalize pt x p E=y at *;generalize cU (kz [gi E] 0 (gi E) p)=N at *;generalize x.aI [] N=f at *;generalize oh [gi r]=TT at *;have yc:=Ex.bX y;simp[Bd.dR,gi,d9]at k1 k2 k4 k5 k6 k7;simp at hv k3;by_cases v1:x.wS=true
   rotate_left
   ·simp[v1]at hv;simp (disch:=omega) [-getElem?_pos,g537,oI,Bd.dR,gi,d9,k1,hv,v1]
   simp[v1]at hv;by_cases v2:f.1=0
   rotate_left
   ·simp (disch:=omega) [-getElem?_pos,g537,oI,Bd.dR,gi,d9,k1,hv,v1,k3,v2]
   by_cases v3:40<r.dp
   ·simp[v3]at k5;simp (disch:=omega) [-getElem?_pos,g537,oI,Bd.dR,gi,d9,k1,k2,hv,v1,k3,v2,k4,k5,v3]
   simp[v3]at k5;by_cases v4:4000<TT.length
   ·have v4':(4000:Int)<TT.length:=(by omega);simp (disch:=omega) [-getElem?_pos,g537,oI,Bd.dR,gi,d9,k1,k2,hv,v1,k3,v2,k4,k5,v3,k6,k7,v4,v4',yc,dy,chunk]
   ·have v4':¬(4000:Int)<TT.length:=(by omega);simp (disch:=omega) [-getElem?_pos,g537,oI,Bd.dR,gi,d9,k1,k2,hv,v1,k3,v2,k4,k5,v3,k6,k7,v4,v4',yc,dy,chunk]
end
end Go.Ab.Lw
namespace Go.Ab.Lw
open Ev
def MY(k p:Int)(s:bM):List PV:=[.int .i64 k,.int .i64 p,.str s,.int .i64 0,.az [],.az [],.int .i64 0,.str [],.int .i64 0,.int .i64 0,.az []]
def Ni(b:List PV):PV:=.agg [.az [],.az [
 .agg ([.int .i64 0,.bool false,.str [120],.bool false,.int .i64 0,.str [],.int .i64 0,.int .i64 0,.az []]++MY 10 8 []),
 .agg ([.int .i64 11,.bool false,.str [121],.bool false,.int .i64 0,.str [],.int .i64 0,.int .i64 0,.az []]++[.int .i64 4,.int .i64 19,.str [120],.int .i64 0,.az [.agg b],.az [],.int .i64 0,.str [],.int .i64 0,.int .i64 0,.az []])]]
def Nj(b:UInt8):bM:=[108,101,116,32,120,32,61,32,63,59,32,108,101,116,32,121,32,61,32,92,120,46,32,b,59]
theorem c535a:(aC AP).p 535 [.str (Nj 63)]=some [Ni (MY 10 23 [])]:=Fc.FY (k:=400) (n:=40) (by kernel_rfl)
theorem c535b:(aC AP).p 535 [.str (Nj 120)]=some [Ni (MY 1 23 [120])]:=Fc.FY (k:=400) (n:=40) (by kernel_rfl)
def Ob(g:Nat)(x:List PV):Option (List PV):=if g=535 then match x with
 |[.str s]=>if s=Nj 63 then some [Ni (MY 10 23 [])] else if s=Nj 120 then some [Ni (MY 1 23 [120])] else none
 |_=>none
 else none
theorem K0:∀g x r,Ob g x=some r→(aC AP).p g x=some r:=by
 intro g x r h;unfold Ob at h;split at h
 · rename_i e;subst e;split at h
   · split at h
     ·rename_i e;subst e;rw[←h];exact c535a
     · split at h
       ·rename_i e;subst e;rw[←h];exact c535b
       ·cases h
   ·cases h
 ·cases h
theorem c527:(aC AP).p 527 []=some [.bool true]:=Fc.LS (k:=400) (n:=40) K0 (by kernel_rfl)
theorem Hb{ds:List Dt}{T:List Bd→bM}{bs:List Bd}{h:Int}{x:Ex}:(∃er:Int,er≠0∧nQ ds T bs h x=[oI,vI er]) ∨
   ∃(i:Nat) (b:Bd) (p:List Int),bs[i]?=some b∧p∈b.body.hl∧nQ ds T bs h x=[.agg [.az ((ds.map Dt.strip).map Dt.pv),.az ((gh bs i b p x).map Bd.pv)],vI 0]:=by
 unfold nQ;cases he:(if h<0 then none else dq 0 bs h) with
 |none=>exact .inl ⟨16,by omega,rfl⟩
 |some r=>
   obtain⟨i,p⟩:=r
   have hf':dq 0 bs h=some (i,p):=by
     split at he
     ·cases he
     ·exact he
   obtain⟨j,b,hj,hb,hp⟩:=iN hf';have:j=i:=by omega
   subst this;simp only[hb];split
   ·exact .inl ⟨17,by omega,rfl⟩
   split
   ·rename_i q;exact .inl ⟨_,q,rfl⟩
   split
   ·exact .inl ⟨4,by omega,rfl⟩
   split
   ·exact .inl ⟨4,by omega,rfl⟩
   split
   ·exact .inl ⟨1,by omega,rfl⟩
   exact .inr ⟨j,b,p,hb,hp,rfl⟩
theorem tU:∀(a p:Nat),Sy (lp p a)
 |0,p=>.ho p
 |a+1,p=>.lam p (tU a (p+4))
theorem K1(a:Nat):Sy (exp2 a):=.app 9 (.lam 9 (.ho 13)) (tU a 17)
theorem K3(a:Nat):(exp2 a).sz=a+4:=by
 obtain⟨h1,h2⟩:=mj a 17;obtain⟨k1,k2,_⟩:=GZ (p:=9) (e:=jy 9 [120] (tN 13)) (f:=lp 17 a);obtain⟨m1,m2,_⟩:=zV (p:=9) (e:=tN 13);obtain⟨n1,n2⟩:=G5 (p:=13);rw[exp2,k1,m1,n1,h1];omega
theorem Jy:∀b,Sy (hv b)
 |0=>.i7 0
 |b+1=>.held 0 (Jy b)
theorem Jz:∀b,(hv b).sz=b+1
 |0=>by rw[hv,Ex.gW,gj];simp
 |b+1=>by rw[hv,Ex.gW,gj];simp[Jz b];omega
theorem Hc:∀b,(hv b).wS=true
 |0=>by rw[hv,Ex.zM,gj];simp[nd,eU,Ex.KQ]
 |b+1=>by rw[hv,Ex.zM,gj];simp[nd,eU,Ex.KQ,Hc b]
theorem JA{m n:PV}{a:Nat}(ha:a≤40):∀(k i:Nat),a-i=k→i≤a →
   cl AP g523L0 ⟨[(1,.pv m),(2,.pv n),(7,.pv (.str (og i++[63]))),(8,.pv (vI a)),(9,.pv (vI i))],[],[],[]⟩ =
     some (.exit 0,⟨[(1,.pv m),(2,.pv n),(7,.pv (.str (og a++[63]))),(8,.pv (vI a)),(9,.pv (vI a)),(25,.pv (.bool false))],[],[],[]⟩)
 |0,i,hk,hi=>by
   have:i=a:=by omega
   subst this;rw[g523L0e];simp[g523B0]
 |k+1,i,hk,hi=>by
   have hi:i<a:=(by omega);have ih:=JA (m:=m) (n:=n) ha k (i+1) (by omega) (by omega);have hl:=j3 i;rw[g523L0e]at ih⊢;simp[og]at ih;simp (disch:=first|omega|(simp only[List.length_append,List.length_cons,List.length_nil];omega)) [-dG,ff,g523B0,hi,aw];rw[g523L0e];simp[ih]
def IV(j:Nat):List AV:=[.pv (vI 11),.pv (vI 0),.pv (.str []),.pv (vI 0),.own [(hv j).pv] 0,.own [] 1,.pv (vI 0),.pv (.str []),.pv (vI 0),.pv (vI 0),.own [] 2]
theorem JB{P:List PV}{b:Nat}(hb:b≤40):∀(k j:Nat),b-(j+1)=k→j+1≤b →
   cl AP g523L1 ⟨[(10,.aK 10 0),(11,.aK 11 0),(12,.pv (vI b)),(13,.pv (vI (j+1:Nat)))],[(10,[.pv (.az []),.pv (.az P)]),(11,IV j)],[],[1,0,0]⟩ =
     some (.exit 2,⟨[(10,.aK 10 0),(11,.aK 11 0),(12,.pv (vI b)),(13,.pv (vI b)),(43,.pv (.bool false))],[(10,[.pv (.az []),.pv (.az P)]),(11,IV (b-1))],[],[1,0,0]⟩)
 |0,j,hk,hi=>by
   have:b=j+1:=by omega
   subst this;rw[g523L1e];rw[Nat.add_sub_cancel];unfold IV;generalize hv j=H;simp[g523B1]
 |k+1,j,hk,hi=>by
   have hi:j+1<b:=(by omega);have ih:=JB (P:=P) hb k (j+1) (by omega) (by omega);unfold IV at *;rw[g523L1e]at ih⊢;rw[hv]at ih;generalize hv (b-1)=B at *;generalize hv j=H at *;have hc:=Ex.bX H;have hi':(j:Int)+1<b:=(by omega);simp[nd,d9]at ih;simp (disch:=omega) [g523B1,hi',aw,hc];rw[g523L1e];simp[ih]
def JC:List AV:=[.pv (vI 3),.pv (vI 0),.pv (.str []),.pv (vI 7),.own [] 0,.own [] 1,.pv (vI 0),.pv (.str []),.pv (vI 0),.pv (vI 0),.own [] 2]
theorem NR{P:List PV}{b:Nat}(hb:b≤40):∃C t,(∀sh,bJ sh C=some (hv b).cells)∧C.length=11∧C.all aP=true ∧
   cl AP g523L1 ⟨[(10,.aK 10 0),(11,.aK 11 0),(12,.pv (vI b)),(13,.pv (vI 0))],[(10,[.pv (.az []),.pv (.az P)]),(11,JC)],[],[0,0,0]⟩ =
     some (.exit 2,⟨[(10,.aK 10 0),(11,.aK 11 0),(12,.pv (vI b)),(13,.pv (vI b)),(43,.pv (.bool false))],[(10,[.pv (.az []),.pv (.az P)]),(11,C)],[],t⟩):=by
 cases b with
 |zero=>
   refine⟨JC,[0,0,0],?_,?_,?_,?_⟩
   ·intro sh;simp[JC,hv,nd,d9,Ex.bX]
   ·simp[JC]
   ·simp[JC]
   ·rw[g523L1e];simp[g523B1,JC]
 |succ b=>
   have ih:=JB (P:=P) hb _ 0 rfl (by omega);rw[Nat.add_sub_cancel]at ih;refine⟨IV b,[1,0,0],?_,?_,?_,?_⟩
   ·intro sh;rw[hv];unfold IV;generalize hv b=H;simp[nd,d9,Ex.bX]
   ·simp[IV]
   ·simp[IV]
   · unfold IV at *;rw[g523L1e]at ih⊢;generalize hv b=B at *;have hi':(0:Int)<b+1:=by omega
     simp[hv,nd,d9]at ih;simp (disch:=omega) [g523B1,hi',aw,JC,nd,d9];rw[g523L1e];simp[ih]
theorem IW{E x:Ex}(hE:Sy E)(hx:Sy x)(sE:E.sz≤50)(sx:x.sz≤50){h:Int}:∃u v n,nQ [] oh [gi E] h x=[.agg [.az u,.az v],vI n]∧(aC AP).p 538 [.agg [.az u,.az v],.agg [.az u,.az v]]=some [.bool true]:=by
 rcases Hb (ds:=[]) (T:=oh) (bs:=[gi E]) (h:=h) (x:=x) with⟨n,_,e⟩|⟨i,b,p,hb,hp,e⟩
 ·exact⟨[],[],n,e,c538 (ds:=[]) (es:=[]) (bs:=[]) (cs:=[]) ⟨by simp,by simp⟩ ⟨by simp,by simp⟩ ⟨by simp,by simp⟩ rfl rfl⟩
 ·have hi:=(List.getElem?_eq_some_iff.1 hb).1;have hm:=bE hb;simp at hm;subst hm;have:i=0:=(by simpa using hi);subst this;obtain⟨q1,q2⟩:=tT hE hx sE sx (p:=p) hp;refine⟨_,_,0,e,?_⟩;have hB:MV [gi (pt x.strip p E.strip)]:=⟨by simp,fun c hc=>by simp at hc;subst hc;exact⟨GC,q1.sx.all.1⟩⟩;exact c538 (ds:=[]) (es:=[]) ⟨by simp,by simp⟩ hB hB rfl rfl
theorem K4(n m:Int)(two:Bool):(aC AP).p 523 [vI n,vI m,.bool two]=some [.bool true]:=by
 have c0:=c527;obtain⟨r,k1,r0,r1⟩:=c26 (n:=n) (m:=22) (by omega) (by omega);obtain⟨q,k2,q0,q1⟩:=c26 (n:=m) (m:=25) (by omega) (by omega);obtain⟨a,ha⟩:∃a:Nat,10+r=a:=⟨(10+r).toNat,by omega⟩;obtain⟨b,rfl⟩:∃b:Nat,q=b:=⟨q.toNat,by omega⟩;have hl:=j3 a;have l1:=JA (m:=vI m) (n:=.bool two) (a:=a) (by omega) _ 0 rfl (by omega)
 have fin:∀{E:Ex} {src:bM},Sy E→E.sz≤50→(aC AP).p 535 [.str src]=some [.agg [.az [],.az [(gi E).pv]]] →
     (src=if two=true then zU a else zT a)→(aC AP).p 523 [vI n,vI m,.bool two]=some [.bool true]:=by
   intro E src hE sE k3 hsrc;have hx:=Jy b;have sx:(hv b).sz≤50:=by rw[Jz];omega
   have hN:=IT hE sE;have k4:=c529 (ds:=[]) hN.h
   have hc:DV [gi E]≤50:=by
     have:=qk E;simp[DV];show E.hl.length≤50;omega
   obtain⟨C,t,C1,C2,C3,l2⟩:=NR (P:=[(gi E).pv]) (b:=b) (by omega);have F1:=c536 (IU hE hx sE sx (h:=(DV [gi E]:Int)-1) (by omega));have F2:=c537s hE hx sE sx (h:=(DV [gi E]:Int)-1) (by omega) (by rw[Hc];exact c549h b);obtain⟨u,v,e,f1,f2⟩:=IW hE hx sE sx (h:=(DV [gi E]:Int)-1);rw[f1]at F1 F2;have tC:List.take 11 C=C:=List.take_of_length_le (by omega);have xc:=Ex.bX (hv b);unfold JC at l2;clear f1;rw[ah (af:=g523) rfl rfl (by decide)];rw[g523L0e]at l1;rw[g523L1e]at l2;generalize hv b=X at *;generalize DV [gi E]=N at *;simp[og]at l1;simp at l2 k4 F1 F2 f2 C1;subst hsrc
   cases two<;>simp[zT,zU]at k3 <;>
     simp (disch:=first|omega|(simp only[List.length_append,List.length_cons,List.length_nil];omega)) [-dG,ff,-getElem?_pos,g523,c0,k1,k2,ha,g523L0e,l1,k3,g523L1e,l2,k4,F1,F2,f2,C1,C2,C3,tC,xc,aw]
 cases two with
 |false=>exact fin (tU a 8) (by rw[(mj a 8).1];omega) (MP (by omega)) rfl
 |true=>exact fin (K1 a) (by rw[K3];omega) (MQ (by omega)) rfl
end Go.Ab.Lw
