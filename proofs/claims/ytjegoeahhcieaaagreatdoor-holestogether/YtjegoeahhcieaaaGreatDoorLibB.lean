import Derived.Test.YtjegoeahhcieaaaGreatDoorLibA
/-
  The search's reference: an element, its new variables.
  The reference's store: kinds of resolved types; a variable becomes an arrow.
  The search's reference: an element, its arguments.
  The search's reference: an element, its resolved types.
  Matching, by the program.
  Instances, by the program.
  Instances, by the reference.
  Matching, by the reference.
  Both matchings are one.
  When a closed type is general.
  The reference's Instance; the law SchemeInstances.
  The search's reference: an element.
  The search's reference: heads.
  The search's reference: the schemes of constructors; the list of heads.
  The search's reference: the list of heads, the walk.
  The maker of raw expressions: cases; all depths.
  A tape anywhere in shared memory: the makers of types and of raw expressions.
  The law ScopeVisible.
  How many nodes an expression has; expressions whose texts are known.
  The maker of typed expressions: what it gives; leaves.
  The maker of typed expressions: leaves, functions, applications, annotations, held ones.
  The maker of programs: the scheme of a let is closed.
  The maker of typed expressions: lets.
  The maker of typed expressions: heads with arguments.
  The maker of typed expressions: cases.
  The reference's inference: schemes are opened; the types of records; resolved types and their variables.
  The reference's inference: resolved types and their variables; generalizing.
  The reference's inference: generalizing.
  Scopes: the first error of an expression, by the reference.
  The reference's inference: steps of the machine, room that is left; what a scope check says.
  The reference's inference: variables, constructors, numbers, functions, applications, annotations, aH.
  The reference's inference: let and let rec.
  The reference's inference: cases.
  The reference's inference ends on every expression whose scopes are in order.
  The maker of typed expressions: cases; all depths.
  The maker of programs: signatures.
  The maker of programs: bindings.
  The maker of programs: one binding.
  The maker of programs: the first binding; all bindings.
  The reference's inference: a binding.
  The first error of a program, by the program.
  The first error of a program, by the reference.
  The reference's inference: all bindings of a program.
  The report of a program: whole inference, sizes, records that are shown, numbers, final types.
  The report of a program: numbers of variables, final types and records.
  The report of a program: final types and records.
-/
set_option linter.unusedVariables false
set_option linter.unusedSimpArgs false
set_option linter.unnecessarySimpa false
set_option maxRecDepth 100000
set_option maxHeartbeats 8000000
namespace Go.Ab.Lw
open Ev
def pz(s:de):Nat→de
 |0=>s
 |i+1=>bN (pz s i) 1000000 false
theorem QJ{s:List Sl}:ub s≤s.length:=List.countP_le_length
theorem nv{n M:Nat}{s:de}(I:Inv n M (dq n) s):∀i,Inv (n+i) (M+i*(2*(n+i)+4)) (dq (n+i)) (pz s i)
 |0=>by simpa[pz] using I
 |i+1=>by
   have J:=nv I i;have hu:ub (pz s i).sl≤n+i:=by have:=QJ (s:=(pz s i).sl);rw[J.len]at this;exact this
   refine qe J 1000000 false ?_
   have:(i+1)*(2*(n+(i+1))+4)=i*(2*(n+i)+4)+i*2+(2*(n+(i+1))+4):=by
     rw[Nat.add_mul,Nat.one_mul,show 2*(n+(i+1))+4=(2*(n+i)+4)+2 by omega,Nat.mul_add]
   omega
def uf(c:Sc):List AV:=[.pv (vI c.id),.pv (vI c.ty.kind),.pv (.str c.ty.name),.pv (vI c.ty.id),.pv (vI c.ty.home),.pv (.aw (c.ty.args.map Ty.pv))]
theorem QK{n M:Nat}{s:de}(I:Inv n M (dq n) s){c:Sc}{K:Nat}(hc:c.id=K)(hN:n+K≤10000)(hM:M≤1000000){g:Ty}{p3:PV}{p4:PV}:∀(k i:Nat),K-i=k→i≤K→∀acc:List Ty,acc.length=i →
   cl AP g389L0 ⟨[(3,.pv p3),(4,.pv p4),(5,.au 5 0),(6,.au 6 0),(7,.au 7 0),(13,.own (acc.map Ty.pv) 0),(14,.pv (vI i))],[(5,sC (pz s i)),(6,uf c),(7,tC g)],[],[acc.length]⟩ =
     some (.exit 0,⟨[(3,.pv p3),(4,.pv p4),(5,.au 5 0),(6,.au 6 0),(7,.au 7 0),(13,.own ((acc++(List.range' i (K-i)).map fun j=>aK (n+j:Nat)).map Ty.pv) 0),(14,.pv (vI K)),(39,.pv (.bool false))],[(5,sC (pz s K)),(6,uf c),(7,tC g)],[],[K]⟩)
 |0,i,hk,hi,acc,ha=>by
   have:i=K:=by omega
   subst this;rw[g389L0e];simp[g389B0,sC,uf,tC,hc,ha]
 |k+1,i,hk,hi,acc,ha=>by
   have hi:i<K:=(by omega);have J:=nv I i;have hq:i*(2*(n+i)+4)≤10000*20004:=Nat.mul_le_mul (by omega) (by omega);have c1:=c381 J.MY (by omega) (by omega) 1000000 false;rw[J.len]at c1;have ih:=QK I hc hN hM (g:=g) (p3:=p3) (p4:=p4) k (i+1) (by omega) (by omega) (acc++[aK (n+i:Nat)]) (by simp;omega)
   have hr:List.range' i (K-i)=i::List.range' (i+1) (K-(i+1)):=by
     rw[show K-i=(K-(i+1))+1 by omega,List.range'_succ]
   have hb:(acc.length+1)*64≤140737488355328:=(by omega);simp only[pz]at ih;rw[hr];generalize bN (pz s i) 1000000 false=s1 at *;generalize pz s i=s0 at *;rw[g389L0e]at ih⊢;simp[aK]at c1;simp[sC,uf,tC,aK,hc]at ih;simp (disch:=omega) [-getElem?_pos,g389B0,sC,uf,tC,hc,hi,c1,aq,hb,aK];rw[g389L0e];simp[ih]
def BS(t:Ty):Prop:=t.Ok∧t.Kw
theorem QL{s:de}{x:Ty}(hx:x.Ok){ns:List Nat}(hns:ns.length=x.args.length)(IH:∀(i:Nat) a n,x.args[i]?=some a→ns[i]?=some n→∃u:Ty,(aF AP).p 373 [s.pv,a.pv]=some [u.pv]∧BS u∧u.nodes.length=n):∀(k i:Nat),x.args.length-i=k→i≤x.args.length→∀acc:List Ty,acc.length=i→(∀u∈acc,BS u)→(acc.flatMap Ty.nodes).length=(ns.take i).sum→∃us:List Ty,
   cl AP g373L0 ⟨[(2,.au 2 0),(3,.au 3 0),(4,.au 4 0),(5,.au 5 0),(6,.pv (vI i))],[(2,sC s),(3,tC x),(4,zC 0),(5,uC x acc 1)],[],[0,acc.length]⟩ =
     some (.exit 0,⟨[(2,.au 2 0),(3,.au 3 0),(4,.au 4 0),(5,.au 5 0),(6,.pv (vI x.args.length)),(16,.pv (.bool false))],[(2,sC s),(3,tC x),(4,zC 0),(5,uC x us 1)],[],[0,us.length]⟩)∧us.length=x.args.length∧(∀u∈us,BS u)∧(us.flatMap Ty.nodes).length=ns.sum
 |0,i,hk,hi,acc,ha,hu,hc=>by
   have:i=x.args.length:=by omega
   subst this;refine⟨acc,?_,ha,hu,by rw[hc,←hns,List.take_length]⟩;rw[g373L0e];simp[g373B0,sC,tC,zC,uC]
 |k+1,i,hk,hi,acc,ha,hu,hc=>by
   have hi:i<x.args.length:=(by omega);obtain⟨a,hax⟩:=aP hi;obtain⟨n,hn⟩:=aP (l:=ns) (i:=i) (by omega);have hsm:=hx.sm;unfold Sm at hsm;obtain⟨u,e,hO,hnn⟩:=IH i a n hax hn
   obtain⟨us,e',h1,h2,h3⟩:=QL hx hns IH k (i+1) (by omega) (by omega) (acc++[u]) (by simp;omega) (by
     intro y hy;simp at hy;rcases hy with hy|rfl
     ·exact hu y hy
     ·exact hO) (by rw[List.take_add_one,hn,List.flatMap_append,List.length_append,hc];simp[hnn])
   refine⟨us,?_,h1,h2,h3⟩;have hb:(acc.length+1)*64≤140737488355328:=by omega
   rw[g373L0e]at e' ⊢;simp at e;simp[sC,tC,zC,uC]at e';simp (disch:=omega) [-getElem?_pos,g373B0,sC,tC,zC,uC,hi,hax,aq,e,hb];rw[g373L0e];simp[e']
theorem c373k{s:de}(hs:Sm s.sl)(hO:∀x∈s.sl,x.ty.Ok)(hW:∀x∈s.sl,x.ty.Kw)(r:Nat):∀t:Ty,Tr s.sl t r→BS t→∃u:Ty,(aF AP).p 373 [s.pv,t.pv]=some [u.pv]∧BS u∧u.nodes.length=r:=by
 induction r using Nat.strongRecOn with
 |ind r ih=>
   intro t ht hto;have k:=c386 hs (t:=t);have hw:(wk s.sl (s.sl.length+1) t).Ok:=mK hO hto.1;have hk:(wk s.sl (s.sl.length+1) t).Kw:=nQ hW hto.2;obtain⟨ns,hn,hr⟩:=ht.inv;unfold iE at hn
   obtain⟨us,e,h1,h2,h3⟩:=QL (s:=s) hw hn.1 (fun i a n hi hni=>by
     have:=yu hni;exact ih n (by omega) a (hn.2 i a n hi hni) ⟨hw.gh a (aQ hi),hk.gh a (aQ hi)⟩) _ 0 rfl (by omega) [] rfl (by simp) rfl
   refine⟨⟨(wk s.sl (s.sl.length+1) t).kind,(wk s.sl (s.sl.length+1) t).name,(wk s.sl (s.sl.length+1) t).id,(wk s.sl (s.sl.length+1) t).home,us⟩,?_,⟨⟨by have:=hw.sm;unfold Sm at *;simp only;omega,fun y hy=>(h2 y hy).1⟩,.mk (fun q=>?_) hk.nm fun y hy=>(h2 y hy).2⟩,by rw[Ty.aL];simp only[List.length_cons];omega⟩
   ·rw[ah (af:=g373) rfl rfl (by decide)];rw[g373L0e]at e;generalize wk s.sl (s.sl.length+1) t=x at *;simp at k;simp[sC,tC,zC,uC]at e;simp[g373,k,g373L0e,e]
   ·have:=hk.hd q;refine⟨this.1,?_⟩;rw[this.2]at h1;exact List.length_eq_zero_iff.1 h1
theorem SZ:bC.Kw:=.bare rfl (by simp[bC]) (by simp[bC])
theorem c358k{s:de}(hs:Sm s.sl)(hO:∀x∈s.sl,x.ty.Ok)(hW:∀x∈s.sl,x.ty.Kw){t:Ty}(ht:BS t):∃(u:Ty) (b:Bool),(aF AP).p 358 [s.pv,t.pv]=some [u.pv,.bool b]∧BS u∧u.nodes.length≤4000:=by
 obtain⟨r,e,h1,h2,h3⟩:=c355 hs hO (m:=4000) (by omega) ht.1;simp at e;by_cases hr:r≤4000
 · obtain⟨u,e2,hu,hnu⟩:=c373k hs hO hW r t (h3 hr) ht;refine⟨u,true,?_,hu,by omega⟩;simp at e2;have hr':¬(4000:Int)<r:=by omega
   rw[ah (af:=g358) rfl rfl (by decide)];simp[g358,e,hr',e2]
 · refine⟨bC,false,?_,⟨bL rfl,SZ⟩,by rw[Ty.aL];simp[bC]⟩;have hr':(4000:Int)<r:=by omega
   rw[ah (af:=g358) rfl rfl (by decide)];simp[g358,e,hr',bC]
def nI(n:Nat):Ty:=⟨4,[45,62],0,0,[aK n,aK (n+1:Nat)]⟩
theorem ug{n:Int}:(aK n).Kw:=.bare rfl (by simp[aK]) (by simp[aK])
theorem lL{S:List Int}{n:Int}(h:n∈S):Fit S (aK n):=⟨bL rfl,ug,fun w ho=>by rw[gP (t:=aK n) rfl ho];exact h⟩
theorem uh{n:Nat}:Fit (dq (n+2)) (nI n) where
 ok:=⟨by simp[nI,Sm],by intro x hx;simp[nI]at hx;rcases hx with rfl|rfl<;>exact bL rfl⟩
 wf:=.mk (by simp[nI]) (by simp[nI]) (by intro x hx;simp[nI]at hx;rcases hx with rfl|rfl<;>exact ug)
 gQ:=by
   intro w ho;cases ho with
   |var q=>simp[nI]at q
   |arg _ ha ho=>
     simp[nI]at ha;rcases ha with rfl|rfl
     ·exact (lL (S:=dq (n+2)) (dG.2 (by omega))).gQ w ho
     ·exact (lL (S:=dq (n+2)) (dG.2 (by omega))).gQ w ho
theorem yI{s:de}{i:Nat}{v:Sl}(h:s.sl[i]?=some v):∀k,(pz s k).sl[i]?=some v
 |0=>h
 |k+1=>by
   have ih:=yI h k;have hl:i<(pz s k).sl.length:=by obtain⟨h,_⟩:=List.getElem?_eq_some_iff.1 ih;exact h
   simp only[pz,bN];rw[List.getElem?_append_left hl];exact ih
theorem Fh{s:de}{v:Int}:∀{k:Nat},ky (pz s k).sl v→ky s.sl v
 |0,h=>h
 |k+1,h=>by
   obtain⟨j,x,e,hx,hb⟩:=h;simp only[pz,bN]at hx;by_cases hl:j<(pz s k).sl.length
   ·rw[List.getElem?_append_left hl]at hx;exact Fh (k:=k) ⟨j,x,e,hx,hb⟩
   · rw[List.getElem?_append_right (by omega)]at hx
     have:j-(pz s k).sl.length=0:=by
       have:=(List.getElem?_eq_some_iff.1 hx).1;simpa using this
     rw[this]at hx;simp at hx;subst hx;cases hb
theorem S3{s:List Sl}{v:Int}(h:ky s v):v<s.length:=by
 obtain⟨k,x,e,hx,_⟩:=h;have:=(List.getElem?_eq_some_iff.1 hx).1;omega
theorem Pr{n M:Nat}{s:de}(I:Inv n M (dq n) s){i:Nat}{v:Sl}(hv:s.sl[i]?=some v)(hf:¬ky s.sl (i:Int)) :
   Inv (n+2) (M+2*(2*(n+2)+4)) (dq (n+2)) (gj (pz s 2) i v ⟨true,nI n,v.home,v.base⟩):=by
 have J:=nv I 2;have h1:=yI hv 2;have fi:¬ky (pz s 2).sl (i:Int):=fun h=>hf (Fh h)
 have hi:i<n:=by have:=(List.getElem?_eq_some_iff.1 hv).1;rw[I.len]at this;exact this
 refine (BK J (t:=nI n) h1 fi Kp.refl (by omega) h1 uh.ok uh.wf uh.gQ ?_ rfl rfl).1
 rintro⟨w,ho,hr⟩
 have hw:n≤w:=by
   cases ho with
   |var q=>simp[nI]at q
   |arg _ ha ho=>
     simp[nI]at ha;rcases ha with rfl|rfl
     ·rw[gP (t:=aK n) rfl ho];simp[aK]
     ·have:=gP (t:=aK ((n:Int)+1)) rfl ho;simp[aK]at this;omega
 have hnb:¬ky (pz s 2).sl w:=fun h=>by
   have:=S3 (Fh h);rw[I.len]at this;omega
 have:=mL hr hnb;omega
theorem Fit.bQ{S S':List Int}{t:Ty}(h:Fit S t)(hS:∀w∈S,w∈S'):Fit S' t:=⟨h.ok,h.wf,fun w ho=>hS w (h.gQ w ho)⟩
theorem kO{n m:Nat}(h:n≤m):∀w∈dq n,w∈dq m:=fun w hw=>by have:=dG.1 hw;exact dG.2 (by omega)
structure Vk(m M:Nat)(s:de)(t w g:Ty)(args:List Ty)(vs:List As):Prop where
 inv:Inv m M (dq m) s
 t:Fit (dq m) t
 w:Fit (dq m) w
 g:Fit (dq m) g
 args:∀a∈args,Fit (dq m) a
 vs:∀x∈vs,Fit (dq m) x.ty
theorem Fit.wk{m M:Nat}{s:de}(I:Inv m M (dq m) s){t:Ty}(h:Fit (dq m) t):Fit (dq m) (iE s.sl t):=⟨mK I.ok h.ok,nQ I.wf h.wf,lJ I.gQ h.gQ⟩
theorem c194a{a b:Ty}:(aF AP).p 194 [(Ty.mk 4 [45,62] 0 0 [a,b]).pv]=some [a.pv,b.pv,.bool true]:=by
 rw[ah (af:=g194) rfl rfl (by decide)];simp[g194]
theorem c194f{S:List Int}{t:Ty}(ht:Fit S t):∃(a b:Ty) (c:Bool),(aF AP).p 194 [t.pv]=some [a.pv,b.pv,.bool c]∧(c=true→t.kind=4∧Fit S a∧Fit S b):=by
 obtain⟨a,b,c,e,_,_,h⟩:=c194g ht.ok;refine⟨a,b,c,e,?_⟩;intro hc;have q:=h hc;have hk:t.kind=4:=by rw[q]
 have ha:a∈t.args:=by rw[q];simp
 have hb:b∈t.args:=by rw[q];simp
 have hn:t.kind≠1:=by rw[hk];decide
 exact⟨hk,⟨ht.ok.gh a ha,ht.wf.gh a ha,fun w ho=>ht.gQ w (.arg hn ha ho)⟩,⟨ht.ok.gh b hb,ht.wf.gh b hb,fun w ho=>ht.gQ w (.arg hn hb ho)⟩⟩
def mR(q:aG):Option (aU×St):=some (.ret,⟨[(10,.cY []),(11,.cY []),(12,.pv (.bool false))],[],[],q⟩)
def lX(vs:List As)(N:Nat)(s:de)(g w t:Ty)(args:List Ty):St:=⟨[(3,.pv (.aw (vs.map As.pv))),(4,.pv (vI N)),(5,.au 5 0),(7,.au 7 0),(16,.au 16 0),(17,.au 17 0),(18,.own (args.map Ty.pv) 0)],[(5,sC s),(7,tC g),(16,tC w),(17,tC t)],[],[args.length]⟩
theorem Vl{m M:Nat}{s:de}{t w g:Ty}{args:List Ty}{vs:List As}(E:Vk m M s t w g args vs)(hm:m≤30000)(hM:M≤10000000){N:Nat}(hl:args.length<N)(hN:N≤1000) :
   (∃q,cl AP g389L1 (lX vs N s g w t args)=mR q)∨∃m' M' s' t' args',m≤m'∧m'≤m+2∧M'≤M+200000∧args'.length=args.length+1∧Vk m' M' s' t' w g args' vs∧cl AP g389L1 (lX vs N s g w t args)=cl AP g389L1 (lX vs N s' g w t' args'):=by
 have hsl:=E.inv.len;have hsm:Sm s.sl:=by unfold Sm;omega
 have k1:=c386 hsm (t:=t);have F:=E.t.wk E.inv;have fr:=mP E.inv.B6 (t:=t)
 change (aF AP).p 386 [s.pv,t.pv]=some [(iE s.sl t).pv]at k1
 generalize iE s.sl t=x at *;have hb:(args.length+1)*64≤140737488355328:=by omega
 have hlN:(args.length:Int)<N:=by omega
 have wk2:∀w∈dq m,w∈dq (m+2):=kO (by omega);by_cases hk:x.kind=1
 · have FE:=dG.1 (F.gQ _ (.var hk));obtain⟨i,hi⟩:∃i:Nat,x.id=i:=⟨x.id.toNat,by omega⟩;have him:i<m:=(by omega);have his:i<s.sl.length:=(by omega);obtain⟨o,ho⟩:=aP his;have fi:¬ky s.sl (i:Int):=(by rw[←hi];exact gk hk fr);cases hbs:o.base with
   |true=>
     left;obtain⟨a,b,c,k2,h2⟩:=c194f F
     have hc:c=false:=by
       cases c with
       |false=>rfl
       |true=>have:=(h2 rfl).1;omega
     subst hc;simp[hk,hi]at k1 k2;rw[g389L1e];simp (disch:=omega) [-getElem?_pos,g389B1,lX,mR,sC,tC,hlN,k1,hk,hi,his,ho,hbs,k2]
   |false=>
     right;have J:=nv E.inv 1;have hu:ub (pz s 1).sl≤m+1:=by have:=QJ (s:=(pz s 1).sl);rw[J.len]at this;exact this
     have c1:=c381 E.inv.MY (by omega) (by omega) 1000000 false;have c2:=c381 J.MY (by omega) (by omega) 1000000 false;have J2:=nv E.inv 2;have h2:=yI ho 2;have c4:=c393 J2.MY (by omega) (by omega) h2 ⟨true,nI m,o.home,o.base⟩;have c3:=c69 (a:=aK m) (b:=aK (m+1:Nat));have c5:=c194a (a:=aK m) (b:=aK (m+1:Nat));have I:=Pr E.inv ho fi;have e1:pz s 1=bN s 1000000 false:=rfl;have e2:pz s 2=bN (bN s 1000000 false) 1000000 false:=rfl;have hl2:(pz s 2).sl.length=m+2:=J2.len;rw[hsl]at c1;rw[J.len,e1]at c2;refine⟨m+2,M+200000,gj (pz s 2) i o ⟨true,nI m,o.home,o.base⟩,aK (m+1:Nat),args++[aK m],by omega,by omega,by omega,by simp,⟨I.bQ (by omega) (fun _ h=>h),lL (dG.2 (by omega)),E.w.bQ wk2,E.g.bQ wk2,?_,fun x hx=>(E.vs x hx).bQ wk2⟩,?_⟩
     · intro a ha;simp at ha;rcases ha with ha|rfl
       ·exact (E.args a ha).bQ wk2
       ·exact lL (dG.2 (by omega))
     · rw[e2]at c4 h2 hl2⊢;generalize gj (bN (bN s 1000000 false) 1000000 false) i o ⟨true,nI m,o.home,o.base⟩=s3 at *;generalize bN (bN s 1000000 false) 1000000 false=s2 at *;generalize bN s 1000000 false=s1 at *;have hi2:i<s2.sl.length:=by omega
       simp[hk,hi]at k1;simp[aK,hbs]at c1 c2 c3 c4 c5;simp[nI,aK]at c4;conv=>lhs;rw[g389L1e]
       simp (disch:=omega) [-getElem?_pos,g389B1,lX,sC,tC,hlN,k1,hk,hi,his,ho,hbs,c1,c2,h2,hi2,c3,c4,c5,aK,hb]
 · obtain⟨a,b,c,k2,h2⟩:=c194f F;simp at k1 k2;cases c with
   |false=>
     left;rw[g389L1e];simp (disch:=omega) [-getElem?_pos,g389B1,lX,mR,sC,tC,hlN,k1,hk,k2]
   |true=>
     right;obtain⟨_,fa,fb⟩:=h2 rfl;refine⟨m,M,s,b,args++[a],by omega,by omega,by omega,by simp,⟨E.inv,fb,E.w,E.g,?_,E.vs⟩,?_⟩
     · intro y hy;simp at hy;rcases hy with hy|rfl
       ·exact E.args y hy
       ·exact fa
     · conv=>lhs;rw[g389L1e]
       simp (disch:=omega) [-getElem?_pos,g389B1,lX,sC,tC,hlN,k1,hk,k2,hb]
theorem QM{vs:List As}{N:Nat}(hN:N≤1000){w g:Ty}:∀(k m M:Nat) (s:de) (t:Ty) (args:List Ty),N-args.length=k→args.length≤N→Vk m M s t w g args vs→m+2*k≤30000→M+200000*k≤10000000 →
   (∃q,cl AP g389L1 (lX vs N s g w t args)=mR q)∨∃m' M' s' t' args',m'≤30000∧M'≤10000000∧args'.length=N∧Vk m' M' s' t' w g args' vs∧cl AP g389L1 (lX vs N s g w t args)=some (.exit 2,⟨[(3,.pv (.aw (vs.map As.pv))),(4,.pv (vI N)),(5,.au 5 0),(7,.au 7 0),(16,.au 16 0),(17,.au 17 0),(18,.own (args'.map Ty.pv) 0),(59,.pv (.bool false))],[(5,sC s'),(7,tC g),(16,tC w),(17,tC t')],[],[args'.length]⟩)
 |0,m,M,s,t,args,hk,ha,E,h1,h2=>by
   have hl:args.length=N:=(by omega);refine .inr ⟨m,M,s,t,args,by omega,by omega,hl,E,?_⟩;rw[g389L1e];simp[g389B1,lX,sC,tC,hl]
 |k+1,m,M,s,t,args,hk,ha,E,h1,h2=>by
   rcases Vl E (by omega) (by omega) (N:=N) (by omega) hN with h|⟨m',M',s',t',args',a1,a2,a3,a4,E',e⟩
   ·exact .inl h
   ·rw[e];exact QM hN k m' M' s' t' args' (by omega) (by omega) E' (by omega) (by omega)
def JQ(u:Ty):Prop:=BS u∧u.nodes.length≤4000
theorem QN{m M:Nat}{s:de}(I:Inv m M (dq m) s)(hm:m≤1000000){vs:List As}(hv:vs.length≤100000)(hF:∀x∈vs,Fit (dq m) x.ty){args:List Ty}:∀(k i:Nat),vs.length-i=k→i≤vs.length→∀acc:List Ty,acc.length=i→(∀u∈acc,JQ u) →
   (∃q,cl AP g389L2 ⟨[(3,.pv (.aw (vs.map As.pv))),(5,.au 5 0),(18,.own (args.map Ty.pv) 0),(29,.own (acc.map Ty.pv) 1),(30,.pv (vI i))],[(5,sC s)],[],[args.length,acc.length]⟩=mR q) ∨
   ∃us:List Ty,us.length=vs.length∧(∀u∈us,JQ u)∧cl AP g389L2 ⟨[(3,.pv (.aw (vs.map As.pv))),(5,.au 5 0),(18,.own (args.map Ty.pv) 0),(29,.own (acc.map Ty.pv) 1),(30,.pv (vI i))],[(5,sC s)],[],[args.length,acc.length]⟩ =
     some (.exit 4,⟨[(3,.pv (.aw (vs.map As.pv))),(5,.au 5 0),(18,.own (args.map Ty.pv) 0),(29,.own (us.map Ty.pv) 1),(30,.pv (vI vs.length)),(153,.pv (.bool false))],[(5,sC s)],[],[args.length,us.length]⟩)
 |0,i,hk,hi,acc,ha,hu=>by
   have:i=vs.length:=by omega
   subst this;refine .inr ⟨acc,ha,hu,?_⟩;rw[g389L2e];simp[g389B2,sC]
 |k+1,i,hk,hi,acc,ha,hu=>by
   have hi:i<vs.length:=(by omega);obtain⟨x,hx⟩:=aP hi;have fx:=hF x (aQ hx);have hsm:Sm s.sl:=(by unfold Sm;rw[I.len];omega);obtain⟨r,k1,_,_,_⟩:=c355 hsm I.ok (m:=200) (by omega) fx.ok;have hb:(acc.length+1)*64≤140737488355328:=(by omega);by_cases hr:(200:Int)<r
   ·left;simp at k1;rw[g389L2e];simp (disch:=omega) [-getElem?_pos,g389B2,mR,sC,hx,hi,k1,hr]
   · obtain⟨u,b,k2,hu1,hu2⟩:=c358k hsm I.ok I.wf ⟨fx.ok,fx.wf⟩
     have ih:=QN I hm hv hF (args:=args) k (i+1) (by omega) (by omega) (acc++[u]) (by simp;omega) (by
       intro y hy;simp at hy;rcases hy with hy|rfl
       ·exact hu y hy
       ·exact⟨hu1,hu2⟩)
     have e1:cl AP g389L2 ⟨[(3,.pv (.aw (vs.map As.pv))),(5,.au 5 0),(18,.own (args.map Ty.pv) 0),(29,.own (acc.map Ty.pv) 1),(30,.pv (vI i))],[(5,sC s)],[],[args.length,acc.length]⟩=cl AP g389L2 ⟨[(3,.pv (.aw (vs.map As.pv))),(5,.au 5 0),(18,.own (args.map Ty.pv) 0),(29,.own ((acc++[u]).map Ty.pv) 1),(30,.pv (vI (i+1:Nat)))],[(5,sC s)],[],[args.length,(acc++[u]).length]⟩:=by
       simp at k1 k2;conv=>lhs;rw[g389L2e]
       simp (disch:=omega) [-getElem?_pos,g389B2,sC,hx,hi,k1,hr,k2,hb,aq]
     rw[e1];exact ih
theorem QO{m M:Nat}{s:de}(I:Inv m M (dq m) s)(hm:m≤1000000){p3:PV}{args:List Ty}(hv:args.length≤100000)(hF:∀x∈args,Fit (dq m) x){V:Nat}:∀(k i:Nat),args.length-i=k→i≤args.length→∀acc:List Ty,acc.length≤V+i→V≤100000→(∀u∈acc,JQ u) →
   ∃us:List Ty,us.length≤V+args.length∧(∀u∈us,JQ u)∧acc.length≤us.length∧cl AP g389L3 ⟨[(3,.pv p3),(5,.au 5 0),(18,.own (args.map Ty.pv) 0),(29,.own (acc.map Ty.pv) 1),(33,.pv (vI i))],[(5,sC s)],[],[args.length,acc.length]⟩ =
     some (.exit 6,⟨[(3,.pv p3),(5,.au 5 0),(18,.own (args.map Ty.pv) 0),(29,.own (us.map Ty.pv) 1),(33,.pv (vI args.length)),(181,.pv (.bool false))],[(5,sC s)],[],[args.length,us.length]⟩)
 |0,i,hk,hi,acc,ha,hV,hu=>by
   have:i=args.length:=by omega
   subst this;refine⟨acc,ha,hu,Nat.le_refl _,?_⟩;rw[g389L3e];simp[g389B3,sC]
 |k+1,i,hk,hi,acc,ha,hV,hu=>by
   have hi:i<args.length:=(by omega);obtain⟨x,hx⟩:=aP hi;have fx:=hF x (aQ hx);have hsm:Sm s.sl:=(by unfold Sm;rw[I.len];omega);have hb:(acc.length+1)*64≤140737488355328:=(by omega);obtain⟨u,b,k2,hu1,hu2⟩:=c358k hsm I.ok I.wf ⟨fx.ok,fx.wf⟩
   obtain⟨us,q1,q2,q3,e⟩:=QO I hm hv hF (p3:=p3) (V:=V) k (i+1) (by omega) (by omega) (acc++[u]) (by simp;omega) hV (by
       intro y hy;simp at hy;rcases hy with hy|rfl
       ·exact hu y hy
       ·exact⟨hu1,hu2⟩)
   refine⟨us,q1,q2,by simp at q3;omega,?_⟩;rw[g389L3e]at e⊢;simp[sC]at e;simp at k2;simp (disch:=omega) [-getElem?_pos,g389B3,sC,hx,hi,k2,hb,aq];rw[g389L3e];simp[e]
theorem Gc{l:List Ty}{t:Ty}:∀w,ef (t.kf l) w→ef t w∨∃x∈l,ef x w:=by
 refine Ty.dJ (p:=fun t=>∀w,ef (t.kf l) w→ef t w∨∃x∈l,ef x w) ?_ t;intro t ih w h;rw[Ty.mO]at h;cases e:MU l t with
 |some x=>
   rw[e]at h;obtain⟨_,_,_,hx⟩:=mN e;exact .inr ⟨x,aQ hx,h⟩
 |none=>
   rw[e]at h;simp only[Option.getD_none]at h;generalize hy:(Ty.mk t.kind t.name t.id t.home (t.args.map (Ty.kf l)))=y at h;cases h with
   |var q=>subst hy;exact .inl (.var q)
   |arg q ha ho=>
     subst hy;simp only[List.mem_map]at ha;obtain⟨a,ha,rfl⟩:=ha;rcases ih a ha _ ho with h|h
     ·exact .inl (.arg q ha h)
     ·exact .inr h
theorem QP{sz τ:Nat}{l:List PV}{k:IntKind}{h:Int}(h0:0≤h)(h1:h≤l.length)(hs:a_ sz l=true):dT false sz true false false [.own l τ,.pv (.int k h)]=some (.pv (.aw (l.drop h.toNat))):=by
 simp[dT,cf,fY,h0,h1,hs]
abbrev Mt:=List (Int×Ty)
def lM:Mt→Int→Option Ty
 |[],_=>none
 |(j,x)::r,i=>if i=j then some x else lM r i
def qf:Mt→Int→Ty→Mt
 |[],i,t=>[(i,t)]
 |(j,x)::r,i,t=>if i=j then (i,t)::r else (j,x)::qf r i t
def mp(m:Mt):List (PV×PV):=m.map fun a=>(vI a.1,a.2.pv)
theorem sd{i j:Int}{t:Ty}:∀{m:Mt},lM (qf m i t) j=if j=i then some t else lM m j
 |[]=>by simp[qf,lM]
 |(k,x)::r=>by
   have ih:=sd (i:=i) (j:=j) (t:=t) (m:=r);simp only[qf,lM];by_cases e:i=k
   ·subst e;by_cases e2:j=i<;>simp[lM,e2]
   · by_cases e2:j=i
     ·subst e2;simp[lM,e,ih]
     ·have e':¬k=i:=fun h=>e h.symm;by_cases e3:j=k<;>simp[lM,e,e',e2,e3,ih]
def Fi(m:Mt):Prop:=∀i x,lM m i=some x→x.Ok
theorem Fi.put{m:Mt}(h:Fi m){t:Ty}(ht:t.Ok){i:Int}:Fi (qf m i t):=by
 intro j x hx;rw[sd]at hx;split at hx
 ·cases hx;exact ht
 ·exact h j x hx
def Vm(p t:Ty):Bool:=decide (p.kind=t.kind) && decide (p.name=t.name) && decide (p.id=t.id) && decide (p.home=t.home) && decide (p.args.length=t.args.length)
def WJ:Ty:=⟨0,[],0,0,[]⟩
def gR(m:Mt)(n:Nat):List Ty:=(List.range n).map fun i:Nat=>(lM m i).getD WJ
theorem ja{m:Mt}{n:Nat}:(gR m n).length=n:=by simp[gR]
def rI:Option (List Ty)→List PV
 |some l=>[.aw (l.map Ty.pv),.bool true]
 |none=>[.aw [],.bool false]
def QQ(m:Mt)(n:Nat):List Bool:=(List.range n).map fun i:Nat=>(lM m i).isSome
theorem se{m:Mt}{n:Nat}:(QQ m n).length=n:=by simp[QQ]
theorem qg{m:Mt}{n i:Nat}(h:i<n):(gR m n)[i]?=some ((lM m i).getD WJ):=by simp[gR,h]
theorem yJ{m:Mt}{n i:Nat}(h:i<n):(QQ m n)[i]?=some (lM m i).isSome:=by simp[QQ,h]
theorem JR{m:Mt}{n i:Nat}{t:Ty}:gR (qf m i t) n=(gR m n).set i t:=by
 apply List.ext_getElem?
 intro j;by_cases hj:j<n
 · rw[qg hj,List.getElem?_set,sd];by_cases e:i=j
   ·subst e;simp[ja,hj]
   ·have e':¬(j:Int)=i:=(by omega);simp[e,e',qg hj]
 ·rw[List.getElem?_eq_none (by rw[ja];omega),List.getElem?_eq_none (by simp[ja];omega)]
theorem Ps{m:Mt}{n i:Nat}{t:Ty}:QQ (qf m i t) n=(QQ m n).set i true:=by
 apply List.ext_getElem?
 intro j;by_cases hj:j<n
 · rw[yJ hj,List.getElem?_set,sd];by_cases e:i=j
   ·subst e;simp[se,hj]
   ·have e':¬(j:Int)=i:=(by omega);simp[e,e',yJ hj]
 ·rw[List.getElem?_eq_none (by rw[se];omega),List.getElem?_eq_none (by simp[se];omega)]
theorem wM:∀{l:List Ty} {i:Nat},i≤l.length→(l.flatMap Ty.cl).take (i*5)=(l.take i).flatMap Ty.cl
 |_,0,_=>by simp
 |[],i+1,h=>by simp at h
 |a::r,i+1,h=>by
   have ih:=wM (l:=r) (i:=i) (by simp at h;omega);have e:(i+1)*5=a.cl.length+i*5:=(by simp[Ty.cl];omega);rw[List.flatMap_cons,List.take_succ_cons,List.flatMap_cons,e,List.take_length_add_append,ih]
theorem qh:∀{l:List Ty} {i:Nat},i≤l.length→(l.flatMap Ty.cl).drop (i*5)=(l.drop i).flatMap Ty.cl
 |_,0,_=>by simp
 |[],i+1,h=>by simp at h
 |a::r,i+1,h=>by
   have ih:=qh (l:=r) (i:=i) (by simp at h;omega);have e:(i+1)*5=a.cl.length+i*5:=(by simp[Ty.cl];omega);rw[List.flatMap_cons,List.drop_succ_cons,e,List.drop_length_add_append,ih]
theorem Pt{l:List Ty}{i:Nat}{t:Ty}(h:i<l.length):aR (fQ l 0) (i*5) t.cl=fQ (l.set i t) 0:=by
 have e0:∀l:List Ty,fQ l 0=l.flatMap Ty.cl:=fun l=>by simp[fQ]
 rw[aE,e0,e0,wM (by omega)];have e1:i*5+t.cl.length=(i+1)*5:=by simp[Ty.cl];omega
 rw[e1,qh (by omega),List.set_eq_take_append_cons_drop,if_pos h];simp
theorem Pu{l:List Ty}{i:Nat}{x:Ty}(h:l[i]?=some x):((fQ l 0).drop (i*5)).take 5=x.cl:=by
 have hi:i<l.length:=(List.getElem?_eq_some_iff.1 h).1;have e0:fQ l 0=l.flatMap Ty.cl:=by simp[fQ]
 rw[e0,qh (by omega),bl h,List.flatMap_cons];have:(5:Nat)=x.cl.length:=by simp[Ty.cl]
 rw[this,List.take_left]
mutual
noncomputable def Ty.rt(t:Ty)(m:Mt):Ty→Bool×Mt
 |⟨k,n,i,h,as⟩=>if k=2 then (match lM m i with|some x=>(decide (x=t),m)|none=>(true,qf m i t)) else if Vm ⟨k,n,i,h,as⟩ t=true then Ty.Gd t.args m as else (false,m)
noncomputable def Ty.Gd(ts:List Ty)(m:Mt):List Ty→Bool×Mt
 |[]=>(true,m)
 |p::ps=>match ts with
   |[]=>(true,m)
   |t::ts=>if (Ty.rt t m p).1=true then Ty.Gd ts (Ty.rt t m p).2 ps else (false,(Ty.rt t m p).2)
end
theorem Ty.QR(t:Ty)(m:Mt)(p:Ty):Ty.rt t m p=if p.kind=2 then (match lM m p.id with|some x=>(decide (x=t),m)|none=>(true,qf m p.id t)) else if Vm p t=true then Ty.Gd t.args m p.args else (false,m):=by
 cases p;simp only[Ty.rt]
def B7(m:Mt)(n:Nat):List AV:=(QQ m n).map fun b=>.pv (.bool b)
theorem yL{m:Mt}{n:Nat}:(B7 m n).length=n:=by simp[B7,se]
theorem Pv{m:Mt}{n i:Nat}(h:i<n):(B7 m n)[i]?=some (.pv (.bool (lM m i).isSome)):=by simp[B7,yJ h]
theorem Fj{m:Mt}{n:Nat}:∀v∈B7 m n,∃p,v=AV.pv p:=by
 intro v hv;simp only[B7,List.mem_map]at hv;obtain⟨b,_,rfl⟩:=hv;exact⟨_,rfl⟩
theorem BT{m:Mt}{n:Nat}:bY (B7 m n)=false:=bV Fj
theorem Pw{m:Mt}{n i:Nat}{t:Ty}(h:i<n):aR (B7 m n) (i*1) [.pv (.bool true)]=B7 (qf m i t) n:=by
 have hl:i<(B7 m n).length:=by rw[yL];exact h
 rw[aE]
 have e:B7 (qf m i t) n=(B7 m n).set i (.pv (.bool true)):=by
   unfold B7;rw[Ps,List.map_set]
 rw[e,List.set_eq_take_append_cons_drop,if_pos hl];simp
theorem Px{m:Mt}{n i:Nat}{t:Ty}(h:i<n):aR (fQ (gR m n) 0) (i*5) t.cl=fQ (gR (qf m i t) n) 0:=by
 rw[JR];exact Pt (by rw[ja];exact h)
def nY(m:Mt)(n:Nat):Sh:=[some (fQ (gR m n) 0),some (B7 m n)]
theorem eg{m:Mt}{n:Nat}:bf (nY m n):=bf.app (bf.one j_) (bf.one Fj)
theorem BU{m m':Mt}{n n':Nat}:(nY m' n').take (nY m n).length=nY m' n':=rfl
def NX(n:Nat)(p:Ty):Prop:=∀x∈p.nodes,x.kind=2→0≤x.id∧x.id<n
theorem NX.gh{n:Nat}{p:Ty}(h:NX n p):∀y∈p.args,NX n y:=by
 intro y hy x hx;refine h x ?_;rw[Ty.aL p];simp only[List.mem_cons,List.mem_flatMap];exact .inr ⟨y,hy,hx⟩
theorem M6:∀{ps ts:List Ty} {m:Mt},(∀p∈ps,∀t∈ts,∀m,Fi m→Fi (Ty.rt t m p).2)→Fi m→Fi (Ty.Gd ts m ps).2
 |[],ts,m,_,h=>by simpa[Ty.Gd] using h
 |p::ps,[],m,_,h=>by simpa[Ty.Gd] using h
 |p::ps,t::ts,m,hp,h=>by
   have h1:=hp p (by simp) t (by simp) m h;simp only[Ty.Gd];split
   ·exact M6 (fun q hq u hu=>hp q (by simp[hq]) u (by simp[hu])) h1
   ·exact h1
theorem Vn{p:Ty}:∀{t:Ty},t.Ok→∀m,Fi m→Fi (Ty.rt t m p).2:=by
 refine Ty.dJ (p:=fun p=>∀{t:Ty},t.Ok→∀m,Fi m→Fi (Ty.rt t m p).2) ?_ p;intro p ih t ht m hm;rw[Ty.QR];split
 · split
   ·exact hm
   ·exact hm.put ht
 · split
   ·exact M6 (fun q hq u hu m hm=>ih q hq (ht.gh u hu) m hm) hm
   ·exact hm
theorem Vo{N:Nat}{p t:Ty}(hS:Sm t.args)(hl:p.args.length=t.args.length)(h:∀x∈p.args,∀y∈t.args,∀m,Fi m→(aF AP).i 240 [.pv x.pv,.pv y.pv,.aT 0 5 N true,.aT 1 1 N false] (nY m N) []=some ([.pv (.bool (Ty.rt y m x).1)],nY (Ty.rt y m x).2 N,[]))
   (hO:t.Ok):∀(n i:Nat),t.args.length-i=n→i≤t.args.length→∀m,Fi m →
   cl AP g240L0 ⟨[(2,.aT 0 5 N true),(3,.aT 1 1 N false),(4,.au 4 0),(5,.au 5 0),(9,.pv (vI i))],[(4,[.pv (vI p.kind),.pv (.str p.name),.pv (vI p.id),.pv (vI p.home),.pv (.aw (p.args.map Ty.pv))]),(5,[.pv (vI t.kind),.pv (.str t.name),.pv (vI t.id),.pv (vI t.home),.pv (.aw (t.args.map Ty.pv))])],nY m N,[]⟩ =
     if (Ty.Gd (t.args.drop i) m (p.args.drop i)).1=true then some (.exit 0,⟨[(2,.aT 0 5 N true),(3,.aT 1 1 N false),(4,.au 4 0),(5,.au 5 0),(9,.pv (vI t.args.length)),(80,.pv (.bool false))],[(4,[.pv (vI p.kind),.pv (.str p.name),.pv (vI p.id),.pv (vI p.home),.pv (.aw (p.args.map Ty.pv))]),(5,[.pv (vI t.kind),.pv (.str t.name),.pv (vI t.id),.pv (vI t.home),.pv (.aw (t.args.map Ty.pv))])],nY (Ty.Gd (t.args.drop i) m (p.args.drop i)).2 N,[]⟩)
     else some (.ret,⟨[(8,.pv (.bool false))],[],nY (Ty.Gd (t.args.drop i) m (p.args.drop i)).2 N,[]⟩)
 |0,i,hn,hi,m,hm=>by
   have:i=t.args.length:=by omega
   subst this;have e1:p.args.drop t.args.length=[]:=by rw[←hl];simp
   have h1:=(eg (m:=m) (n:=N)).norm;rw[g240L0e,e1];simp[g240B0,Ty.Gd,h1,hl]
 |n+1,i,hn,hi,m,hm=>by
   have hi:i<t.args.length:=(by omega);obtain⟨y,hy⟩:=aP hi;obtain⟨x,hx⟩:=aP (l:=p.args) (i:=i) (by omega);have hix:i<p.args.length:=(by omega);unfold Sm at hS;have h1:=(eg (m:=m) (n:=N)).norm;have h2:=(eg (m:=(Ty.rt y m x).2) (n:=N)).norm;have h3:=(eg (m:=(Ty.rt y m x).2) (n:=N)).shift;have k:=h x (aQ hx) y (aQ hy) m hm;have ih:=Vo hS hl h hO n (i+1) (by omega) (by omega) (Ty.rt y m x).2 (Vn (hO.gh y (aQ hy)) m hm);rw[g240L0e]at ih⊢;rw[bl hx,bl hy];simp only[Ty.Gd];simp[h2]at k ih;by_cases e:(Ty.rt y m x).1=true
   ·rw[e]at k;simp only[if_pos e];simp (disch:=omega) [-getElem?_pos,g240B0,hx,hy,hi,hix,k,aq,h1,h2,h3];rw[g240L0e];simp[ih,h2]
   ·have e':(Ty.rt y m x).1=false:=(by simpa using e);rw[e']at k;simp only[if_neg e];simp (disch:=omega) [-getElem?_pos,g240B0,hx,hy,hi,hix,k,aq,h1,h2,h3]
theorem c240{N:Nat}(hN:N<1099511627776){p:Ty}:∀{t:Ty},t.Ok→NX N p→∀m,Fi m→(aF AP).i 240 [.pv p.pv,.pv t.pv,.aT 0 5 N true,.aT 1 1 N false] (nY m N) []=some ([.pv (.bool (Ty.rt t m p).1)],nY (Ty.rt t m p).2 N,[]):=by
 refine Ty.dJ (p:=fun p=>∀{t:Ty},t.Ok→NX N p→∀m,Fi m→(aF AP).i 240 [.pv p.pv,.pv t.pv,.aT 0 5 N true,.aT 1 1 N false] (nY m N) []=some ([.pv (.bool (Ty.rt t m p).1)],nY (Ty.rt t m p).2 N,[])) ?_ p;intro p ih t ht hR m hm;have h1:=(eg (m:=m) (n:=N)).norm;have h2:=(eg (m:=m) (n:=N)).shift;rw[aB (af:=g240) rfl (by simp[g240]),Ty.QR];by_cases e2:p.kind=2
 · obtain⟨i0,i1⟩:=hR p (by rw[Ty.aL];simp) e2;obtain⟨k,hk,hkN⟩:=yn i0 i1;have kl:=Pv (m:=m) hkN;have kl2:=yL (m:=m) (n:=N);have al:=ph (d:=gR m N) (m:=0);rw[ja]at al;have fl:=qg (m:=m) hkN;have gl:=Pu fl;have hlen:k*5+5≤(fQ (gR m N) 0).length:=by omega
   have hk1:k+1≤N:=hkN;rw[if_pos e2,hk];cases hf:lM m k with
   |none=>
     rw[hf]at kl;have s1:=Px (m:=m) (t:=t) hkN;have s2:=Pw (m:=m) (t:=t) hkN;have h3:=(eg (m:=qf m k t) (n:=N)).norm;simp[nY,Ty.cl]at h1 h2 h3 kl s1 s2;simp (disch:=omega) [-getElem?_pos,g240,e2,hk,hkN,hk1,nY,h1,h2,h3,kl,kl2,BT,s1,s2,hlen]
   |some x=>
     rw[hf]at kl gl;have q:=c20 (a:=x) (b:=t) (hm _ _ hf);simp[nY,Ty.cl]at h1 h2 kl gl q;simp (disch:=omega) [-getElem?_pos,g240,e2,hk,hkN,hk1,nY,h1,h2,kl,kl2,BT,gl,hlen,q]
 · rw[if_neg e2];by_cases e:Vm p t=true
   · rw[if_pos e];simp[Vm]at e;obtain⟨⟨⟨⟨e1,e2'⟩,e3⟩,e4⟩,e5⟩:=e;have h:=Vo (N:=N) (p:=p) (t:=t) ht.sm e5 (fun x hx y hy m hm=>ih x hx (ht.gh y hy) (hR.gh x hx) m hm) ht _ 0 rfl (by omega) m hm;have h3:=(eg (m:=(Ty.Gd t.args m p.args).2) (n:=N)).norm;rw[g240L0e]at h;have e2t:¬t.kind=2:=by rw[←e1];exact e2
     simp[h1,e1,e2',e3,e4]at h;cases e6:(Ty.Gd t.args m p.args).1 with
     |true=>simp[e6]at h;simp[g240,e2t,e1,e2',e3,e4,e5,h1,h2,h3,BU,g240L0e,h]
     |false=>simp[e6]at h;simp[g240,e2t,e1,e2',e3,e4,e5,h1,h2,h3,BU,g240L0e,h]
   · rw[if_neg e]
     have:¬(p.kind=t.kind∧p.name=t.name∧p.id=t.id∧p.home=t.home∧p.args.length=t.args.length):=by
       rintro⟨h1,h2,h3,h4,h5⟩;apply e;simp[Vm,h1,h2,h3,h4,h5]
     by_cases q1:p.kind=t.kind
     · have e2':¬t.kind=2:=(by rw[←q1];exact e2);by_cases q2:p.name=t.name
       · by_cases q3:p.id=t.id
         · by_cases q4:p.home=t.home
           · have h5:¬p.args.length=t.args.length:=fun h5=>this ⟨q1,q2,q3,q4,h5⟩;have h5':¬(p.args.length:Int)=t.args.length:=by omega
             simp[g240,e2',q1,q2,q3,q4,h5',h1,h2]
           ·simp[g240,e2',q1,q2,q3,q4,h1,h2]
         ·simp[g240,e2',q1,q2,q3,h1,h2]
       ·simp[g240,e2',q1,q2,h1,h2]
     ·simp[g240,e2,q1,h1,h2]
theorem QS{n:Nat}:fQ (gR [] n) 0=(List.replicate n [.pv (vI 0),.pv (.str []),.pv (vI 0),.pv (vI 0),.pv (.aw [])]).flatten:=by
 have e:gR [] n=List.replicate n WJ:=by
   exact List.eq_replicate_iff.2 ⟨by simp[gR],by intro b hb;simp[gR,lM]at hb;exact hb.2.symm⟩
 rw[e];simp only[fQ,List.replicate_zero,List.flatten_nil,List.append_nil,List.flatMap_def,List.map_replicate];rfl
theorem Xb{n:Nat}:B7 [] n=List.replicate n (.pv (.bool false)):=List.eq_replicate_iff.2 ⟨yL,by intro b hb;simp[B7,QQ,lM]at hb;exact hb.2.symm⟩
theorem vt{s:List As}(hs:∀a∈s,a.ty.args=[]){t:Ty}(hW:t.Wf):(t.sub s).nodes.length=t.nodes.length:=by
 revert hW
 refine Ty.dJ (p:=fun t=>t.Wf→(t.sub s).nodes.length=t.nodes.length) ?_ t;intro t ih hW;rw[Ty.sub_eq];by_cases e:t.kind=1
 · rw[if_pos e];have ea:=hW.var e;cases hf:iQ s t.id with
   |none=>rfl
   |some u=>
     obtain⟨a,ha,rfl⟩:=i5 hf;rw[Option.getD_some,Ty.aL,Ty.aL t,hs a ha,ea];simp
 · rw[if_neg e,Ty.aL,Ty.aL t];simp only[List.length_cons,List.flatMap_map]
   have key:∀(l:List Ty),(∀y∈l,y∈t.args)→(l.flatMap fun y=>(y.sub s).nodes).length=(l.flatMap Ty.nodes).length:=by
     intro l;induction l with
     |nil=>intro _;rfl
     |cons a r ihr=>
       intro hl;simp only[List.flatMap_cons,List.length_append];rw[ih a (hl a (by simp)) (hW.gh a (hl a (by simp))),ihr (fun y hy=>hl y (by simp[hy]))]
   rw[key t.args (fun _ h=>h)]
noncomputable def M7(N:Nat)(p t:Ty):Option (List Ty):=if (Ty.rt t [] p).1=true then some (gR (Ty.rt t [] p).2 N) else none
theorem c238{N:Nat}(hN:N<1000000){p t:Ty}(ht:t.Ok)(hR:NX N p):(aF AP).p 238 [(As.mk N p).pv,t.pv]=some (rI (M7 N p t)):=by
 have k:=c240 (N:=N) (by omega) ht hR [] (by intro i x h;cases h);rw[ah (af:=g238) rfl rfl (by decide)];unfold M7;generalize hm:(Ty.rt t [] p).2=m at k⊢;have hfr:=Bw (d:=gR m N);have hle:=ph (d:=gR m N) (m:=0);rw[ja]at hfr hle;have h1:=(eg (m:=[]) (n:=N)).norm;have h2:=(eg (m:=m) (n:=N)).norm;have h3:=(eg (m:=m) (n:=N)).shift;have h4:=(bf.one (j_ (d:=gR [] N) (m:=0))).norm;have b1:(N:Int)≤9223372036854775807:=by omega
 have b2:(N:Int)*64≤140737488355328:=by omega
 have b3:(N:Int)≤140737488355328:=by omega
 have e0:nY [] N=[some ((List.replicate N [.pv (vI 0),.pv (.str []),.pv (vI 0),.pv (vI 0),.pv (.aw [])]).flatten),some (List.replicate N (.pv (.bool false)))]:=by unfold nY;rw[QS,Xb]
 rw[e0]at k h1;rw[QS]at h4;have h5:=(bf.one (Fj (m:=[]) (n:=N))).norm;rw[Xb]at h5;simp[nY]at hfr hle k h1 h2 h3 h4 h5;cases e:(Ty.rt t [] p).1 with
 |true=>
   rw[e]at k;simp (disch:=omega) [g238,b1,b2,b3,h1,h2,h3,h4,h5,k,hfr,hle,rI]
 |false=>
   rw[e]at k;simp (disch:=omega) [g238,b1,b2,b3,h1,h2,h3,h4,h5,k,rI]
theorem Ge:∀{l:List Int} {i:Nat} {v:Int} {x:Ty},iQ (cH i l) v=some x→∃k:Nat,x=aK k
 |[],i,v,x,h=>by simp[cH,iQ]at h
 |a::r,i,v,x,h=>by
   simp only[cH,iQ]at h;split at h
   ·cases h;exact⟨i,rfl⟩
   ·exact Ge h
theorem wO{l:List Int}{i:Nat}:∀a∈cH i l,a.ty.args=[]:=by
 induction l generalizing i with
 |nil=>simp[cH]
 |cons v r ih=>
   intro a ha;simp only[cH,List.mem_cons]at ha;rcases ha with rfl|ha
   ·rfl
   ·exact ih a ha
theorem Gf{l:List Int}{i:Nat}:∀a∈cH i l,a.ty.Ok:=fun a ha=>bL (wO a ha)
theorem Py{l:List Int}{u:Ty}(h:JQ u):JQ (u.sub (cH 0 l)):=by
 refine⟨⟨yp Gf h.1.1,?_⟩,?_⟩
 ·refine ue (K:=KS) h.1.2 (fun k q _=>q) ?_ (.inl (by simp));intro i x hx;obtain⟨k,rfl⟩:=Ge hx;exact ug
 ·rw[vt wO h.1.2.wf];exact h.2
theorem M8{l:List Ty}{k:Int}(h:∀u∈l,JQ u):(l.flatMap (Ty.eJ k)).length≤l.length*4000:=by
 induction l with
 |nil=>simp
 |cons a r ih=>
   have h1:=(h a (by simp)).2;have h2:=nr (k:=k) (t:=a);have h3:=ih fun u hu=>h u (by simp[hu])
   simp only[List.flatMap_cons,List.length_append,List.length_cons];omega
theorem c395k{l:List Ty}(hl:l.length≤1000000)(h:∀u∈l,JQ u):(aF AP).i 395 [.pv (.aw (l.map Ty.pv))] [] []=some ([.own ((l.map (Ty.sub (cH 0 (vars l)))).map Ty.pv) 0],[],[l.length]):=by
 have hlen:=M8 (k:=1) h;refine c395i (S:=l.flatMap (Ty.eJ 1)) (by omega) ?_ (by unfold Sm;omega) ?_
 ·intro x hx;simp only[List.mem_flatMap]at hx;obtain⟨u,_,hx⟩:=hx;exact bL (kL x hx)
 ·intro t ht;refine⟨(h t ht).1.1,(h t ht).1.2.wf,?_⟩;intro x hx;simp only[List.mem_flatMap];exact⟨t,ht,hx⟩
structure Wd(n M:Nat)(s:de)(c:Sc)(K:Nat)(g:Ty)(vs:List As):Prop where
 inv:Inv n M (dq n) s
 hn:n≤6000
 hm:M≤1000000
 id:c.id=K
 k:K≤100
 ok:c.ty.Ok
 kn:c.ty.Kn KV
 J':NX K c.ty
 gQ:∀w,ef c.ty w→w∈dq n
 g:Fit (dq n) g
 Xu:∀x∈vs,Fit (dq n) x.ty
 vl:vs.length≤5000
theorem c389{n M:Nat}{s:de}{c:Sc}{K:Nat}{g:Ty}{vs:List As}(E:Wd n M s c K g vs){N:Nat}(hN:N≤10):∃(l1 l2:List Ty) (b:Bool),
   (aF AP).p 389 [s.pv,c.pv,g.pv,.aw (vs.map As.pv),vI N]=some [.aw (l1.map Ty.pv),.aw (l2.map Ty.pv),.bool b]∧(∀u∈l1++l2,JQ u)∧l1.length≤6000∧l2.length≤N:=by
 have h0:=QK E.inv E.id (by have:=E.hn;have:=E.k;omega) (by have:=E.hm;omega) (g:=g) (p3:=.aw (vs.map As.pv)) (p4:=vI N) K 0 (by omega) (by omega) [] rfl;have I1:=nv E.inv K;have hnk:n+K≤6100:=by have:=E.hn;have:=E.k;omega
 have hM1:M+K*(2*(n+K)+4)≤5000000:=by
   have:K*(2*(n+K)+4)≤100*12204:=Nat.mul_le_mul E.k (by omega);have:=E.hm;omega
 have e0:pz s 0=s:=rfl;rw[e0]at h0;have hin:([]++(List.range' 0 (K-0)).map fun j=>aK (n+j:Nat))=(List.range K).map fun j=>aK (n+j:Nat):=by rw[List.nil_append,Nat.sub_zero,List.range_eq_range']
 rw[hin]at h0
 have hiv:∀x∈(List.range K).map (fun j=>aK (n+j:Nat)),∃j:Nat,j<K∧x=aK (n+j:Nat):=by
   intro x hx;simp only[List.mem_map,List.mem_range]at hx;obtain⟨j,hj,rfl⟩:=hx;exact⟨j,hj,rfl⟩
 have hil:((List.range K).map (fun j=>aK (n+j:Nat))).length=K:=by simp
 generalize (List.range K).map (fun j=>aK (n+j:Nat))=ins at *
 have hii:∀x∈ins,Fit (dq (n+K)) x:=by
   intro x hx;obtain⟨j,hj,rfl⟩:=hiv x hx;exact lL (dG.2 (by omega))
 have k1:=c48 (s:=ins) (by unfold Sm;omega) E.ok;have mono:=kO (n:=n) (m:=n+K) (by omega)
 have W:Fit (dq (n+K)) (c.ty.kf ins):=by
   refine⟨Fb (fun x hx=>(hii x hx).ok) E.ok,Ff E.kn (by simp only[KV,KS];omega) (fun x hx=>(hii x hx).wf) (fun y hy hk=>by have:=E.J' y hy hk;omega),?_⟩;intro w ho;rcases Gc w ho with h|⟨x,hx,h⟩
   ·exact mono w (E.gQ w h)
   ·exact (hii x hx).gQ w h
 have X:Vk (n+K) (M+K*(2*(n+K)+4)) (pz s K) (c.ty.kf ins) (c.ty.kf ins) g [] vs:=⟨I1,W,W,E.g.bQ mono,by simp,fun x hx=>(E.Xu x hx).bQ mono⟩;generalize c.ty.kf ins=w at *;generalize pz s K=s1 at *;have hpv:c.pv=.agg [vI c.id,vI c.ty.kind,.str c.ty.name,vI c.ty.id,vI c.ty.home,.aw (c.ty.args.map Ty.pv)]:=rfl;have hK:=E.id;rw[g389L0e]at h0;simp[sC,uf,tC,hK]at h0 k1
 have bad:∀r,(aF AP).p 389 [s.pv,c.pv,g.pv,.aw (vs.map As.pv),vI N]=some [.aw [],.aw [],.bool false]→r=r→∃(l1 l2:List Ty) (b:Bool),
     (aF AP).p 389 [s.pv,c.pv,g.pv,.aw (vs.map As.pv),vI N]=some [.aw (l1.map Ty.pv),.aw (l2.map Ty.pv),.bool b]∧(∀u∈l1++l2,JQ u)∧l1.length≤6000∧l2.length≤N:=fun (_:Nat) h _=>⟨[],[],false,h,by simp,by simp,by simp⟩
 rcases QM (vs:=vs) (N:=N) (by omega) N (n+K) _ s1 w [] (by simp) (by simp) X (by omega) (by omega) with⟨q,h1⟩|⟨m,M',s2,t2,args,hm,hM,Xy,E2,h1⟩
 ·refine bad 0 ?_ rfl;rw[g389L1e]at h1;simp[lX,mR,sC,tC]at h1;rw[ah (af:=g389) rfl rfl (by decide)];simp[g389,hK,g389L0e,h0,k1,g389L1e,h1]
 · have hsl:=E2.inv.len;have hsm:Sm s2.sl:=(by unfold Sm;omega);have k2:=c386 hsm (t:=t2);have F:=E2.t.wk E2.inv
   change (aF AP).p 386 [s2.pv,t2.pv]=some [(iE s2.sl t2).pv]at k2
   generalize iE s2.sl t2=x at *;obtain⟨a,b,cc,k3,_⟩:=c194f F;rw[g389L1e]at h1;simp[lX,sC,tC]at h1 k2 k3;cases cc with
   |true=>
     refine bad 0 ?_ rfl;rw[ah (af:=g389) rfl rfl (by decide)];simp[g389,hK,g389L0e,h0,k1,g389L1e,h1,k2,k3]
   |false=>
     have nl:∀w∈dq m,w<m:=fun w h=>(dG.1 h).2;obtain⟨s3,k4,I3⟩:=c394 (Po (by omega) (by omega)) nl E2.inv F;obtain⟨s4,k5,I4⟩:=c394 (Po (by omega) (by omega)) nl I3 E2.g;obtain⟨s5,e,k6,I5,_⟩:=c385 (Po (by omega) (by omega)) I4 F E2.g;have hsm5:Sm s5.sl:=by unfold Sm;rw[I5.len];omega
     obtain⟨r,k7,_,_,_⟩:=c355 hsm5 I5.ok (m:=200) (by omega) E2.w.ok;simp at k4 k5 k6 k7;by_cases he:e=0
     · subst he;by_cases hr:(200:Int)<r
       ·refine bad 0 ?_ rfl;rw[ah (af:=g389) rfl rfl (by decide)];simp[g389,hK,g389L0e,h0,k1,g389L1e,h1,k2,k3,k4,k5,k6,k7,hr]
       · rcases QN I5 (by omega) (vs:=vs) (by have:=E.vl;omega) E2.vs (args:=args) _ 0 rfl (by omega) [] rfl (by simp) with⟨q,h2⟩|⟨us,hul,huo,h2⟩
         ·refine bad 0 ?_ rfl;rw[g389L2e]at h2;simp[mR,sC]at h2;rw[ah (af:=g389) rfl rfl (by decide)];simp[g389,hK,g389L0e,h0,k1,g389L1e,h1,k2,k3,k4,k5,k6,k7,hr,g389L2e,h2]
         · obtain⟨vs2,g1,g2,g3,h3⟩:=QO I5 (by omega) (p3:=.aw (vs.map As.pv)) (args:=args) (by omega) E2.args (V:=vs.length) _ 0 rfl (by omega) us (by omega) (by have:=E.vl;omega) huo;have hvl:=E.vl;have k8:=c395k (l:=vs2) (by omega) g2;have hl3:(vs2.map (Ty.sub (cH 0 (vars vs2)))).length=vs2.length:=by simp
           have ho3:∀u∈vs2.map (Ty.sub (cH 0 (vars vs2))),JQ u:=by
             intro u hu;simp only[List.mem_map]at hu;obtain⟨y,hy,rfl⟩:=hu;exact Py (g2 y hy)
           generalize vs2.map (Ty.sub (cH 0 (vars vs2)))=l at *;refine⟨l.take vs.length,l.drop vs.length,true,?_,by rw[List.take_append_drop];exact ho3,by simp;omega,by simp;omega⟩;have q1:=UU (sz:=5) (τ:=2) (l:=l.map Ty.pv) (k:=.i64) (h:=(vs.length:Int)) (by omega) (by simp;omega);have q2:=QP (sz:=5) (τ:=2) (l:=l.map Ty.pv) (k:=.i64) (h:=(vs.length:Int)) (by omega) (by simp;omega) (pk.head l);rw[g389L2e]at h2;rw[g389L3e]at h3;simp[sC]at h2 h3;simp at k8 q1 q2;rw[ah (af:=g389) rfl rfl (by decide)];simp[g389,hK,g389L0e,h0,k1,g389L1e,h1,k2,k3,k4,k5,k6,k7,hr,g389L2e,h2,g389L3e,h3,k8,q1,q2]
     ·refine bad 0 ?_ rfl;rw[ah (af:=g389) rfl rfl (by decide)];simp[g389,hK,g389L0e,h0,k1,g389L1e,h1,k2,k3,k4,k5,k6,he]
structure Hd where
 name:bX
 kr:Bool
 args:List Ty
 types:List Ty
def Hd.pv(h:Hd):PV:=.agg [.str h.name,.bool h.kr,.aw (h.args.map Ty.pv),.aw (h.types.map Ty.pv)]
@[simp] theorem Hd.jD(h:Hd):h.pv=.agg [.str h.name,.bool h.kr,.aw (h.args.map Ty.pv),.aw (h.types.map Ty.pv)]:=rfl
theorem M9:El Hd.pv 4 true:=⟨fun _=>rfl,fun _=>rfl⟩
@[simp] theorem TQ{l:List Hd}:a_ 4 (l.map Hd.pv)=true:=M9.head l
def ui(h:Hd):Prop:=h.args.length≤3∧(∀u∈h.args,JQ u)∧h.name.length≤100
def hC(nm:bX)(cn:Bool):List AV:=[.pv (.str nm),.pv (.bool cn),.pv (.aw []),.pv (.aw [])]
theorem S4{n M:Nat}{s:de}{c:Sc}{K:Nat}{g:Ty}{vs:List As}(E:Wd n M s c K g vs){nm:bX}(hnm:nm.length≤100){cn:Bool}:∀(k i:Nat),4-i=k→i≤4→∀acc:List Hd,acc.length≤i→(∀h∈acc,ui h) →
   ∃hs:List Hd,hs.length≤4∧(∀h∈hs,ui h)∧cl AP g378L0 ⟨[(3,.pv (.aw (vs.map As.pv))),(4,.pv (vI 3)),(6,.au 6 0),(7,.au 7 0),(8,.au 8 0),(11,.au 11 0),(13,.own (acc.map Hd.pv) 0),(14,.pv (vI i))],[(6,sC s),(7,uf c),(8,tC g),(11,hC nm cn)],[],[acc.length]⟩ =
     some (.exit 0,⟨[(3,.pv (.aw (vs.map As.pv))),(4,.pv (vI 3)),(6,.au 6 0),(7,.au 7 0),(8,.au 8 0),(11,.au 11 0),(13,.own (hs.map Hd.pv) 0),(14,.pv (vI 4)),(21,.pv (.bool false))],[(6,sC s),(7,uf c),(8,tC g),(11,hC nm cn)],[],[hs.length]⟩)
 |0,i,hk,hi,acc,ha,ho=>by
   have:i=4:=by omega
   subst this;refine⟨acc,ha,ho,?_⟩;rw[g378L0e];simp[g378B0,sC,uf,tC,hC]
 |k+1,i,hk,hi,acc,ha,ho=>by
   have hi:i<4:=(by omega);have hi3:(i:Int)≤3:=(by omega);obtain⟨l1,l2,b,e,hO,n1,n2⟩:=c389 E (N:=i) (by omega);simp at e;cases b with
   |false=>
     obtain⟨hs,h1,h2,e'⟩:=S4 E (nm:=nm) hnm (cn:=cn) k (i+1) (by omega) (by omega) acc (by omega) ho;refine⟨hs,h1,h2,?_⟩;rw[g378L0e]at e' ⊢;simp[sC,uf,tC,hC]at e';simp (disch:=omega) [-getElem?_pos,g378B0,sC,uf,tC,hC,hi3,e,aq];rw[g378L0e];simp[e']
   |true=>
     have hb1:l1.length*64≤140737488355328:=(by omega);have hb2:l2.length*64≤140737488355328:=(by omega);have hb3:(acc.length+1)*72≤140737488355328:=(by omega);have hh1:=pk.head l1;have hh2:=pk.head l2
     obtain⟨hs,h1,h2,e'⟩:=S4 E (nm:=nm) hnm (cn:=cn) k (i+1) (by omega) (by omega) (acc++[⟨nm,cn,l2,l1⟩]) (by simp;omega) (by
       intro h hh;simp at hh;rcases hh with hh|rfl
       ·exact ho h hh
       ·exact⟨by simp only;omega,fun u hu=>hO u (by simp[hu]),hnm⟩)
     refine⟨hs,h1,h2,?_⟩;rw[g378L0e]at e' ⊢;simp[sC,uf,tC,hC]at e';by_cases z1:l1=[]
     · by_cases z2:l2=[]
       ·subst z1;subst z2;simp at e e';simp (disch:=omega) [-getElem?_pos,g378B0,sC,uf,tC,hC,hi3,e,aq,hb3];rw[g378L0e];simp[e']
       ·subst z1;simp at e e';simp (disch:=omega) [-getElem?_pos,g378B0,sC,uf,tC,hC,hi3,e,aq,hb2,hb3,hh2,z2];rw[g378L0e];simp[e']
     · by_cases z2:l2=[]
       ·subst z2;simp at e e';simp (disch:=omega) [-getElem?_pos,g378B0,sC,uf,tC,hC,hi3,e,aq,hb1,hb3,hh1,z1];rw[g378L0e];simp[e']
       ·simp (disch:=omega) [-getElem?_pos,g378B0,sC,uf,tC,hC,hi3,e,aq,hb1,hb2,hb3,hh1,hh2,z1,z2];rw[g378L0e];simp[e']
theorem c378{n M:Nat}{s:de}{c:Sc}{K:Nat}{g:Ty}{vs:List As}(E:Wd n M s c K g vs){nm:bX}(hnm:nm.length≤100){cn:Bool}:∃hs:List Hd,hs.length≤4∧(∀h∈hs,ui h) ∧
   (aF AP).p 378 [s.pv,c.pv,g.pv,.aw (vs.map As.pv),vI 3,.agg [.str nm,.bool cn,.aw [],.aw []]]=some [.aw (hs.map Hd.pv)]:=by
 obtain⟨hs,h1,h2,e⟩:=S4 E (nm:=nm) hnm (cn:=cn) _ 0 rfl (by omega) [] (by simp) (by simp);refine⟨hs,h1,h2,?_⟩;rw[ah (af:=g378) rfl rfl (by decide)];rw[g378L0e]at e;simp[sC,uf,tC,hC]at e;simp[g378,g378L0e,e]
theorem JS{t:Ty}:∀y∈t.args,∀v∈y.nodes,v∈t.nodes:=by
 intro y hy v hv;rw[Ty.aL];simp only[List.mem_cons,List.mem_flatMap];exact .inr ⟨y,hy,hv⟩
theorem Kn.BV{K:Int→Prop}(t:Ty):(∀y∈t.nodes,(y.kind≠4→K y.kind∧y.args=[])∧y.name.length≤100)→t.Kn K:=by
 refine Ty.dJ (p:=fun t=>(∀y∈t.nodes,(y.kind≠4→K y.kind∧y.args=[])∧y.name.length≤100)→t.Kn K) ?_ t;intro t ih h;refine .mk (h t (by rw[Ty.aL];simp)).1 (h t (by rw[Ty.aL];simp)).2 fun x hx=>ih x hx fun y hy=>h y (JS x hx y hy)
theorem qY(t:Ty):(∀y∈t.nodes,y.args.length≤100)→t.Ok:=by
 refine Ty.dJ (p:=fun t=>(∀y∈t.nodes,y.args.length≤100)→t.Ok) ?_ t;intro t ih h;refine .mk (by have:=h t (by rw[Ty.aL];simp);unfold Sm;omega) fun x hx=>ih x hx fun y hy=>h y (JS x hx y hy)
theorem uj{K:Int→Prop}{t:Ty}{w:Int}(h:ef t w):t.Kn K→¬K 1→False:=by
 induction h with
 | @var t q=>intro hk h1;have:=(hk.hd (by rw[q];decide)).1;rw[q]at this;exact h1 this
 |arg _ ha _ ih=>intro hk h1;exact ih (hk.kd _ ha) h1
structure bH(t:Ty):Prop where
 ok:t.Ok
 kn:t.Kn KG
structure gU(c:Sc):Prop where
 ok:c.ty.Ok
 kn:c.ty.Kn KC
 J':∃K:Nat,c.id=K∧K≤100∧NX K c.ty
theorem bH.fit{S:List Int}{t:Ty}(h:bH t):Fit S t:=⟨h.ok,h.kn.imp Qu,fun _ ho=>(uj ho h.kn (by simp)).elim⟩
theorem bH.gh{t:Ty}(h:bH t):∀x∈t.args,bH x:=fun x hx=>⟨h.ok.gh x hx,h.kn.kd x hx⟩
theorem gU.Xc{c:Sc}(h:gU c){g:Ty}(hg:bH g):∃K,Wd 0 0 (sa 0) c K g []:=by
 obtain⟨K,h1,h2,h3⟩:=h.J';exact⟨K,⟨sb 0,by omega,by omega,h1,h2,h.ok,h.kn.imp Qv,h3,fun _ ho=>(uj ho h.kn (by simp)).elim,hg.fit,by simp,by simp⟩⟩
theorem bH.mono{t:Ty}(h:bH t):gU ⟨0,t⟩:=⟨h.ok,h.kn.imp U8,0,rfl,by omega,fun y hy hk=>by have:=(h.kn.nodes y hy (by rw[hk];decide)).1;rw[hk]at this;simp at this⟩
theorem pA:bH bj:=⟨bL rfl,.bare rfl (by simp[bj]) (by simp[bj])⟩
def Pz(c:Sc):Bool:=c.ty.nodes.all fun y=>(decide (y.args.length≤100) && decide (y.name.length≤100)) && (decide (y.kind=4) || (decide (y.kind=0) || decide (y.kind=2) || decide (y.kind=3)) && decide (y.args.length=0)) && (decide (y.kind≠2) || decide (0≤y.id) && decide (y.id<c.id))
theorem yM{c:Sc}{K:Nat}(hc:c.id=K)(hK:K≤100)(h:Pz c=true):gU c:=by
 simp only[Pz,List.all_eq_true,Bool.and_eq_true,Bool.or_eq_true,decide_eq_true_eq]at h;refine⟨qY _ fun y hy=>(h y hy).1.1.1,Kn.BV _ fun y hy=>⟨fun hk=>?_,(h y hy).1.1.2⟩,K,hc,hK,fun y hy hk=>?_⟩
 · rcases (h y hy).1.2 with q|⟨q,q2⟩
   ·exact absurd q hk
   ·exact⟨by simp only[KC];omega,List.length_eq_zero_iff.1 q2⟩
 · rcases (h y hy).2 with q|q
   ·exact absurd hk q
   ·omega
theorem PA:∀d∈cq,d.params.length≤100∧∀c∈d.cons,Pz ⟨d.params.length,Fg d.params c.fields (M4 d)⟩=true:=by decide +kernel
theorem wP{ds:List Dt}(hD:∀d∈ds,d∈cq){s:bX}:gU ((mQ ds s).getD e_):=by
 cases e:mQ ds s with
 |none=>exact⟨bL rfl,.bare rfl (by simp[e_]) (by simp[e_]),0,rfl,by omega,by intro y hy hk;simp[e_,Ty.aL]at hy;rw[hy]at hk;simp at hk⟩
 |some sc=>
   simp only[mQ,Option.bind_eq_some_iff,Option.map_eq_some_iff]at e;obtain⟨q,_,d,hd,c,hc,rfl⟩:=e;obtain⟨h1,h2⟩:=PA d (hD d (aQ hd));exact yM (K:=d.params.length) rfl h1 (h2 c (aQ hc))
theorem dz:∀d∈cq,d.params.length≤8∧d.cons.length≤8∧∀c∈d.cons,c.fields.length≤8∧∀x∈c.fields,x.nodes.all (fun y=>(decide (y.args.length≤100) && decide (y.name.length≤100)) && (decide (y.kind=4) || decide (y.kind=5) && decide (y.args.length=0)))=true:=by decide +kernel
theorem S5:∀d∈cq,d.cons.length≤3:=by decide +kernel
theorem Gg{d:Dt}(hd:d∈cq):∀c∈d.cons,Sm c.fields∧(∀x∈c.fields,x.Ok)∧∀x∈c.fields,x.Kn (·=5):=by
 intro c hc;obtain⟨_,_,h⟩:=dz d hd;obtain⟨h1,h2⟩:=h c hc;simp only[List.all_eq_true,Bool.and_eq_true,Bool.or_eq_true,decide_eq_true_eq]at h2;refine⟨by unfold Sm;omega,fun x hx=>qY _ fun y hy=>(h2 x hx y hy).1.1,fun x hx=>Kn.BV _ fun y hy=>⟨fun hk=>?_,(h2 x hx y hy).1.2⟩⟩;rcases (h2 x hx y hy).2 with q|⟨q,q2⟩
 ·exact absurd q hk
 ·exact⟨q,List.length_eq_zero_iff.1 q2⟩
theorem oD:∀d∈cq,d.name.length≤100∧∀c∈d.cons,c.name.length≤100:=by decide +kernel
structure pB(ds:List Dt):Prop where
 all:∀d∈ds,d∈cq
 len:ds.length≤8
theorem pB.c193{ds:List Dt}(h:pB ds){s:bX}:(aF AP).p 193 [.aw (ds.map Dt.pv),.str s]=some (MA (mQ ds s)):=
 Lw.c193 (by have:=h.len;unfold Sm;omega) (fun d hd=>by have:=(dz d (h.all d hd)).2.1;unfold Sm;omega) (fun d hd=>by have:=(dz d (h.all d hd)).1;unfold Sm;omega) (fun d hd c hc=>by
   obtain⟨a,b,c2⟩:=Gg (h.all d hd) c hc;exact⟨a,b,fun x hx=>(c2 x hx).cw⟩)
theorem PB{l:List Ty}(h:∀t∈l,∃K:Int→Prop,t.Kn K∧¬K 1):vars l=[]:=by
 have:∀y∈l.flatMap Ty.nodes,y.kind≠1:=by
   intro y hy hk;simp only[List.mem_flatMap]at hy;obtain⟨t,ht,hy⟩:=hy;obtain⟨K,hK,h1⟩:=h t ht;have:=(hK.nodes y hy (by rw[hk];decide)).1;rw[hk]at this;exact h1 this
 unfold vars;generalize l.flatMap Ty.nodes=m at *;induction m with
 |nil=>rfl
 |cons a r ih=>
   have:cS [] a=[]:=by simp[cS,this a (by simp)]
   rw[List.foldl_cons,this];exact ih fun y hy=>by rename_i h2;exact h2 y (by simp[hy])
theorem M_{k:Int}{t:Ty}:∀y∈t.eJ k,y∈t.nodes∧y.kind=k:=by
 refine Ty.dJ (p:=fun t=>∀y∈t.eJ k,y∈t.nodes∧y.kind=k) ?_ t;intro t ih y hy;rw[Ty.lH]at hy;rw[Ty.aL];split at hy
 ·rename_i q;simp at hy;subst hy;exact⟨by simp,q.1⟩
 ·simp only[List.mem_flatMap]at hy;obtain⟨a,ha,hy⟩:=hy;have:=ih a ha y hy;exact⟨by simp only[List.mem_cons,List.mem_flatMap];exact .inr ⟨a,ha,this.1⟩,this.2⟩
theorem Gi{K:Int→Prop}{t:Ty}(h:t.Kn K)(h1:¬K 1)(hO:t.Ok):Good [] t:=⟨hO,h.wf,by
 intro y hy;obtain⟨a,b⟩:=M_ y hy;have:=(h.nodes y a (by rw[b];decide)).1;rw[b]at this;exact absurd this h1⟩
theorem BW(t:Ty):t.sub []=t:=by
 refine Ty.dJ (p:=fun t=>t.sub []=t) ?_ t;intro t ih;rw[Ty.sub_eq];split
 ·simp[iQ]
 · have:t.args.map (Ty.sub [])=t.args:=by
     conv=>rhs;rw[←List.map_id t.args]
     exact List.map_congr_left fun x hx=>by simpa using ih x hx
   rw[this];cases t;rfl
def yZ:List AV:=[.pv (.aw []),.pv (.aw [])]
theorem QT{g:Ty}(hg:bH g){ds:List Dt}{E:List En}(hE:Sm E)(hc:∀x∈E,gU x.sc)(hnm:∀x∈E,x.name.length≤100){T:Nat}(hT:T≤1000000):∀(n i:Nat),E.length-i=n→i≤E.length→∀acc:List Hd,acc.length+4*n≤T→(∀h∈acc,ui h) →
   ∃hs:List Hd,hs.length≤T∧(∀h∈hs,ui h)∧cl AP g362L0 ⟨[(0,.pv (.aw (ds.map Dt.pv))),(4,.pv (vI 3)),(14,.au 14 0),(15,.pv (.aw [])),(16,.au 16 0),(17,.own (acc.map Hd.pv) 0),(18,.pv (.aw (E.map En.pv))),(19,.pv (vI i))],[(14,yZ),(16,tC g)],[],[acc.length]⟩ =
     some (.exit 0,⟨[(0,.pv (.aw (ds.map Dt.pv))),(4,.pv (vI 3)),(14,.au 14 0),(15,.pv (.aw [])),(16,.au 16 0),(17,.own (hs.map Hd.pv) 0),(18,.pv (.aw (E.map En.pv))),(19,.pv (vI E.length)),(51,.pv (.bool false))],[(14,yZ),(16,tC g)],[],[hs.length]⟩)
 |0,i,hn,hi,acc,ha,ho=>by
   have:i=E.length:=by omega
   subst this;refine⟨acc,by omega,ho,?_⟩;rw[g362L0e];simp[g362B0,yZ,tC]
 |n+1,i,hn,hi,acc,ha,ho=>by
   have hi:i<E.length:=(by omega);obtain⟨x,hx⟩:=aP hi;have hs:=hc x (aQ hx);obtain⟨K,El⟩:=hs.Xc hg;obtain⟨l,q1,q2,k2⟩:=c378 El (nm:=x.name) (hnm x (aQ hx)) (cn:=false);have k1:=c377 (s:=[]) (by simp[Sm]) hs.ok;rw[BW]at k1
   obtain⟨hs,h1,h2,e'⟩:=QT hg (ds:=ds) hE hc hnm hT n (i+1) (by omega) (by omega) (acc++l) (by simp;omega) (by
     intro h hh;simp at hh;rcases hh with hh|hh
     ·exact ho h hh
     ·exact q2 h hh)
   refine⟨hs,h1,h2,?_⟩;unfold Sm at hE;have hb:(acc.length+l.length)*72≤140737488355328:=by omega
   have hb0:acc.length*72≤140737488355328:=(by omega);have hh:=M9.head l;rw[g362L0e]at e' ⊢;simp[yZ,tC]at e';simp[sa]at k1 k2 hh;by_cases z:l=[]
   ·subst z;simp at k2 e';simp (disch:=omega) [-getElem?_pos,g362B0,yZ,tC,hx,hi,k1,k2,hb0,aq];rw[g362L0e];simp[e']
   ·simp (disch:=omega) [-getElem?_pos,g362B0,yZ,tC,hx,hi,k1,k2,hb,hh,z,aq];rw[g362L0e];simp[e']
theorem QU{g:Ty}(hg:bH g){ds:List Dt}(hD:pB ds){I:Nat}{d:Dt}(hd:ds[I]?=some d){T:Nat}(hT:T≤1000000):∀(n i:Nat),d.cons.length-i=n→i≤d.cons.length→∀acc:List Hd,acc.length+4*n≤T→(∀h∈acc,ui h) →
   ∃hs:List Hd,hs.length≤T∧(∀h∈hs,ui h)∧cl AP g362L2 ⟨[(0,.pv (.aw (ds.map Dt.pv))),(4,.pv (vI 3)),(14,.au 14 0),(15,.pv (.aw [])),(16,.au 16 0),(17,.own (acc.map Hd.pv) 0),(21,.pv (vI I)),(22,.pv (vI i))],[(14,yZ),(16,tC g)],[],[acc.length]⟩ =
     some (.exit 4,⟨[(0,.pv (.aw (ds.map Dt.pv))),(4,.pv (vI 3)),(14,.au 14 0),(15,.pv (.aw [])),(16,.au 16 0),(17,.own (hs.map Hd.pv) 0),(21,.pv (vI I)),(22,.pv (vI d.cons.length)),(88,.pv (.bool false))],[(14,yZ),(16,tC g)],[],[hs.length]⟩)
 |0,i,hn,hi,acc,ha,ho=>by
   have:i=d.cons.length:=by omega
   subst this;refine⟨acc,by omega,ho,?_⟩;have hI:=(List.getElem?_eq_some_iff.1 hd).1;rw[g362L2e];simp[-getElem?_pos,g362B2,yZ,tC,hd,hI]
 |n+1,i,hn,hi,acc,ha,ho=>by
   have hi:i<d.cons.length:=(by omega);have hI:=(List.getElem?_eq_some_iff.1 hd).1;obtain⟨c,hc⟩:=aP hi;have k1:=hD.c193 (s:=c.name);have hs:=wP hD.all (s:=c.name);have hc8:=(dz d (hD.all d (aQ hd))).2.1;generalize hsc:(mQ ds c.name).getD e_=sc at *;obtain⟨K,El⟩:=hs.Xc hg;obtain⟨l,q1,q2,k2⟩:=c378 El (nm:=c.name) ((oD d (hD.all d (aQ hd))).2 c (aQ hc)) (cn:=true)
   obtain⟨hs,h1,h2,e'⟩:=QU hg hD hd hT n (i+1) (by omega) (by omega) (acc++l) (by simp;omega) (by
     intro h hh;simp at hh;rcases hh with hh|hh
     ·exact ho h hh
     ·exact q2 h hh)
   refine⟨hs,h1,h2,?_⟩;have hb:(acc.length+l.length)*72≤140737488355328:=by omega
   have hb0:acc.length*72≤140737488355328:=(by omega);have hh:=M9.head l;rw[g362L2e]at e' ⊢;simp[yZ,tC]at e';simp[sa]at k2 hh;simp[MA,hsc]at k1;by_cases z:l=[]
   ·subst z;simp at k2 e';simp (disch:=omega) [-getElem?_pos,g362B2,yZ,tC,hd,hI,hc,hi,k1,k2,hb0,aq];rw[g362L2e];simp[e']
   ·simp (disch:=omega) [-getElem?_pos,g362B2,yZ,tC,hd,hI,hc,hi,k1,k2,hb,hh,z,aq];rw[g362L2e];simp[e']
theorem QV{g:Ty}(hg:bH g){ds:List Dt}(hD:pB ds){T:Nat}(hT:T≤1000000):∀(n i:Nat),ds.length-i=n→i≤ds.length→∀acc:List Hd,acc.length+32*n≤T→(∀h∈acc,ui h) →
   ∃hs:List Hd,hs.length≤T∧(∀h∈hs,ui h)∧cl AP g362L1 ⟨[(0,.pv (.aw (ds.map Dt.pv))),(4,.pv (vI 3)),(14,.au 14 0),(15,.pv (.aw [])),(16,.au 16 0),(17,.own (acc.map Hd.pv) 0),(21,.pv (vI i))],[(14,yZ),(16,tC g)],[],[acc.length]⟩ =
     some (.exit 2,⟨[(0,.pv (.aw (ds.map Dt.pv))),(4,.pv (vI 3)),(14,.au 14 0),(15,.pv (.aw [])),(16,.au 16 0),(17,.own (hs.map Hd.pv) 0),(21,.pv (vI ds.length)),(78,.pv (.bool false))],[(14,yZ),(16,tC g)],[],[hs.length]⟩)
 |0,i,hn,hi,acc,ha,ho=>by
   have:i=ds.length:=by omega
   subst this;refine⟨acc,by omega,ho,?_⟩;rw[g362L1e];simp[g362B1,yZ,tC]
 |n+1,i,hn,hi,acc,ha,ho=>by
   have hi:i<ds.length:=(by omega);obtain⟨d,hd⟩:=aP hi;have hc8:=(dz d (hD.all d (aQ hd))).2.1;obtain⟨l,q1,q2,e⟩:=QU hg hD hd (T:=acc.length+32) (by omega) _ 0 rfl (by omega) acc (by omega) ho;obtain⟨hs,h1,h2,e'⟩:=QV hg hD hT n (i+1) (by omega) (by omega) l (by omega) q2;refine⟨hs,h1,h2,?_⟩;have hl:=hD.len;rw[g362L1e]at e' ⊢;rw[g362L2e]at e;simp[yZ,tC]at e' e;simp (disch:=omega) [-getElem?_pos,g362B1,yZ,tC,hd,hi,aq];rw[g362L2e];simp (disch:=omega) [e,aq];rw[g362L1e];simp[e']
theorem c362{g:Ty}(hg:bH g){ds:List Dt}(hD:pB ds){l:List En}(hl:l.length≤10000)(hc:∀x∈l,gU x.sc)(hnm:∀x∈l,x.name.length≤100):∃hs:List Hd,hs.length≤100000∧(∀h∈hs,ui h) ∧
   (aF AP).p 362 [.aw (ds.map Dt.pv),.aw (l.map En.pv),g.pv,.aw [],vI 3]=some [.aw (hs.map Hd.pv)]:=by
 obtain⟨a,b,c,k1,_⟩:=c194g hg.ok;have hdl:=hD.len;cases c with
 |true=>
   refine⟨[],by simp,by simp,?_⟩;simp at k1;rw[ah (af:=g362) rfl rfl (by decide)];simp[g362,k1]
 |false=>
   have hsub:∀x∈bW l,gU x.sc:=fun x hx=>hc x (gN l x hx);have hsl:=kI l
   obtain⟨vs,hv,_,k2⟩:=c376 (S:=[]) (by simp) (by simp) (Gi hg.kn (by simp) hg.ok) (l:=l) (by unfold Sm;omega) (by omega) (fun x hx=>Gi (hc x hx).kn (by simp) (hc x hx).ok)
   have hv0:vs=[]:=by
     rw[hv];refine PB ?_;intro t ht;simp only[List.mem_cons,List.mem_map]at ht;rcases ht with rfl|⟨x,hx,rfl⟩
     ·exact⟨KG,hg.kn,by simp⟩
     ·exact⟨KC,(hsub x hx).kn,by simp⟩
   subst hv0;have k3:=c46 (s:=[]) (by simp[Sm]) hg.ok;rw[BW]at k3;have k4:=c201 (l:=l) (by unfold Sm;omega);obtain⟨o1,a1,a2,h1⟩:=QT hg (ds:=ds) (E:=bW l) (by unfold Sm;omega) hsub (fun x hx=>hnm x (gN l x hx)) (T:=40000) (by omega) _ 0 rfl (by omega) [] (by simp;omega) (by simp);obtain⟨o2,b1,b2,h2⟩:=QV hg hD (T:=100000) (by omega) _ 0 rfl (by omega) o1 (by omega) a2;refine⟨o2,b1,b2,?_⟩;rw[g362L0e]at h1;rw[g362L1e]at h2;generalize bW l=E at *;simp[yZ,tC]at h1 h2;simp at k1 k3 k4;simp[sa,cH]at k2;rw[ah (af:=g362) rfl rfl (by decide)];simp[g362,k1,k2,k3,k4,g362L0e,h1,g362L1e,h2]
def Fk(d:Dt):List AV:=[.pv (vI d.pos),.pv (.str d.name),.pv (.aw (d.params.map .str)),.pv (.aw (d.cons.map mG.pv))]
structure Tape(L:List Int)(tm:Nat)(TP:Int→Sh):Prop where
 get:∀i,(TP i)[tm]?=some (some [.pv (.aw (L.map vI)),.pv (vI i)])
 set:∀i j,(TP i).set tm (some [.pv (.aw (L.map vI)),.pv (vI j)])=TP j
 quiet:∀i,bf (TP i)
theorem Tape.norm{L:List Int}{tm:Nat}{TP:Int→Sh}(h:Tape L tm TP):∀i aN ts,cg aN ts (TP i)=(TP i,aN,ts):=fun i=>(h.quiet i).norm
theorem Tape.shift{L:List Int}{tm:Nat}{TP:Int→Sh}(h:Tape L tm TP):∀i n,gi n (TP i)=TP i:=fun i=>(h.quiet i).shift
theorem Tape.take{L:List Int}{tm:Nat}{TP:Int→Sh}(h:Tape L tm TP):∀i j,(TP j).take (TP i).length=TP j:=by
 intro i j;refine List.take_of_length_le ?_;rw[←h.set i j,List.length_set];exact Nat.le_refl _
theorem PC{L:List Int}{A B:Sh}(hA:bf A)(hB:bf B):Tape L A.length (fun i=>A++[some [.pv (.aw (L.map vI)),.pv (vI i)]]++B) where
 get:=fun i=>by simp
 set:=fun i j=>by simp[List.set_append]
 quiet:=fun i=>(hA.app (bf.one (by intro v hv;simp at hv;rcases hv with rfl|rfl<;>exact⟨_,rfl⟩))).app hB
theorem rH{L:List Int}{tm:Nat}{TP:Int→Sh}(hT:Tape L tm TP)(hL:Sm L){i:Nat}(hi:i≤L.length){n:Int}(h1:1≤n)(h2:n<4611686018427387904) :
   ∃(r:Int) (j:Nat),(aF AP).i 68 [.aM tm 0,.pv (vI n)] (TP i) []=some ([.pv (vI r)],TP j,[])∧0≤r∧r<n∧j≤L.length:=by
 unfold Sm at hL;have tn:=hT.norm;have tsh:=hT.shift;have tg:=hT.get;have tset:=hT.set;have tl:=hT.take;rw[aB (af:=g68) rfl (by simp[g68])];by_cases h:i<L.length
 · obtain⟨x,hx⟩:=aP h;obtain⟨r,e,e1,e2⟩:=c26 (n:=x) h1 h2;refine⟨r,i+1,?_,e1,e2,h⟩;have h':¬L.length≤i:=by omega
   simp (disch:=omega) [-getElem?_pos,g68,h',aq,hx,e,tn,tsh,tg,tset,tl]
 ·have h':L.length≤i:=(by omega);refine⟨0,i,?_,by omega,by omega,hi⟩;simp[-getElem?_pos,g68,h',tn,tsh,tg,tset,tl]
theorem Vp{L:List Int}{tm:Nat}{TP:Int→Sh}(hT:Tape L tm TP)(hL:Sm L){i:Nat}(hi:i≤L.length):∃(s:List UInt8) (j:Nat),(aF AP).i 175 [.aM tm 0] (TP i) []=some ([.pv (.str s)],TP j,[])∧s∈varNames∧j≤L.length:=by
 have tn:=hT.norm;have tsh:=hT.shift;have tl:=hT.take;obtain⟨k,j,e,k0,k8,hj⟩:=rH hT hL hi (n:=8) (by omega) (by omega);obtain⟨m,rfl,hm⟩:=yn (n:=varNames.length) k0 (by simpa[varNames] using k8);obtain⟨s,hs⟩:=aP hm;refine⟨s,j,?_,aQ hs,hj⟩
 try simp[tn,tsh,tl]at e
 rw[aB (af:=g175) rfl (by simp[tn,tsh,tl,g175])]
 have hs':([PV.str [120],.str [121],.str [122],.str [102],.str [103],.str [118,49],.str [118,50],.str [105,100]]:List PV)[m]?=some (.str s):=by
   have:([PV.str [120],.str [121],.str [122],.str [102],.str [103],.str [118,49],.str [118,50],.str [105,100]]:List PV)=varNames.map PV.str:=rfl;rw[this];simp[tn,tsh,tl,hs]
 simp[tn,tsh,tl,-getElem?_pos,g175,e,hs']
def pD(L:List Int)(tm:Nat)(TP:Int→Sh)(ds:List Dt)(lv:List Ty)(dep:Nat):Prop:=∀i:Nat,i≤L.length→∃(t:Ty) (j:Nat),
 (aF AP).i 27 [.aM tm 0,.pv (.aw (ds.map Dt.pv)),.pv (.aw (lv.map Ty.pv)),.pv (vI dep)] (TP i) []=some ([t.av],TP j,[])∧dL (·∈ds) lv dep t∧j≤L.length
theorem Vq{L:List Int}{tm:Nat}{TP:Int→Sh}(hT:Tape L tm TP){ds:List Dt}{lv:List Ty}{dep:Nat}(hdep:dep<1000)(hg:pD L tm TP ds lv dep){d:Dt}(hS:Sm d.params):∀(n k:Nat),d.params.length-k=n→k≤d.params.length→∀(acc:List Ty) (i:Nat),acc.length=k→(∀x∈acc,dL (·∈ds) lv dep x)→i≤L.length →
   ∃(r:List Ty) (j:Nat),cl AP g27L0 ⟨[(0,.aM tm 0),(1,.pv (.aw (ds.map Dt.pv))),(2,.pv (.aw (lv.map Ty.pv))),(3,.pv (vI (dep+1))),(8,.au 8 0),(10,.au 10 0),(11,.own (acc.map Ty.pv) 0),(12,.pv (vI k))],
     [(8,[.pv (vI 0),.pv (.str []),.pv (vI 0),.pv (vI 0),.own [] 1]),(10,[.pv (vI d.pos),.pv (.str d.name),.pv (.aw (d.params.map .str)),.pv (.aw (d.cons.map mG.pv))])],TP i,[acc.length,0]⟩ =
     some (.exit 1,⟨[(0,.aM tm 0),(1,.pv (.aw (ds.map Dt.pv))),(2,.pv (.aw (lv.map Ty.pv))),(3,.pv (vI (dep+1))),(8,.au 8 0),(10,.au 10 0),(11,.own (r.map Ty.pv) 0),(12,.pv (vI d.params.length)),(65,.pv (.bool false))],
     [(8,[.pv (vI 0),.pv (.str []),.pv (vI 0),.pv (vI 0),.own [] 1]),(10,[.pv (vI d.pos),.pv (.str d.name),.pv (.aw (d.params.map .str)),.pv (.aw (d.cons.map mG.pv))])],TP j,[r.length,0]⟩) ∧
     r.length=d.params.length∧(∀x∈r,dL (·∈ds) lv dep x)∧j≤L.length
 |0,k,hn,hk,acc,i,ha,hm,hi=>by
   have tn:=hT.norm;have tsh:=hT.shift;have tl:=hT.take;have:k=d.params.length:=(by omega);subst this;refine⟨acc,i,?_,ha,hm,hi⟩;rw[g27L0e];simp[tn,tsh,tl,g27B0]
 |n+1,k,hn,hk,acc,i,ha,hm,hi=>by
   have tn:=hT.norm;have tsh:=hT.shift;have tl:=hT.take;unfold Sm at hS;have hk:k<d.params.length:=(by omega);have hb:(acc.length+1)*64≤140737488355328:=(by omega);obtain⟨t,j,e,mt,hj⟩:=hg i hi
   try simp[tn,tsh,tl]at e
   obtain⟨r,j',e',hr,hm',hj'⟩:=Vq hT hdep hg hS n (k+1) (by omega) (by omega) (acc++[t]) j (by simp;omega) (by
     intro x hx;simp at hx;rcases hx with hx|rfl
     ·exact hm x hx
     ·exact mt) hj
   try simp[tn,tsh,tl]at e'
   refine⟨r,j',?_,hr,hm',hj'⟩;rw[g27L0e];have h1:(dep:Int)+1-1=dep:=by omega
   simp (disch:=omega) [tn,tsh,tl,-getElem?_pos,g27B0,hk,aq,h1,e,hb];rw[e']
theorem Vr{L:List Int}{tm:Nat}{TP:Int→Sh}(hT:Tape L tm TP)(hL:Sm L){ds:List Dt}{lv:List Ty}(hlv:Sm lv):pD L tm TP ds lv 0:=by
 have tn:=hT.norm;have tsh:=hT.shift;have tl:=hT.take;intro i hi;obtain⟨k,j1,e1,k0,k7,hj1⟩:=rH hT hL hi (n:=7) (by omega) (by omega)
 try simp[tn,tsh,tl]at e1
 unfold Sm at hlv;by_cases h1:k<3
 · by_cases h2:lv=[]
   · subst h2;refine⟨bj,j1,?_,.int,hj1⟩;have c:=c34
     try simp[tn,tsh,tl]at c
     rw[aB (af:=g27) rfl (by simp[tn,tsh,tl,g27])];simp[tn,tsh,tl,-getElem?_pos,g27,e1,h1,c,bj]
   · have hp:0<lv.length:=List.length_pos_iff.2 h2;obtain⟨r,j2,e2,r0,r1,hj2⟩:=rH hT hL hj1 (n:=lv.length) (by omega) (by omega);obtain⟨m,rfl,hm⟩:=yn r0 r1;obtain⟨x,hx⟩:=aP hm
     try simp[tn,tsh,tl]at e2
     refine⟨x,j2,?_,.leaf (aQ hx),hj2⟩;rw[aB (af:=g27) rfl (by simp[tn,tsh,tl,g27])];simp[tn,tsh,tl,-getElem?_pos,g27,e1,h1,hp,e2,hx]
 · refine⟨bj,j1,?_,.int,hj1⟩;have c:=c34
   try simp[tn,tsh,tl]at c
   rw[aB (af:=g27) rfl (by simp[tn,tsh,tl,g27])];simp[tn,tsh,tl,-getElem?_pos,g27,e1,h1,c,bj]
theorem Vs{L:List Int}{tm:Nat}{TP:Int→Sh}(hT:Tape L tm TP)(hL:Sm L){ds:List Dt}(hds:ds.length≤20)(hda:∀d∈ds,d.params.length≤8){lv:List Ty}(hlv:Sm lv){dep:Nat}(hdep:dep<1000)(hg:pD L tm TP ds lv dep):pD L tm TP ds lv (dep+1):=by
 have tn:=hT.norm;have tsh:=hT.shift;have tl:=hT.take;intro i hi;obtain⟨k,j1,e1,k0,k7,hj1⟩:=rH hT hL hi (n:=7) (by omega) (by omega)
 try simp[tn,tsh,tl]at e1
 unfold Sm at hlv;have hd1:¬((dep:Int)+1<1):=by omega
 have hd2:(dep:Int)+1-1=dep:=by omega
 have leafCase:∀h1:k<3,∀h2:¬lv=[],∃(t:Ty) (j:Nat),(aF AP).i 27 [.aM tm 0,.pv (.aw (ds.map Dt.pv)),.pv (.aw (lv.map Ty.pv)),.pv (vI ((dep+1:Nat):Int))] (TP i) []=some ([t.av],TP j,[])∧dL (·∈ds) lv (dep+1) t∧j≤L.length:=by
   intro h1 h2;have hp:0<lv.length:=List.length_pos_iff.2 h2;obtain⟨r,j2,e2,r0,r1,hj2⟩:=rH hT hL hj1 (n:=lv.length) (by omega) (by omega);obtain⟨m,rfl,hm⟩:=yn r0 r1;obtain⟨x,hx⟩:=aP hm
   try simp[tn,tsh,tl]at e2
   refine⟨x,j2,?_,.leaf (aQ hx),hj2⟩;rw[aB (af:=g27) rfl (by simp[tn,tsh,tl,g27])];simp[tn,tsh,tl,-getElem?_pos,g27,e1,h1,hp,e2,hx]
 by_cases h1:k<3∧¬lv=[]
 ·exact leafCase h1.1 h1.2
 · have h1':¬k<3∨lv=[]:=by
     by_cases h:k<3
     · right;by_cases h':lv=[]
       ·exact h'
       ·exact absurd ⟨h,h'⟩ h1
     ·exact .inl h
   by_cases h2:k<4
   · refine⟨bj,j1,?_,.int,hj1⟩;have c:=c34
     try simp[tn,tsh,tl]at c
     rw[aB (af:=g27) rfl (by simp[tn,tsh,tl,g27])];rcases h1' with h|h
     ·simp[tn,tsh,tl,-getElem?_pos,g27,e1,h,h2,c,bj]
     ·subst h;simp[tn,tsh,tl,-getElem?_pos,g27,e1,h2,c,bj]
   · have h3:¬k<3:=(by omega);by_cases h4:(k=4∨k=5)∧¬ds=[]
     · obtain⟨h4,h5⟩:=h4;have hp:0<ds.length:=List.length_pos_iff.2 h5;obtain⟨r,j2,e2,r0,r1,hj2⟩:=rH hT hL hj1 (n:=ds.length) (by omega) (by omega);obtain⟨m,rfl,hm⟩:=yn r0 r1;obtain⟨d,hx⟩:=aP hm
       try simp[tn,tsh,tl]at e2
       have hdm:=aQ hx
       have hps:Sm d.params:=by
         unfold Sm;have:=hda d hdm;omega
       obtain⟨as,j3,e3,ha,hm3,hj3⟩:=Vq hT hdep hg hps d.params.length 0 rfl (by omega) [] j2 rfl (by simp) hj2;rw[g27L0e]at e3
       try simp[tn,tsh,tl]at e3
       have hsa:Sm as:=(by unfold Sm at hps⊢;omega);have c:=c62 (s:=d.name) (l:=as) hsa
       try simp[tn,tsh,tl]at c
       refine⟨⟨4,d.name,0,0,as⟩,j3,?_,.kr hdm ha hm3,hj3⟩;rw[aB (af:=g27) rfl (by simp[tn,tsh,tl,g27])];rcases h4 with rfl|rfl
       ·simp[tn,tsh,tl,-getElem?_pos,g27,e1,hp,hd1,e2,hx,g27L0e,e3,c]
       ·simp[tn,tsh,tl,-getElem?_pos,g27,e1,hp,hd1,e2,hx,g27L0e,e3,c]
     · obtain⟨a,j2,ea,ma,hj2⟩:=hg j1 hj1;obtain⟨b,j3,eb,mb,hj3⟩:=hg j2 hj2
       try simp[tn,tsh,tl]at ea eb
       have c:=c69 (a:=a) (b:=b)
       try simp[tn,tsh,tl]at c
       refine⟨⟨4,[45,62],0,0,[a,b]⟩,j3,?_,.arrow ma mb,hj3⟩;rw[aB (af:=g27) rfl (by simp[tn,tsh,tl,g27])];by_cases h5:ds=[]
       · subst h5
         try simp[tn,tsh,tl]at ea eb
         simp (disch:=omega) [tn,tsh,tl,-getElem?_pos,g27,e1,h2,h3,hd1,hd2,aq,ea,eb,c]
       · have h6:¬k=4∧¬k=5:=by
           constructor
           ·intro h;exact h4 ⟨.inl h,h5⟩
           ·intro h;exact h4 ⟨.inr h,h5⟩
         simp (disch:=omega) [tn,tsh,tl,-getElem?_pos,g27,e1,h2,h3,h6.1,h6.2,hd1,hd2,aq,ea,eb,c]
theorem PD{L:List Int}{tm:Nat}{TP:Int→Sh}(hT:Tape L tm TP)(hL:Sm L){ds:List Dt}(hds:ds.length≤20)(hda:∀d∈ds,d.params.length≤8){lv:List Ty}(hlv:Sm lv):∀dep:Nat,dep<1000→pD L tm TP ds lv dep
 |0,_=>Vr hT hL hlv
 |dep+1,h=>Vs hT hL hds hda hlv (by omega) (PD hT hL hds hda hlv dep (by omega))
theorem mS:bC.Ok:=bL rfl
theorem Ex.PE{e x:Ex}(h:x∈e.ch):SizeOf.sizeOf x<SizeOf.sizeOf e:=by
 rw[Ex.ch,List.mem_append,List.mem_map]at h;cases e;rcases h with h|⟨a,ha,rfl⟩
 ·have:=_root_.List.sizeOf_lt_of_mem h;simp at *;omega
 ·have:=_root_.List.sizeOf_lt_of_mem ha;have:=eO.qc a;simp at *;omega
def Ex.sz(e:Ex):Nat:=1+(e.ch.attach.map fun x=>x.1.sz).sum
termination_by SizeOf.sizeOf e
decreasing_by exact Ex.PE x.2
theorem Ex.uk(e:Ex):e.sz=1+(e.ch.map Ex.sz).sum:=by
 rw[Ex.sz,List.map_attach_eq_pmap,List.pmap_eq_map]
theorem Ex.Na(e:Ex):1≤e.sz:=by rw[Ex.uk];omega
theorem jF{α:Type}{l:List α}{f:α→Nat}{M:Nat}(h:∀x∈l,f x≤M):(l.map f).sum≤l.length*M:=by
 induction l with
 |nil=>simp
 |cons a r ih=>
   have h1:=h a (by simp);have h2:=ih fun x hx=>h x (by simp[hx])
   simp only[List.map_cons,List.sum_cons,List.length_cons,Nat.add_mul];omega
theorem Fl{α:Type}{l:List α}{f:α→Nat}{x:α}(h:x∈l):f x≤(l.map f).sum:=by
 induction l with
 |nil=>cases h
 |cons a r ih=>
   simp only[List.map_cons,List.sum_cons];rcases List.mem_cons.1 h with rfl|h
   ·omega
   ·have:=ih h;omega
@[simp] def KT(k:Int):Prop:=k=0∨k=5
inductive wQ:Ex→Prop
 |leaf {e:Ex}:(e.kind=1∨e.kind=2)∧e.name.length≤100∨e.kind=3∧0≤e.num∧e.num<4∨e.kind=10∧e.name=[]∧e.num=0∧e.ty=bC→e.kids=[]→e.aY=[]→wQ e
 |lam {e a:Ex}:e.kind=4→e.name.length≤100→e.kids=[a]→e.aY=[]→wQ a→wQ e
 |app {e a b:Ex}:e.kind=5→e.kids=[a,b]→e.aY=[]→wQ a→wQ b→wQ e
 |Vt {e a b:Ex}:e.kind=6∨e.kind=7→e.name.length≤100→e.kids=[a,b]→e.aY=[]→wQ a→wQ b→wQ e
 |QW {e a:Ex}:e.kind=8→e.kids=[a]→wQ a→e.aY.length≤10 →
     (∀x∈e.aY,x.kr.length≤100∧x.vars.length≤10∧∀v∈x.vars,v.length≤100)→(∀x∈e.aY,wQ x.body)→wQ e
 |Xd {e a:Ex}:e.kind=9→e.kids=[a]→e.aY=[]→e.ty.Kn KT→e.ty.nodes.length≤10000→wQ a→wQ e
 |held {e a:Ex}:e.kind=11→e.kids=[a]→e.aY=[]→wQ a→wQ e
def wN(n:Nat):Nat:=5 ^ (n / 4)*(n % 4+1)+(if n<4 then 0 else n % 4)
theorem Vu{n m:Nat}(h:n≤m):wN n≤wN m:=by
 have step:∀n,wN n≤wN (n+1):=by
   intro n;unfold wN;by_cases q:n % 4=3
   · have h1:(n+1) / 4=n / 4+1:=(by omega);have h2:(n+1) % 4=0:=(by omega);rw[h1,h2,q,Nat.pow_succ];by_cases z:n<4
     · have:n / 4=0:=by omega
       rw[this];split<;>split<;>omega
     ·obtain⟨k,hk⟩:∃k,n / 4=k+1:=⟨n / 4-1,by omega⟩;have:=Nat.one_le_pow k 5 (by decide);rw[hk,Nat.pow_succ];generalize 5 ^ k=P at *;split<;>split<;>omega
   ·have h1:(n+1) / 4=n / 4:=(by omega);have h2:(n+1) % 4=n % 4+1:=(by omega);rw[h1,h2];have:5 ^ (n / 4)*(n % 4+1)≤5 ^ (n / 4)*(n % 4+1+1):=Nat.mul_le_mul_left _ (by omega);split<;>split<;>omega
 induction h with
 |refl=>exact Nat.le_refl _
 |step _ ih=>exact Nat.le_trans ih (step _)
theorem JT(m:Nat):wN (4*m)=5 ^ m:=by
 unfold wN;have h1:4*m / 4=m:=by omega
 have h2:4*m % 4=0:=by omega
 rw[h1,h2];split<;>omega
structure yN(n:Nat)(e:Ex):Prop where
 sc:SS e
 h:e.MT n
 w:e.sz≤wN n
 tx:wQ e
theorem um{n m:Nat}{e:Ex}(h:e.MT n):n≤m→e.MT m:=by
 induction h generalizing m with
 |mk _ ih=>
   intro hm;obtain⟨k,rfl⟩:∃k,m=k+1:=⟨m-1,by omega⟩;exact .mk fun x hx=>ih x hx (by omega)
theorem yN.up{n m:Nat}{e:Ex}(h:yN n e)(hm:n≤m):yN m e:=⟨h.sc,um h.h hm,Nat.le_trans h.w (Vu hm),h.tx⟩
theorem mT:bC.Cw:=⟨fun _=>rfl,by simp[bC]⟩
theorem BX{m:Nat}{l:List Ex}(hl:l.length≤4)(h:∀x∈l,x.sz≤5 ^ m):1+(l.map Ex.sz).sum≤5 ^ (m+1):=by
 have h1:=jF h;have h2:l.length*5 ^ m≤4*5 ^ m:=Nat.mul_le_mul_right _ hl;have h3:1≤5 ^ m:=Nat.one_le_pow m 5 (by decide);rw[Nat.pow_succ];generalize 5 ^ m=P at *;omega
theorem kP{n:Nat}{k:Int}{s:bX}{m:Int}{l:List Ex}{t:Ty}(hk:k≠8)(hl:l.length≤4)(ht:t.Ok)(hc:t.Cw)(hx:∀x∈l,yN (4*n) x)(tx:wQ ⟨k,0,s,m,l,[],t⟩):yN (4*(n+1)) ⟨k,0,s,m,l,[],t⟩ where
 sc:=⟨.mk (by simp only;omega) (by simp) (by simp) ht (by simpa[Ex.ch] using fun x h=>(hx x h).sc.ok),.mk (fun h=>absurd h hk) (by simpa[Ex.ch] using fun x h=>(hx x h).sc.one),.mk hc (by simpa[Ex.ch] using fun x h=>(hx x h).sc.cw)⟩
 h:=um (n:=4*n+1) (.mk (by simpa[Ex.ch] using fun x h=>(hx x h).h)) (by omega)
 w:=by
   rw[JT,Ex.uk];have e:(⟨k,0,s,m,l,[],t⟩:Ex).ch=l:=by simp[Ex.ch]
   rw[e];exact BX hl fun x h=>by have:=(hx x h).w;rwa [JT]at this
 tx:=tx
theorem iF{k:Int}{s:bX}{m:Int}(hk:(k=1∨k=2)∧s.length≤100∨k=3∧0≤m∧m<4∨k=10∧s=[]∧m=0):yN 4 ⟨k,0,s,m,[],[],bC⟩:=kP (n:=0) (by omega) (by simp) mS mT (by simp) (.leaf (hk.imp_right fun h=>h.imp_right fun h=>⟨h.1,h.2.1,h.2.2,rfl⟩) rfl rfl)
theorem PF{n r:Nat}(hn:0<n)(hr:r<3){k:Int}{s:bX}{m:Int}{ks:List Ex}{y:Ex}(hf:yN (4*n+r) ⟨k,0,s,m,ks,[],bC⟩)(hy:yN (4*n) y):yN (4*n+r+1) ⟨5,0,[],0,[⟨k,0,s,m,ks,[],bC⟩,y],[],bC⟩ where
 sc:=⟨.mk (by simp) (by simp) (by simp) mS (by simpa[Ex.ch] using⟨hf.sc.ok,hy.sc.ok⟩),.mk (fun h=>absurd (show (5:Int)=8 from h) (by decide)) (by simpa[Ex.ch] using⟨hf.sc.one,hy.sc.one⟩),.mk mT (by simpa[Ex.ch] using⟨hf.sc.cw,hy.sc.cw⟩)⟩
 h:=.mk (by simpa[Ex.ch] using⟨hf.h,um hy.h (by omega)⟩)
 w:=by
   have h1:=hf.w;have h2:=hy.w;rw[JT]at h2;have h3:1≤5 ^ n:=Nat.one_le_pow n 5 (by decide);rw[Ex.uk];have e:(⟨5,0,[],0,[⟨k,0,s,m,ks,[],bC⟩,y],[],bC⟩:Ex).ch=[⟨k,0,s,m,ks,[],bC⟩,y]:=(by simp[Ex.ch]);rw[e];simp only[List.map_cons,List.map_nil,List.sum_cons,List.sum_nil];unfold wN at h1⊢;have e1:(4*n+r) / 4=n:=(by omega);have e2:(4*n+r) % 4=r:=(by omega);have e3:(4*n+r+1) / 4=n:=(by omega);have e4:(4*n+r+1) % 4=r+1:=(by omega);rw[e1,e2,if_neg (by omega)]at h1;rw[e3,e4,if_neg (by omega)];have e5:5 ^ n*(r+1+1)=5 ^ n*(r+1)+5 ^ n:=Nat.mul_add_one _ _;rw[e5];omega
 tx:=.app rfl rfl rfl hf.tx hy.tx
theorem S6{L:List Int}{tm:Nat}{TP:Int→Sh}(hT:Tape L tm TP){I:Nat}{g:Ty}(hg:bH g){E:List En}(hE:E.length≤10000)(hc:∀x∈E,gU x.sc)(hnm:∀x∈E,x.name.length≤100):∀(n i:Nat),E.length-i=n→i≤E.length→∀acc:List bX,acc.length≤i→(∀s∈acc,s.length≤100) →
   ∃fs:List bX,fs.length≤E.length∧(∀s∈fs,s.length≤100)∧cl AP g348L0 ⟨[(0,.aM tm 0),(7,.au 7 0),(8,.au 8 0),(9,.own (acc.map .str) 0),(10,.pv (.aw (E.map En.pv))),(11,.pv (vI i))],[(7,tC g),(8,po 1)],TP I,[acc.length,0,0,0]⟩ =
     some (.exit 0,⟨[(0,.aM tm 0),(7,.au 7 0),(8,.au 8 0),(9,.own (fs.map .str) 0),(10,.pv (.aw (E.map En.pv))),(11,.pv (vI E.length)),(19,.pv (.bool false))],[(7,tC g),(8,po 1)],TP I,[fs.length,0,0,0]⟩)
 |0,i,hn,hi,acc,ha,hsn=>by
   have tn:=hT.norm;have tsh:=hT.shift;have tl:=hT.take;have:i=E.length:=(by omega);subst this;refine⟨acc,ha,hsn,?_⟩;rw[g348L0e];simp[tn,tsh,tl,g348B0,tC,po]
 |n+1,i,hn,hi,acc,ha,hsn=>by
   have tn:=hT.norm;have tsh:=hT.shift;have tl:=hT.take;have hi:i<E.length:=(by omega);obtain⟨x,hx⟩:=aP hi;obtain⟨K,q1,q2,q3⟩:=(hc x (aQ hx)).J';have k:=c238 (N:=K) (by omega) (p:=x.sc.ty) hg.ok q3;have hb:(acc.length+1)*16≤140737488355328:=(by omega);cases hI:M7 K x.sc.ty g with
   |none=>
     obtain⟨fs,h1,h1n,e'⟩:=S6 hT (L:=L) (I:=I) hg hE hc hnm n (i+1) (by omega) (by omega) acc (by omega) hsn;refine⟨fs,h1,h1n,?_⟩;rw[hI]at k;rw[g348L0e]at e' ⊢;simp[tn,tsh,tl,tC,po]at e';simp[tn,tsh,tl,rI]at k;simp (disch:=omega) [tn,tsh,tl,-getElem?_pos,g348B0,tC,po,hx,hi,q1,k,aq];rw[g348L0e];simp[tn,tsh,tl,e']
   |some l=>
     obtain⟨fs,h1,h1n,e'⟩:=S6 hT (L:=L) (I:=I) hg hE hc hnm n (i+1) (by omega) (by omega) (acc++[x.name]) (by simp;omega) (by
       intro s hs;simp only[List.mem_append,List.mem_singleton]at hs;rcases hs with hs|rfl
       ·exact hsn s hs
       ·exact hnm x (aQ hx))
     refine⟨fs,h1,h1n,?_⟩;rw[hI]at k;rw[g348L0e]at e' ⊢;simp[tn,tsh,tl,tC,po]at e';simp[tn,tsh,tl,rI]at k;simp (disch:=omega) [tn,tsh,tl,-getElem?_pos,g348B0,tC,po,hx,hi,q1,k,hb,aq];rw[g348L0e];simp[tn,tsh,tl,e']
def nA(L:List Int)(tm:Nat)(TP:Int→Sh)(n:Nat)(r:Option (List AV×Sh×aG)):Prop:=∃(e:Ex) (fk fa fg:Bool) (j:Nat),r=some ([.agg (i6 fk fa fg e)],TP j,[])∧yN n e∧j≤L.length
structure Ctx(n:Nat)(l:List En):Prop where
 len:l.length≤n
 B8:∀x∈l,gU x.sc
 nm:∀x∈l,x.name.length≤100
theorem c348{L:List Int}{tm:Nat}{TP:Int→Sh}(hT:Tape L tm TP)(hL:Sm L){ds:List Dt}{l:List En}(hl:Ctx 10000 l){g:Ty}(hg:bH g){i:Nat}(hi:i≤L.length) :
   nA L tm TP 4 ((aF AP).i 348 [.aM tm 0,.pv (.aw (ds.map Dt.pv)),.pv (.aw (l.map En.pv)),.pv g.pv] (TP i) []):=by
 have tn:=hT.norm;have tsh:=hT.shift;have tl:=hT.take;have hsl:=kI l;have hll:=hl.len;have k1:=c201 (l:=l) (by unfold Sm;omega);obtain⟨fs,hf,hfn,e⟩:=S6 hT (L:=L) (I:=i) hg (E:=bW l) (by omega) (fun x hx=>hl.B8 x (gN l x hx)) (fun x hx=>hl.nm x (gN l x hx)) _ 0 rfl (by omega) [] (by simp) (by simp);generalize bW l=E at *;have k2:=c20 (a:=g) (b:=bj) hg.ok;have k3:=c34;rw[g348L0e]at e;simp[tn,tsh,tl,tC,po]at e k1 k3
 have tail:∀j,j≤L.length→(g=bj∧∃r j1,0≤r∧j1≤L.length∧(aF AP).i 68 [.aM tm 0,.pv (vI 4)] (TP j) []=some ([.pv (vI r)],TP j1,[]))∨¬g=bj:=by
   intro j hj;by_cases q:g=bj
   ·obtain⟨r,j1,e1,r0,_,hj1⟩:=rH hT hL hj (n:=4) (by omega) (by omega);exact .inl ⟨q,r,j1,r0,hj1,e1⟩
   ·exact .inr q
 by_cases Xe:fs=[]
 · subst Xe
   try simp[tn,tsh,tl]at e
   rcases tail i hi with⟨q,r,j1,r0,hj1,e1⟩|q
   · rw[decide_eq_true q]at k2;subst q
     try simp[tn,tsh,tl]at k2 e1
     by_cases hr:0<r
     · obtain⟨m,j2,e2,m0,m1,hj2⟩:=rH hT hL hj1 (n:=3) (by omega) (by omega);refine⟨⟨3,0,[],m,[],[],bC⟩,true,true,true,j2,?_,iF (.inr (.inl ⟨rfl,m0,by omega⟩)),hj2⟩
       try simp[tn,tsh,tl]at e2
       simp[tn,tsh,tl,bj]at k2 k3 e;rw[aB (af:=g348) rfl (by simp[tn,tsh,tl,g348])];simp[tn,tsh,tl,g348,k1,g348L0e,e,k3,k2,e1,hr,e2,i6,dY,bC,bj]
     ·refine⟨⟨10,0,[],0,[],[],bC⟩,true,true,true,j1,?_,iF (.inr (.inr ⟨rfl,rfl,rfl⟩)),hj1⟩;simp[tn,tsh,tl,bj]at k2 k3 e;rw[aB (af:=g348) rfl (by simp[tn,tsh,tl,g348])];simp[tn,tsh,tl,g348,k1,g348L0e,e,k3,k2,e1,hr,i6,dY,bC,bj]
   ·rw[decide_eq_false q]at k2;refine⟨⟨10,0,[],0,[],[],bC⟩,true,true,true,i,?_,iF (.inr (.inr ⟨rfl,rfl,rfl⟩)),hi⟩;simp[tn,tsh,tl,bj]at k2 k3;rw[aB (af:=g348) rfl (by simp[tn,tsh,tl,g348])];simp[tn,tsh,tl,g348,k1,g348L0e,e,k3,k2,i6,dY,bC,bj]
 · have hp:0<fs.length:=List.length_pos_iff.2 Xe;obtain⟨r6,j6,e6,r60,_,hj6⟩:=rH hT hL hi (n:=6) (by omega) (by omega)
   try simp[tn,tsh,tl]at e6
   by_cases h6:0<r6
   · obtain⟨m,j7,e7,m0,m1,hj7⟩:=rH hT hL hj6 (n:=fs.length) (by omega) (by omega);obtain⟨m,rfl,hm⟩:=yn m0 m1;obtain⟨s,hs⟩:=aP hm;refine⟨⟨1,0,s,0,[],[],bC⟩,true,true,true,j7,?_,iF (.inl ⟨.inl rfl,hfn s (aQ hs)⟩),hj7⟩
     try simp[tn,tsh,tl]at e7
     rw[aB (af:=g348) rfl (by simp[tn,tsh,tl,g348])];simp[tn,tsh,tl,-getElem?_pos,g348,k1,g348L0e,e,hp,e6,h6,e7,hs,i6,dY,bC]
   · rcases tail j6 hj6 with⟨q,r,j1,r0,hj1,e1⟩|q
     · rw[decide_eq_true q]at k2;subst q
       try simp[tn,tsh,tl]at k2 e1
       by_cases hr:0<r
       · obtain⟨m,j2,e2,m0,m1,hj2⟩:=rH hT hL hj1 (n:=3) (by omega) (by omega);refine⟨⟨3,0,[],m,[],[],bC⟩,true,true,true,j2,?_,iF (.inr (.inl ⟨rfl,m0,by omega⟩)),hj2⟩
         try simp[tn,tsh,tl]at e2
         simp[tn,tsh,tl,bj]at k2 k3 e;rw[aB (af:=g348) rfl (by simp[tn,tsh,tl,g348])];simp[tn,tsh,tl,g348,k1,g348L0e,e,hp,e6,h6,k3,k2,e1,hr,e2,i6,dY,bC,bj]
       ·refine⟨⟨10,0,[],0,[],[],bC⟩,true,true,true,j1,?_,iF (.inr (.inr ⟨rfl,rfl,rfl⟩)),hj1⟩;simp[tn,tsh,tl,bj]at k2 k3 e;rw[aB (af:=g348) rfl (by simp[tn,tsh,tl,g348])];simp[tn,tsh,tl,g348,k1,g348L0e,e,hp,e6,h6,k3,k2,e1,hr,i6,dY,bC,bj]
     ·rw[decide_eq_false q]at k2;refine⟨⟨10,0,[],0,[],[],bC⟩,true,true,true,j6,?_,iF (.inr (.inr ⟨rfl,rfl,rfl⟩)),hj6⟩;simp[tn,tsh,tl,bj]at k2 k3;rw[aB (af:=g348) rfl (by simp[tn,tsh,tl,g348])];simp[tn,tsh,tl,g348,k1,g348L0e,e,hp,e6,h6,k3,k2,i6,dY,bC,bj]
def kx(L:List Int)(tm:Nat)(TP:Int→Sh)(ds:List Dt)(dep:Nat):Prop:=∀(i:Nat) (l:List En) (g:Ty),i≤L.length→Ctx (1000-20*dep) l→bH g→g.nodes.length≤6000-20*dep →
 nA L tm TP (4*(dep+1)) ((aF AP).i 326 [.aM tm 0,.pv (.aw (ds.map Dt.pv)),.pv (.aw (l.map En.pv)),.pv g.pv,.pv (vI dep)] (TP i) [])
theorem Ctx.push{n m:Nat}{l:List En}(h:Ctx n l){s:bX}{c:Sc}(hc:gU c)(hs:s.length≤100)(hm:n+1≤m):Ctx m (l++[⟨s,c⟩]):=⟨by have:=h.len;simp;omega,by
 intro x hx;simp at hx;rcases hx with hx|rfl
 ·exact h.B8 x hx
 ·exact hc,by
 intro x hx;simp at hx;rcases hx with hx|rfl
 ·exact h.nm x hx
 ·exact hs⟩
theorem Ctx.bQ{n m:Nat}{l:List En}(h:Ctx n l)(hm:n≤m):Ctx m l:=⟨by have:=h.len;omega,h.B8,h.nm⟩
theorem oE{D:Dt→Prop}(hD:∀d,D d→d.params.length≤8)(hN:∀d,D d→d.name.length≤100){lv:List Ty}(h:∀t∈lv,t.args=[]∧t.kind=3∧t.name=[]){n:Nat}{t:Ty}(m:dL D lv n t):bH t:=by
 refine⟨m.ok hD (fun t ht=>(h t ht).1),?_⟩;induction m with
 |leaf hl=>exact .bare (h _ hl).1 (fun _=>by rw[(h _ hl).2.1];simp) (by rw[(h _ hl).2.2];simp)
 |int=>exact .bare rfl (by simp[bj]) (by simp[bj])
 |kr hd _ _ ih=>exact .mk (by simp) (hN _ hd) ih
 |arrow _ _ iha ihb=>exact .mk (by simp) (by simp) (by intro x hx;simp at hx;rcases hx with rfl|rfl<;>assumption)
theorem bH.arrow{a b:Ty}(ha:bH a)(hb:bH b):bH ⟨4,[45,62],0,0,[a,b]⟩:=⟨⟨by simp[Sm],by intro x hx;simp at hx;rcases hx with rfl|rfl;exact ha.ok;exact hb.ok⟩,.mk (by simp) (by simp) (by intro x hx;simp at hx;rcases hx with rfl|rfl;exact ha.kn;exact hb.kn)⟩
theorem kQ:∀s∈varNames,s.length≤100:=by
 intro s hs;simp only[varNames,List.mem_cons,List.not_mem_nil,or_false]at hs;rcases hs with rfl|rfl|rfl|rfl|rfl|rfl|rfl|rfl<;>simp
theorem Vv{g:Ty}(hg:bH g)(h:g.ku 3=false):g.Kn KT:=by
 have hk:=hg.kn;clear hg;induction hk with
 | @mk t hh hn _ ih=>
   rw[Ty.Gb,Bool.or_eq_false_iff,List.any_eq_false]at h;refine .mk (fun q=>?_) hn fun x hx=>ih x hx (by simpa using h.2 x hx);obtain⟨a,b⟩:=hh q;refine⟨?_,b⟩;have:=h.1
   simp at a this⊢;omega
variable {L: List Int}  {tm:Nat} {TP:Int→Sh} {ds:List Dt} {dep:Nat} {l:List En} {g:Ty} {i:Nat}
def uq(L:List Int)(tm:Nat)(TP:Int→Sh)(ds:List Dt)(dep:Nat)(l:List En)(g:Ty)(i:Nat):Prop:=
 nA L tm TP (4*(dep+1)) ((aF AP).i 326 [.aM tm 0,.pv (.aw (ds.map Dt.pv)),.pv (.aw (l.map En.pv)),.pv g.pv,.pv (vI dep)] (TP i) [])
theorem Nb(hT:Tape L tm TP)(hL:Sm L)(hl:Ctx 10000 l)(hg:bH g)(hi:i≤L.length):uq L tm TP ds 0 l g i:=by
 have tn:=hT.norm;have tsh:=hT.shift;have tl:=hT.take;obtain⟨e,f1,f2,f3,j,k,ht,hj⟩:=c348 hT hL (ds:=ds) hl hg hi;refine⟨e,f1,f2,f3,j,?_,ht.up (by omega),hj⟩;rw[aB (af:=g326) rfl (by simp[tn,tsh,tl,g326])];cases f1<;>cases f2<;>cases f3<;>simp[tn,tsh,tl,i6,dY]at k<;>simp[tn,tsh,tl,g326,k,i6,dY,aE]
theorem PG(hT:Tape L tm TP)(hL:Sm L)(hdep:dep<100)(hl:Ctx 10000 l)(hg:bH g){j9:Nat}(hj9:j9≤L.length)(e9:(aF AP).i 68 [.aM tm 0,.pv (vI 9)] (TP i) []=some ([.pv (vI 0)],TP j9,[])):uq L tm TP ds (dep+1) l g i:=by
 have tn:=hT.norm;have tsh:=hT.shift;have tl:=hT.take;obtain⟨e,f1,f2,f3,j,k,ht,hj⟩:=c348 hT hL (ds:=ds) hl hg hj9;refine⟨e,f1,f2,f3,j,?_,ht.up (by omega),hj⟩;have h1:¬((dep:Int)+1<1):=by omega
 try simp[tn,tsh,tl]at e9
 rw[aB (af:=g326) rfl (by simp[tn,tsh,tl,g326])];cases f1<;>cases f2<;>cases f3<;>simp[tn,tsh,tl,i6,dY]at k<;>simp[tn,tsh,tl,g326,h1,e9,k,i6,dY,aE]
structure Nc(L:List Int)(tm:Nat)(TP:Int→Sh)(g:Ty)(i:Nat)(a b:Ty)(ar:Bool)(k r9:Int)(j9 j:Nat):Prop where
 nz:¬r9=0
 e9:(aF AP).i 68 [.aM tm 0,.pv (vI 9)] (TP i) []=some ([.pv (vI r9)],TP j9,[])
 arr:(aF AP).p 194 [g.pv]=some [a.pv,b.pv,.bool ar]
 ur:(aF AP).i 68 [.aM tm 0,.pv (vI 10)] (TP j9) []=some ([.pv (vI k)],TP j,[])
 hj:j≤L.length
theorem S7(hT:Tape L tm TP)(hL:Sm L)(hdep:dep<10)(hG:kx L tm TP ds dep)(hl:Ctx (1000-20*(dep+1)) l){a b:Ty}{k r9:Int}{j9 j:Nat}(P:Nc L tm TP g i a b true k r9 j9 j)(hk:k<7)(ha:bH a)(hb:bH b)(hbn:b.nodes.length≤6000-20*dep):uq L tm TP ds (dep+1) l g i:=by
 have tn:=hT.norm;have tsh:=hT.shift;have tl:=hT.take;obtain⟨nz,e9,arr,ur,hj⟩:=P;obtain⟨s,j1,e1,hs,hj1⟩:=Vp hT hL hj;have hll:=hl.len;have k1:=c176 (t:=a);have k2:=c179 (l:=l) (by unfold Sm;omega) (n:=s) (c:=⟨0,a⟩);obtain⟨e,f1,f2,f3,j2,e2,he,hj2⟩:=hG j1 (l++[⟨s,⟨0,a⟩⟩]) b hj1 (hl.push ha.mono (kQ _ hs) (by omega)) hb hbn;have hA:=jE f1 f2 f3 e;generalize i6 f1 f2 f3 e=A at e2 hA;have ac:=Ex.aS e;refine⟨⟨4,0,s,0,[e],[],bC⟩,true,true,true,j2,?_,(kP (by decide) (by simp) mS mT (by simpa using he) (.lam rfl (kQ _ hs) rfl rfl he.tx)).up (by omega),hj2⟩;have h1:¬((dep:Int)+1<1):=by omega
 have h2:(dep:Int)+1-1=dep:=by omega
 try simp[tn,tsh,tl]at e9 arr ur e1 k1 k2 e2
 rw[aB (af:=g326) rfl (by simp[tn,tsh,tl,g326])];simp (disch:=omega) [tn,tsh,tl,g326,h1,h2,nz,e9,arr,ur,hk,e1,k1,k2,e2,aq,hA.bR,hA.flat,hA.gS,hA.len,hA.leaf,ac,i6,dY,bC]
theorem S8(hT:Tape L tm TP)(hL:Sm L)(hdep:dep<10)(hds:ds.length≤20)(hda:∀d∈ds,d.params.length≤8)(hdn:∀d∈ds,d.name.length≤100)(hG:kx L tm TP ds dep)(hl:Ctx (1000-20*(dep+1)) l)(hg:bH g)(hgn:g.nodes.length≤6000-20*(dep+1)){a b:Ty}{k r9:Int}{j9 j:Nat}(P:Nc L tm TP g i a b false k r9 j9 j)(hk:k<2):uq L tm TP ds (dep+1) l g i:=by
 have tn:=hT.norm;have tsh:=hT.shift;have tl:=hT.take;obtain⟨nz,e9,arr,ur,hj⟩:=P;obtain⟨t,j1,e1,mt,hj1⟩:=PD hT hL hds hda (lv:=[]) (by simp[tn,tsh,tl,Sm]) 1 (by omega) j hj;have gt:bH t:=oE hda hdn (by simp) mt;have tn9:=mt.small hda (by simp);have k1:=c69 (a:=t) (b:=g);have hl':Ctx (1000-20*dep) l:=hl.bQ (by omega);obtain⟨x,f1,f2,f3,j2,e2,hx,hj2⟩:=hG j1 l _ hj1 hl' (gt.arrow hg) (by rw[Ty.aL];simp;omega);obtain⟨y,f4,f5,f6,j3,e3,hy,hj3⟩:=hG j2 l _ hj2 hl' gt (by omega);have hA:=jE f1 f2 f3 x;generalize i6 f1 f2 f3 x=A at e2 hA;have hB:=jE f4 f5 f6 y;generalize i6 f4 f5 f6 y=B at e3 hB;have ac:=Ex.aS x;have bc:=Ex.aS y;have tA:A.take 11=A:=List.take_of_length_le (by rw[hA.len];omega);refine⟨⟨5,0,[],0,[x,y],[],bC⟩,true,true,true,j3,?_,(kP (by decide) (by simp) mS mT (by simpa using⟨hx,hy⟩) (.app rfl rfl rfl hx.tx hy.tx)).up (by omega),hj3⟩;have h1:¬((dep:Int)+1<1):=by omega
 have h2:(dep:Int)+1-1=dep:=by omega
 simp[tn,tsh,tl,Ty.av]at e9 arr ur e1 k1 e2 e3;rw[aB (af:=g326) rfl (by simp[tn,tsh,tl,g326])];simp (disch:=omega) [tn,tsh,tl,g326,h1,h2,nz,e9,arr,ur,hk,e1,k1,e2,e3,aq,hA.bR,hA.flat,hA.gS,hA.len,hA.leaf,hB.bR,hB.flat,hB.gS,hB.len,hB.leaf,tA,ac,bc,aE,i6,dY,bC]
theorem S9(hT:Tape L tm TP)(hL:Sm L)(hdep:dep<10)(hG:kx L tm TP ds dep)(hl:Ctx (1000-20*(dep+1)) l)(hg:bH g)(hgn:g.nodes.length≤6000-20*(dep+1)){a b:Ty}{r9:Int}{j9 j:Nat}(P:Nc L tm TP g i a b false 4 r9 j9 j)(h3:g.ku 3=false)(h4:g.ku 1=false):uq L tm TP ds (dep+1) l g i:=by
 have tn:=hT.norm;have tsh:=hT.shift;have tl:=hT.take;obtain⟨nz,e9,arr,ur,hj⟩:=P;have k1:=c351 (k:=3) hg.ok;have k2:=c351 (k:=1) hg.ok;rw[h3]at k1;rw[h4]at k2;have hl':Ctx (1000-20*dep) l:=hl.bQ (by omega);obtain⟨x,f1,f2,f3,j2,e2,hx,hj2⟩:=hG j l _ hj hl' hg (by omega);have hA:=jE f1 f2 f3 x;generalize i6 f1 f2 f3 x=A at e2 hA;have ac:=Ex.aS x;refine⟨⟨9,0,[],0,[x],[],g⟩,true,true,false,j2,?_,(kP (by decide) (by simp) hg.ok hg.kn.cw (by simpa using hx) (.Xd rfl rfl rfl (Vv hg h3) (by simp only;omega) hx.tx)).up (by omega),hj2⟩;have h1:¬((dep:Int)+1<1):=by omega
 have h2:(dep:Int)+1-1=dep:=by omega
 try simp[tn,tsh,tl]at e9 arr ur k1 k2 e2
 rw[aB (af:=g326) rfl (by simp[tn,tsh,tl,g326])];simp (disch:=omega) [tn,tsh,tl,g326,h1,h2,nz,e9,arr,ur,k1,k2,e2,aq,hA.bR,hA.flat,hA.gS,hA.len,hA.leaf,ac,i6,dY,bC]
theorem PH(hT:Tape L tm TP)(hL:Sm L)(hdep:dep<10)(hG:kx L tm TP ds dep)(hl:Ctx (1000-20*(dep+1)) l)(hg:bH g)(hgn:g.nodes.length≤6000-20*(dep+1)){a b:Ty}{r9:Int}{j9 j:Nat}(P:Nc L tm TP g i a b false 5 r9 j9 j):uq L tm TP ds (dep+1) l g i:=by
 have tn:=hT.norm;have tsh:=hT.shift;have tl:=hT.take;obtain⟨nz,e9,arr,ur,hj⟩:=P;have hl':Ctx (1000-20*dep) l:=hl.bQ (by omega);obtain⟨x,f1,f2,f3,j2,e2,hx,hj2⟩:=hG j l _ hj hl' hg (by omega);have hA:=jE f1 f2 f3 x;generalize i6 f1 f2 f3 x=A at e2 hA;have ac:=Ex.aS x;refine⟨⟨11,0,[],0,[x],[],bC⟩,true,true,true,j2,?_,(kP (by decide) (by simp) mS mT (by simpa using hx) (.held rfl rfl rfl hx.tx)).up (by omega),hj2⟩;have h1:¬((dep:Int)+1<1):=by omega
 have h2:(dep:Int)+1-1=dep:=by omega
 try simp[tn,tsh,tl]at e9 arr ur e2
 rw[aB (af:=g326) rfl (by simp[tn,tsh,tl,g326])];simp (disch:=omega) [tn,tsh,tl,g326,h1,h2,nz,e9,arr,ur,e2,aq,hA.bR,hA.flat,hA.gS,hA.len,hA.leaf,ac,i6,dY,bC]
end Go.Ab.Lw
namespace Go.Ab.Lw
open Ev
structure WK(x u:Ty):Prop where
 ok:u.Ok
 kn:u.Kn KS
 vr:∀y∈u.nodes,y.kind=1→∃z∈x.nodes,z.kind=3∧z.home=99∧y.id=IntKind.i64.wrap (900+z.id)
 n:u.nodes.length≤x.nodes.length
structure Vw(x u:Ty):Prop where
 ok:u.Ok
 kn:u.Kn KS
 vr:∀y∈u.nodes,y.kind=1→∃z∈x.nodes,z.kind=3∧z.home=99∧y.id=IntKind.i64.wrap (900+z.id)
theorem QX{x:Ty}(hx:x.Ok)(IH:∀a∈x.args,∃u:Ty,(aF AP).p 375 [a.pv]=some [u.pv]∧WK a u):∀(k i:Nat),x.args.length-i=k→i≤x.args.length→∀acc:List Ty,acc.length=i→(∀u∈acc,Vw x u)→(acc.flatMap Ty.nodes).length≤((x.args.take i).flatMap Ty.nodes).length→∃us:List Ty,
   cl AP g375L0 ⟨[(1,.au 1 0),(2,.au 2 0),(3,.au 3 0),(4,.pv (vI i))],[(1,tC x),(2,zC 0),(3,uC x acc 1)],[],[0,acc.length]⟩ =
     some (.exit 0,⟨[(1,.au 1 0),(2,.au 2 0),(3,.au 3 0),(4,.pv (vI x.args.length)),(23,.pv (.bool false))],[(1,tC x),(2,zC 0),(3,uC x us 1)],[],[0,us.length]⟩)∧us.length=x.args.length∧(∀u∈us,Vw x u)∧(us.flatMap Ty.nodes).length≤(x.args.flatMap Ty.nodes).length
 |0,i,hk,hi,acc,ha,hu,hc=>by
   have:i=x.args.length:=by omega
   subst this;refine⟨acc,?_,ha,hu,by simpa using hc⟩;rw[g375L0e];simp[g375B0,tC,zC,uC]
 |k+1,i,hk,hi,acc,ha,hu,hc=>by
   have hi:i<x.args.length:=(by omega);obtain⟨a,hax⟩:=aP hi;have hsm:=hx.sm;unfold Sm at hsm;obtain⟨u,e,hO⟩:=IH a (aQ hax);have hnn:=hO.n
   obtain⟨us,e',h1,h2,h3⟩:=QX hx IH k (i+1) (by omega) (by omega) (acc++[u]) (by simp;omega) (by
     intro y hy;simp at hy;rcases hy with hy|rfl
     ·exact hu y hy
     ·exact⟨hO.ok,hO.kn,fun z hz q=>by obtain⟨w,hw,hr⟩:=hO.vr z hz q;exact⟨w,JS a (aQ hax) w hw,hr⟩⟩) (by rw[List.take_add_one,hax,List.flatMap_append,List.length_append,List.flatMap_append,List.length_append];simp only[Option.toList_some,List.flatMap_cons,List.flatMap_nil,List.append_nil];omega)
   refine⟨us,?_,h1,h2,h3⟩;have hb:(acc.length+1)*64≤140737488355328:=by omega
   rw[g375L0e]at e' ⊢;simp at e;simp[tC,zC,uC]at e';simp (disch:=omega) [-getElem?_pos,g375B0,tC,zC,uC,hi,hax,aq,e,hb];rw[g375L0e];simp[e']
theorem c375x{t:Ty}(hG:bH t):∃u:Ty,(aF AP).p 375 [t.pv]=some [u.pv]∧WK t u:=by
 revert hG
 refine Ty.dJ (p:=fun t=>bH t→∃u:Ty,(aF AP).p 375 [t.pv]=some [u.pv]∧WK t u) ?_ t;intro t ih hG;have hself:t∈t.nodes:=by rw[Ty.aL];simp
 have hpos:1≤t.nodes.length:=by rw[Ty.aL];simp
 by_cases q:t.kind=3∧t.home=99
 · have k:=c63 (n:=IntKind.i64.wrap (900+t.id));refine⟨⟨1,[],IntKind.i64.wrap (900+t.id),0,[]⟩,?_,⟨bL rfl,.bare rfl (by simp) (by simp),?_,by rw[Ty.aL];simpa using hpos⟩⟩
   ·simp at k;rw[ah (af:=g375) rfl rfl (by decide)];simp[g375,q.1,q.2,k]
   ·intro y hy _;rw[Ty.aL]at hy;simp at hy;subst hy;exact⟨t,hself,q.1,q.2,rfl⟩
 · obtain⟨us,e,h1,h2,h3⟩:=QX hG.ok (fun a ha=>ih a ha (hG.gh a ha)) _ 0 rfl (by omega) [] rfl (by simp) (by simp);refine⟨⟨t.kind,t.name,t.id,t.home,us⟩,?_,⟨⟨by have:=hG.ok.sm;unfold Sm at *;simp only;omega,fun y hy=>(h2 y hy).ok⟩,.mk (fun r=>?_) hG.kn.nm fun y hy=>(h2 y hy).kn,?_,by rw[Ty.aL,Ty.aL t];simp only[List.length_cons];omega⟩⟩
   · rw[ah (af:=g375) rfl rfl (by decide)];rw[g375L0e]at e;simp[tC,zC,uC]at e;by_cases q1:t.kind=3
     ·have q2:¬t.home=99:=fun h=>q ⟨q1,h⟩;simp[q1]at e;simp[g375,q1,q2,g375L0e,e]
     ·simp[g375,q1,g375L0e,e]
   ·have:=hG.kn.hd r;refine⟨Qu _ this.1,?_⟩;rw[this.2]at h1;exact List.length_eq_zero_iff.1 h1
   · intro y hy hk;rw[Ty.aL]at hy;simp only[List.mem_cons,List.mem_flatMap]at hy;rcases hy with rfl|⟨u,hu,hy⟩
     · have:=(hG.kn.hd (by change t.kind=1 at hk;rw[hk];decide)).1
       change t.kind=1 at hk
       rw[hk]at this;simp at this
     ·exact (h2 u hu).vr y hy hk
theorem Nd{l:List Ty}:∀{out:List Ty} {y:Ty},y∈out∨y∈l→y∈l.foldl gT out:=by
 induction l with
 |nil=>intro out y h;simpa using h
 |cons a r ih=>
   intro out y h;rw[List.foldl_cons];refine ih ?_;rcases h with h|h
   · left;unfold gT;split
     ·exact h
     ·simp[h]
   · simp only[List.mem_cons]at h;rcases h with rfl|h
     · left;unfold gT;split
       ·assumption
       ·simp
     ·exact .inr h
theorem c59x{u:Ty}(hu:u.Ok)(hn:u.nodes.length≤4000):∃r:List Ty,(aF AP).p 59 [.aw [u.pv]]=some [.aw (r.map Ty.pv)]∧Sm r∧∀y∈u.eJ 3,y∈r:=by
 have hl:=nr (k:=3) (t:=u);have c0:f_ (u.eJ 3) []:=⟨by simp,by simp,by omega,fun x hx=>bL (kL x hx)⟩;have hk:∀x∈[u].flatMap (Ty.eJ 3),x∈u.eJ 3:=by simp
 have h:=WA (S:=u.eJ 3) (l:=[u]) (by simp[Sm]) (by simpa using hu) hk _ 0 rfl (by omega) [] c0;have hc:=c0.fold hk;refine⟨_,?_,hc.len,fun y hy=>Nd (.inr (by simpa using hy))⟩;rw[ah (af:=g59) rfl rfl (by decide)];rw[g59L0e]at h;simp at h;simp[g59,g59L0e,h]
theorem Nf{k:Int}{t:Ty}:∀y∈t.nodes,y.kind=k→y.args=[]→y∈t.eJ k:=by
 refine Ty.dJ (p:=fun t=>∀y∈t.nodes,y.kind=k→y.args=[]→y∈t.eJ k) ?_ t;intro t ih y hy hk ha;rw[Ty.aL]at hy;rw[Ty.lH];simp only[List.mem_cons,List.mem_flatMap]at hy;rcases hy with rfl|⟨a,ham,hy⟩
 ·rw[if_pos ⟨hk,by rw[ha];rfl⟩];simp
 · have:¬(t.kind=k∧t.args.length=0):=by
     rintro⟨_,h⟩
     rw[List.length_eq_zero_iff.1 h]at ham;cases ham
   rw[if_neg this];simp only[List.mem_flatMap];exact⟨a,ham,ih a ham y hy hk ha⟩
theorem Ng{r:List Ty}(hr:Sm r){t:Ty}:∀(n i:Nat),r.length-i=n→i≤r.length→∀acc:List Int,acc.length≤i→∃ids:List Int,ids.length≤r.length∧(∀v∈acc,v∈ids)∧(∀z∈r.drop i,z.home=99→IntKind.i64.wrap (900+z.id)∈ids) ∧
   cl AP g361L0 ⟨[(1,.au 1 0),(2,.au 2 0),(3,.own (acc.map vI) 0),(4,.pv (.aw (r.map Ty.pv))),(5,.pv (vI i))],[(1,tC t),(2,gz 1)],[],[acc.length,0]⟩ =
     some (.exit 0,⟨[(1,.au 1 0),(2,.au 2 0),(3,.own (ids.map vI) 0),(4,.pv (.aw (r.map Ty.pv))),(5,.pv (vI r.length)),(12,.pv (.bool false))],[(1,tC t),(2,gz 1)],[],[ids.length,0]⟩)
 |0,i,hn,hi,acc,ha=>by
   have:i=r.length:=by omega
   subst this;refine⟨acc,ha,fun _ h=>h,by simp,?_⟩;rw[g361L0e];simp[g361B0,tC,gz]
 |n+1,i,hn,hi,acc,ha=>by
   have hi:i<r.length:=(by omega);obtain⟨x,hx⟩:=aP hi;have hr':=hr;unfold Sm at hr;have hb:(acc.length+1)*8≤140737488355328:=(by omega);have hh:a_ 1 (acc.map vI)=true:=kq.head acc;rw[bl hx];by_cases q:x.home=99
   · obtain⟨ids,h1,h2,h3,e⟩:=Ng (t:=t) hr' n (i+1) (by omega) (by omega) (acc++[IntKind.i64.wrap (900+x.id)]) (by simp;omega);refine⟨ids,h1,fun v hv=>h2 v (by simp[hv]),?_,?_⟩
     · intro z hz hh;simp only[List.mem_cons]at hz;rcases hz with rfl|hz
       ·exact h2 _ (by simp)
       ·exact h3 z hz hh
     ·rw[g361L0e]at e⊢;simp[tC,gz]at e;simp (disch:=omega) [-getElem?_pos,g361B0,tC,gz,hx,hi,q,hb,hh];rw[g361L0e];have w1:IntKind.i64.wrap ((i:Int)+1)=(i:Int)+1:=aq (by omega) (by omega);simp[w1,e]
   · obtain⟨ids,h1,h2,h3,e⟩:=Ng (t:=t) hr' n (i+1) (by omega) (by omega) acc (by omega);refine⟨ids,h1,h2,?_,?_⟩
     · intro z hz hh;simp only[List.mem_cons]at hz;rcases hz with rfl|hz
       ·exact absurd hh q
       ·exact h3 z hz hh
     ·rw[g361L0e]at e⊢;simp[tC,gz]at e;simp (disch:=omega) [-getElem?_pos,g361B0,tC,gz,hx,hi,q,aq];rw[g361L0e];simp[e]
theorem lN{ids:List Int}:∀(vs:List Int) (acc:List As),(∀a∈acc,∃k:Nat,k<acc.length∧a.ty=br k)→(∀a∈cO ids vs acc,∃k:Nat,k<(cO ids vs acc).length∧a.ty=br k)∧(cO ids vs acc).length≤acc.length+vs.length∧(∀v,(∃x,iQ acc v=some x)→∃x,iQ (cO ids vs acc) v=some x)∧∀v∈vs,v∈ids→∃x,iQ (cO ids vs acc) v=some x
 |[],acc,h=>⟨h,by simp[cO],fun _ h=>h,by simp⟩
 |v::r,acc,h=>by
   simp only[cO];by_cases q:v∈ids
   · rw[if_pos q]
     obtain⟨h1,h2,h3,h4⟩:=lN (ids:=ids) r (acc++[⟨v,br acc.length⟩]) (by
       intro a ha;simp at ha;rcases ha with ha|rfl
       ·obtain⟨k,hk,e⟩:=h a ha;exact⟨k,by simp;omega,e⟩
       ·exact⟨acc.length,by simp,rfl⟩)
     refine⟨h1,by simp at h2⊢;omega,?_,?_⟩
     · rintro w ⟨x,hx⟩
       exact h3 w ⟨x,by rw[yq,hx];rfl⟩
     · intro w hw hi;simp only[List.mem_cons]at hw;rcases hw with rfl|hw
       · refine h3 w ?_;rw[yq];cases iQ acc w with
         |some x=>exact⟨x,rfl⟩
         |none=>exact⟨br acc.length,by simp[iQ]⟩
       ·exact h4 w hw hi
   · rw[if_neg q];obtain⟨h1,h2,h3,h4⟩:=lN (ids:=ids) r acc h;refine⟨h1,by simp;omega,h3,?_⟩;intro w hw hi;simp only[List.mem_cons]at hw;rcases hw with rfl|hw
     ·exact absurd hi q
     ·exact h4 w hw hi
theorem wR{s:List As}{t:Ty}:∀y∈(t.sub s).nodes,(∃i x,iQ s i=some x∧y∈x.nodes)∨∃z∈t.nodes,y.kind=z.kind:=by
 refine Ty.dJ (p:=fun t=>∀y∈(t.sub s).nodes,(∃i x,iQ s i=some x∧y∈x.nodes)∨∃z∈t.nodes,y.kind=z.kind) ?_ t;intro t ih y hy
 have gh:∀a∈t.args,y∈(a.sub s).nodes→(∃i x,iQ s i=some x∧y∈x.nodes)∨∃z∈t.nodes,y.kind=z.kind:=by
   intro a ha h;rcases ih a ha y h with h|⟨z,hz,h⟩
   ·exact .inl h
   ·exact .inr ⟨z,JS a ha z hz,h⟩
 have hself:t∈t.nodes:=by rw[Ty.aL];simp
 rw[Ty.sub_eq]at hy;split at hy
 · cases e:iQ s t.id with
   |some x=>rw[e]at hy;exact .inl ⟨_,x,e,hy⟩
   |none=>rw[e]at hy;exact .inr ⟨y,by simpa using hy,rfl⟩
 · rw[Ty.aL]at hy;simp only[List.mem_cons,List.mem_flatMap,List.mem_map]at hy;rcases hy with rfl|⟨b,⟨a,ha,rfl⟩,hy⟩
   ·exact .inr ⟨t,hself,rfl⟩
   ·exact gh a ha hy
theorem nB:∀{l:List Ty} {out:List Int},(l.foldl cS out).length≤out.length+l.length
 |[],out=>by simp
 |a::r,out=>by
   have h:=nB (l:=r) (out:=cS out a);have:(cS out a).length≤out.length+1:=by unfold cS;split<;>simp
   simp only[List.foldl_cons,List.length_cons];omega
theorem yP{u:Ty}:(vars [u]).length≤u.nodes.length:=by
 have:=nB (l:=[u].flatMap Ty.nodes) (out:=[]);simpa[vars] using this
theorem kR{l:List Ty}:∀{out:List Int} {y:Ty},y∈l→y.kind=1→y.id∈l.foldl cS out:=by
 have aV:∀(l:List Ty) (out:List Int) (v:Int),v∈out→v∈l.foldl cS out:=by
   intro l;induction l with
   |nil=>intro out v h;exact h
   |cons a r ih=>intro out v h;rw[List.foldl_cons];refine ih _ v ?_;unfold cS;split<;>simp[h]
 induction l with
 |nil=>intro out y h;simp at h
 |cons a r ih=>
   intro out y h hk;rw[List.foldl_cons];simp only[List.mem_cons]at h;rcases h with rfl|h
   ·refine aV r _ _ ?_;unfold cS;by_cases q:y.id∈out<;>simp[q,hk]
   ·exact ih h hk
theorem c361x{x:Ty}(hG:bH x)(hn:x.nodes.length≤90):∃c:Sc,(aF AP).p 361 [x.pv]=some [c.pv]∧gU c:=by
 obtain⟨r,k1,hr,hl3⟩:=c59x hG.ok (by omega);obtain⟨u,k2,T⟩:=c375x hG;obtain⟨ids,hi,_,hin,h⟩:=Ng (t:=x) hr _ 0 rfl (by omega) [] (by simp);have hl:=nr (k:=1) (t:=u);have hun:=T.n;have k3:=c208 (t:=u) ⟨T.ok,T.kn.wf,u.eJ 1,by omega,fun y hy=>bL (kL y hy),fun y hy=>hy⟩ (ids:=ids) (by unfold Sm at *;omega);have hv:=yP (u:=u);obtain⟨c1,c2,_,c4⟩:=lN (ids:=ids) (vars [u]) [] (by simp)
 have hall:∀y∈u.nodes,y.kind=1→∃z,iQ (cO ids (vars [u]) []) y.id=some z:=by
   intro y hy hk;refine c4 _ (kR (by simpa using hy) hk) ?_;obtain⟨z,hz,z3,z99,e⟩:=T.vr y hy hk;rw[e]
   refine hin z (by
     rw[List.drop_zero];refine hl3 z ?_;have hb:=(hG.kn.nodes z hz (by rw[z3];decide)).2;exact Nf z hz z3 hb) z99
 refine⟨il ids u (vars [u]),?_,⟨t8 T.ok,?_,(cO ids (vars [u]) []).length,rfl,by simp at c2;omega,?_⟩⟩
 ·generalize il ids u (vars [u])=c at *;rw[g361L0e]at h;simp[tC,gz]at h;simp at k1 k2 k3;rw[ah (af:=g361) rfl rfl (by decide)];simp[g361,k1,k2,k3,g361L0e,h]
 ·refine ue (K:=KS) T.kn (by simp only[KS,KC];omega) ?_ (.inr hall);intro i z hz;obtain⟨a,ha,rfl⟩:=i5 hz;obtain⟨k,_,e⟩:=c1 a ha;rw[e];exact .bare rfl (by simp[br]) (by simp[br])
 · intro y hy hk;rcases wR y hy with⟨i,z,hz,hy⟩|⟨z,hz,e⟩
   ·obtain⟨a,ha,rfl⟩:=i5 hz;obtain⟨k,hk2,e⟩:=c1 a ha;rw[e,Ty.aL]at hy;simp[br]at hy;subst hy;simp only;omega
   ·have:=(T.kn.nodes z hz (by rw[←e,hk];decide)).1;rw[←e,hk]at this;simp at this
def Nh:List Ty:=[⟨3,[],0,99,[]⟩,⟨3,[],1,99,[]⟩]
theorem c349{L:List Int}{tm:Nat}{TP:Int→Sh}(hT:Tape L tm TP){ds:List Dt}{dep:Nat}{l:List En}{g:Ty}{i:Nat}(hL:Sm L)(hdep:dep<10)(hds:ds.length≤20)(hda:∀d∈ds,d.params.length≤8)(hdn:∀d∈ds,d.name.length≤100)(hG:kx L tm TP ds dep)(hl:Ctx (1000-20*(dep+1)) l)(hg:bH g)(hgn:g.nodes.length≤6000-20*(dep+1))(hi:i≤L.length) :
   nA L tm TP (4*(dep+2)) ((aF AP).i 349 [.aM tm 0,.pv (.aw (ds.map Dt.pv)),.pv (.aw (l.map En.pv)),.pv g.pv,.pv (vI (dep+1:Nat))] (TP i) []):=by
 have tn:=hT.norm;have tsh:=hT.shift;have tl:=hT.take;obtain⟨r,j1,e1,r0,r1,hj1⟩:=rH hT hL hi (n:=2) (by omega) (by omega);obtain⟨s,j2,e2,hs,hj2⟩:=Vp hT hL hj1;obtain⟨p,j3,e3,p0,p1,hj3⟩:=rH hT hL hj2 (n:=2) (by omega) (by omega)
 have hlv:∀t∈(if p=0 then Nh else []),t.args=[]∧t.kind=3∧t.name=[]:=by
   intro t ht;split at ht
   ·simp[tn,tsh,tl,Nh]at ht;rcases ht with rfl|rfl<;>exact⟨rfl,rfl,rfl⟩
   ·cases ht
 obtain⟨x,j4,e4,mx,hj4⟩:=PD hT hL hds hda (lv:=if p=0 then Nh else []) (by unfold Sm;split<;>simp[tn,tsh,tl,Nh]) 2 (by omega) j3 hj3;have gx:bH x:=oE hda hdn hlv mx;have hxn:=mx.small hda (fun t ht=>(hlv t ht).1);obtain⟨c,kc,sc⟩:=c361x gx (by omega);have hll:=hl.len;have k1:=c176 (t:=x);have k2:=c179 (l:=l) (by unfold Sm;omega) (n:=s) (c:=⟨0,x⟩);have hl':Ctx (1000-20*dep) l:=hl.bQ (by omega)
 have hlx:Ctx (1000-20*dep) (if r=1 then l++[⟨s,⟨0,x⟩⟩] else l):=by
   split
   ·exact hl.push gx.mono (kQ _ hs) (by omega)
   ·exact hl'
 obtain⟨a,f1,f2,f3,j5,e5,ha,hj5⟩:=hG j4 _ x hj4 hlx gx (by omega);obtain⟨b10,k3⟩:=c307 ha.sc.ok 10;obtain⟨b11,k4⟩:=c307 ha.sc.ok 11;have k5:=c34;have k6:=c176 (t:=bj)
 obtain⟨c',hc',QY⟩:∃c':Sc,c'=(if b10=true∨b11=true then ⟨0,bj⟩ else c)∧gU c':=by
   refine⟨_,rfl,?_⟩;split
   ·exact pA.mono
   ·exact sc
 have k7:=c179 (l:=l) (by unfold Sm;omega) (n:=s) (c:=c');obtain⟨b,f4,f5,f6,j6,e6,hb,hj6⟩:=hG j5 _ g hj5 (hl.push (s:=s) QY (kQ _ hs) (by omega)) hg (by omega);have hA:=jE f1 f2 f3 a;generalize i6 f1 f2 f3 a=A at e5 hA;have hB:=jE f4 f5 f6 b;generalize i6 f4 f5 f6 b=B at e6 hB;have ac:=Ex.aS a;have bc:=Ex.aS b;have tA:A.take 11=A:=List.take_of_length_le (by rw[hA.len];omega);have hk:6+r≠8:=by omega
 refine⟨⟨6+r,0,s,0,[a,b],[],bC⟩,true,true,true,j6,?_,(kP hk (by simp) mS mT (by simpa using⟨ha,hb⟩) (.Vt (by simp only;omega) (kQ _ hs) rfl rfl ha.tx hb.tx)).up (by omega),hj6⟩;have h2:(dep:Int)+1-1=dep:=by omega
 have q1:=c71 (n:=99) (m:=0);have q2:=c71 (n:=99) (m:=1);have hr:r=0∨r=1:=by omega
 simp[tn,tsh,tl,Ty.av]at e1 e2 e3 e4 kc k1 k2 k3 k4 e5;rw[aB (af:=g349) rfl (by simp[tn,tsh,tl,g349])];rcases hr with rfl|rfl<;>by_cases hp:p=0<;>cases b10<;>cases b11<;>subst hc'<;>simp[tn,tsh,tl,bj]at k5 k6 k7 e6<;>simp[tn,tsh,tl,hp,Nh]at e4 e5 q1 q2 <;>
 simp (disch:=omega) [tn,tsh,tl,g349,h2,e1,e2,e3,hp,e4,kc,k1,k2,k3,k4,k5,k6,k7,e5,e6,q1,q2,aq,hA.bR,hA.flat,hA.gS,hA.len,hA.leaf,hB.bR,hB.flat,hB.gS,hB.len,hB.leaf,tA,ac,bc,aE,i6,dY,bC]
theorem JU{vs:List Int}{x:Ty}{v:Int}(h:v∈vs):iQ (vs.map fun v=>As.mk v x) v=some x:=by
 induction vs with
 |nil=>simp at h
 |cons a r ih=>
   simp only[List.map_cons,iQ];by_cases e:a=v
   ·simp[e]
   · simp only[List.mem_cons]at h;rcases h with h|h
     ·exact absurd h.symm e
     ·simp[e,ih h]
theorem uu{vs:List Int}{x y:Ty}{v:Int}(h:iQ (vs.map fun v=>As.mk v x) v=some y):y=x:=by
 obtain⟨a,ha,rfl⟩:=i5 h;simp only[List.mem_map]at ha;obtain⟨w,_,rfl⟩:=ha;rfl
theorem Gj{s:List As}(hs:∀i x,iQ s i=some x→x.nodes.length≤1)(t:Ty):(t.sub s).nodes.length≤t.nodes.length:=by
 refine Ty.dJ (p:=fun t=>(t.sub s).nodes.length≤t.nodes.length) ?_ t;intro t ih;rw[Ty.sub_eq];split
 · cases e:iQ s t.id with
   |some x=>
     have:=hs _ _ e;rw[Ty.aL t];simp only[Option.getD_some,List.length_cons];omega
   |none=>exact Nat.le_refl _
 · rw[Ty.aL,Ty.aL t];simp only[List.length_cons,List.length_flatMap,List.map_map]
   have:(t.args.map ((fun x=>x.nodes.length) ∘ Ty.sub s)).sum≤(t.args.map fun x=>x.nodes.length).sum:=by
     generalize t.args=l at ih;induction l with
     |nil=>simp
     |cons a r ih2=>
       have h1:=ih a (by simp);have h2:=ih2 fun x hx=>ih x (by simp[hx])
       simp only[List.map_cons,List.sum_cons,Function.comp_apply];omega
   omega
theorem c363x{t:Ty}(h:JQ t):∃u:Ty,(aF AP).p 363 [t.pv]=some [u.pv]∧bH u∧u.nodes.length≤4000:=by
 have hl:=nr (k:=1) (t:=t);have hn:=h.2;refine⟨_,c363 (S:=t.eJ 1) (by omega) (fun x hx=>bL (kL x hx)) (t:=t) ⟨h.1.1,h.1.2.wf,fun x hx=>hx⟩,⟨?_,?_⟩,Nat.le_trans (Gj (fun i x hx=>by rw[uu hx,Ty.aL];simp[bj]) t) h.2⟩
 ·refine yp ?_ h.1.1;intro a ha;simp only[List.mem_map]at ha;obtain⟨w,_,rfl⟩:=ha;exact pA.ok
 · refine ue (K:=KS) h.1.2 (by simp only[KS,KG];omega) ?_ (.inr ?_)
   ·intro i x hx;rw[uu hx];exact pA.kn
   ·intro y hy hk;exact⟨bj,JU (kR (by simpa using hy) hk)⟩
def TR(h:Hd):List AV:=[.pv (.str h.name),.pv (.bool h.kr),.pv (.aw (h.args.map Ty.pv)),.pv (.aw (h.types.map Ty.pv))]
def TS(k:Int)(s:bX)(ks:List Ex):List AV:=[.pv (vI k),.pv (vI 0),.pv (.str s),.pv (vI 0),.own (ks.map Ex.pv) 3,.own [] 4,.pv (vI 0),.pv (.str []),.pv (vI 0),.pv (vI 0),.own [] 5]
theorem Vx{L:List Int}{tm:Nat}{TP:Int→Sh}(hT:Tape L tm TP){ds:List Dt}{dep:Nat}{l:List En}(hdep:dep<10)(hG:kx L tm TP ds dep)(hl:Ctx (1000-20*dep) l){h:Hd}(hh:ui h):∀(n i:Nat),h.args.length-i=n→i≤h.args.length→∀(k:Int) (s:bX) (ks:List Ex) (I N:Nat),yN N ⟨k,0,s,0,ks,[],bC⟩→4*(dep+1)≤N→N+n≤4*(dep+1)+3→I≤L.length→∃(k':Int) (s':bX) (ks':List Ex) (J:Nat),yN (N+n) ⟨k',0,s',0,ks',[],bC⟩∧J≤L.length ∧
   cl AP g352L0 ⟨[(0,.aM tm 0),(1,.pv (.aw (ds.map Dt.pv))),(2,.pv (.aw (l.map En.pv))),(4,.pv (vI (dep+1))),(10,.au 10 0),(12,.au 12 0),(13,.au 13 0),(14,.pv (vI i))],[(10,po 0),(12,TR h),(13,TS k s ks)],TP I,[0,0,0,ks.length,0,0]⟩ =
     some (.exit 0,⟨[(0,.aM tm 0),(1,.pv (.aw (ds.map Dt.pv))),(2,.pv (.aw (l.map En.pv))),(4,.pv (vI (dep+1))),(10,.au 10 0),(12,.au 12 0),(13,.au 13 0),(14,.pv (vI h.args.length)),(45,.pv (.bool false))],[(10,po 0),(12,TR h),(13,TS k' s' ks')],TP J,[0,0,0,ks'.length,0,0]⟩)
 |0,i,hn,hi,k,s,ks,I,N,hY,hN,hN2,hI=>by
   have tn:=hT.norm;have tsh:=hT.shift;have tl:=hT.take;have:i=h.args.length:=(by omega);subst this;refine⟨k,s,ks,I,hY,hI,?_⟩;rw[g352L0e];simp[tn,tsh,tl,g352B0,po,TR,TS]
 |n+1,i,hn,hi,k,s,ks,I,N,hY,hN,hN2,hI=>by
   have tn:=hT.norm;have tsh:=hT.shift;have tl:=hT.take;have hi:i<h.args.length:=(by omega);obtain⟨t,ht⟩:=aP hi;obtain⟨u,k1,gu,gn⟩:=c363x (hh.2.1 t (aQ ht));obtain⟨y,f1,f2,f3,j,k2,hy,hj⟩:=hG I l u hI hl gu (by omega)
   have hY2:yN (N+1) ⟨5,0,[],0,[⟨k,0,s,0,ks,[],bC⟩,y],[],bC⟩:=by
     obtain⟨r,rfl⟩:∃r,N=4*(dep+1)+r:=⟨N-4*(dep+1),by omega⟩;exact PF (by omega) (by omega) hY hy
   obtain⟨k',s',ks',J,q1,q2,e'⟩:=Vx hT hdep hG hl hh n (i+1) (by omega) (by omega) 5 [] [⟨k,0,s,0,ks,[],bC⟩,y] j (N+1) hY2 (by omega) (by omega) hj;refine⟨k',s',ks',J,q1.up (by omega),q2,?_⟩;have hA:=jE f1 f2 f3 y;generalize i6 f1 f2 f3 y=A at k2 hA;have ac:=Ex.aS y;have tA:A.take 11=A:=List.take_of_length_le (by rw[hA.len];omega);have h2:(dep:Int)+1-1=dep:=by omega
   have ha:=hh.1;rw[g352L0e]at e' ⊢;simp[tn,tsh,tl,po,TR,TS,bC]at e'
   try simp[tn,tsh,tl]at k1 k2
   simp (disch:=omega) [tn,tsh,tl,-getElem?_pos,g352B0,po,TR,TS,ht,hi,h2,k1,k2,aq,hA.bR,hA.flat,hA.gS,hA.len,hA.leaf,tA,ac,aE];rw[g352L0e];simp[tn,tsh,tl,e']
theorem c352{L:List Int}{tm:Nat}{TP:Int→Sh}(hT:Tape L tm TP){ds:List Dt}{dep:Nat}{l:List En}{g:Ty}{i:Nat}(hL:Sm L)(hdep:dep<10)(hD:pB ds)(hG:kx L tm TP ds dep)(hl:Ctx (1000-20*(dep+1)) l)(hg:bH g)(hi:i≤L.length) :
   nA L tm TP (4*(dep+2)) ((aF AP).i 352 [.aM tm 0,.pv (.aw (ds.map Dt.pv)),.pv (.aw (l.map En.pv)),.pv g.pv,.pv (vI (dep+1:Nat))] (TP i) []):=by
 have tn:=hT.norm;have tsh:=hT.shift;have tl:=hT.take;have hll:=hl.len;obtain⟨hs,n1,hO,k1⟩:=c362 hg hD (l:=l) (by omega) hl.B8 hl.nm;by_cases z:hs=[]
 · subst z;obtain⟨e,f1,f2,f3,j,k,ht,hj⟩:=c348 hT hL (ds:=ds) (hl.bQ (by omega)) hg hi;refine⟨e,f1,f2,f3,j,?_,ht.up (by omega),hj⟩
   try simp[tn,tsh,tl]at k1
   rw[aB (af:=g352) rfl (by simp[tn,tsh,tl,g352])];cases f1<;>cases f2<;>cases f3<;>simp[tn,tsh,tl,i6,dY]at k<;>simp[tn,tsh,tl,g352,k1,k,i6,dY,aE]
 · have hp:0<hs.length:=List.length_pos_iff.2 z;obtain⟨m,j,e1,m0,m1,hj⟩:=rH hT hL hi (n:=hs.length) (by omega) (by omega);obtain⟨m,rfl,hm⟩:=yn m0 m1;obtain⟨h,hx⟩:=aP hm;have hhO:=hO h (aQ hx);have ha:=hhO.1;obtain⟨k',s',ks',J,q1,q2,e2⟩:=Vx hT (L:=L) (l:=l) hdep hG (hl.bQ (by omega)) hhO _ 0 rfl (by omega) (if h.kr=true then 2 else 1) h.name [] j (4*(dep+1)) ((iF (.inl ⟨by split<;>simp,hhO.2.2⟩)).up (by omega)) (by omega) (by omega) hj;refine⟨⟨k',0,s',0,ks',[],bC⟩,false,false,false,J,?_,q1.up (by omega),q2⟩;rw[g352L0e]at e2
   try simp[tn,tsh,tl]at k1 e1
   rw[aB (af:=g352) rfl (by simp[tn,tsh,tl,g352])];cases hc:h.kr<;>simp[tn,tsh,tl,po,TR,TS,hc]at e2<;>simp[tn,tsh,tl,-getElem?_pos,g352,k1,z,e1,hx,hc,g352L0e,e2,i6,dY,bC,aE]
theorem Gk:∀d∈cq,d.params.length≤100∧∀c∈d.cons,∀f∈c.fields,Pz ⟨d.params.length,f.l_ d.params⟩=true:=by decide +kernel
theorem uv{K:Nat}{t:Ty}(h:gU ⟨K,t⟩){as:List Ty}(ha:as.length=K)(hg:∀a∈as,bH a):bH (t.kf as):=by
 obtain⟨K',h1,_,h3⟩:=h.J';have:K'=K:=by simp at h1;omega
 subst this;exact⟨Fb (fun a h=>(hg a h).ok) h.ok,Ff h.kn (by simp only[KC,KG];omega) (fun a h=>(hg a h).kn) (fun y hy hk=>by have:=h3 y hy hk;omega)⟩
theorem BY{ds:List Dt}(hD:pB ds){s:bX}{as:List Ty}(hg:∀a∈as,bH a):((fieldsOf ds s as).getD []).length≤8∧∀f∈(fieldsOf ds s as).getD [],bH f:=by
 cases e:fieldsOf ds s as with
 |none=>simp
 |some fs=>
   simp only[fieldsOf,Option.bind_eq_some_iff]at e;obtain⟨q,_,d,hd,c,hc,e⟩:=e;split at e
   ·rename_i hl;cases e;have dA:=hD.all d (aQ hd);obtain⟨_,_,h8⟩:=dz d dA;obtain⟨hb,hb2⟩:=Gk d dA;refine⟨by simpa using (h8 c (aQ hc)).1,?_⟩;intro f hf;simp only[Option.getD_some,List.mem_map]at hf;obtain⟨x,hx,rfl⟩:=hf;exact uv (yM rfl hb (hb2 c (aQ hc) x hx)) hl hg
   ·cases e
theorem pB.small{ds:List Dt}(h:pB ds):Small ds where
 num:=by have:=h.len;unfold Sm;omega
 kr:=fun d hd=>by have:=(dz d (h.all d hd)).2.1;unfold Sm;omega
 Xa:=by have:=h.len;have:=Pq (b:=8) fun d hd=>(dz d (h.all d hd)).2.1;unfold Sm;omega
 par:=fun d hd=>by have:=(dz d (h.all d hd)).1;unfold Sm;omega
 WE:=fun d hd c hc=>by
   obtain⟨a,b,c2⟩:=Gg (h.all d hd) c hc;exact⟨a,b,fun x hx=>(c2 x hx).cw⟩
theorem QZ{L:List Int}{tm:Nat}{TP:Int→Sh}(hT:Tape L tm TP)(hL:Sm L){ds:List Dt}(hds:ds.length≤20)(hda:∀d∈ds,d.params.length≤8)(hdn:∀d∈ds,d.name.length≤100){p2:PV}{p4:PV}{g:Ty}{d:Dt}(hd8:d.params.length≤8):∀(n k:Nat),d.params.length-k=n→k≤d.params.length→∀(acc:List Ty) (i:Nat),acc.length=k→(∀x∈acc,bH x∧x.nodes.length≤9)→i≤L.length →
   ∃(r:List Ty) (j:Nat),r.length=d.params.length∧(∀x∈r,bH x∧x.nodes.length≤9)∧j≤L.length ∧
   cl AP g350L0 ⟨[(0,.aM tm 0),(1,.pv (.aw (ds.map Dt.pv))),(2,.pv p2),(4,.pv p4),(8,.au 8 0),(10,.au 10 0),(11,.au 11 0),(12,.own (acc.map Ty.pv) 0),(13,.pv (vI k))],[(8,tC g),(10,po 1),(11,Fk d)],TP i,[acc.length,0,0,0]⟩ =
     some (.exit 0,⟨[(0,.aM tm 0),(1,.pv (.aw (ds.map Dt.pv))),(2,.pv p2),(4,.pv p4),(8,.au 8 0),(10,.au 10 0),(11,.au 11 0),(12,.own (r.map Ty.pv) 0),(13,.pv (vI d.params.length)),(41,.pv (.bool false))],[(8,tC g),(10,po 1),(11,Fk d)],TP j,[r.length,0,0,0]⟩)
 |0,k,hn,hk,acc,i,ha,hm,hi=>by
   have tn:=hT.norm;have tsh:=hT.shift;have tl:=hT.take;have:k=d.params.length:=(by omega);subst this;refine⟨acc,i,ha,hm,hi,?_⟩;rw[g350L0e];simp[tn,tsh,tl,g350B0,tC,po,Fk]
 |n+1,k,hn,hk,acc,i,ha,hm,hi=>by
   have tn:=hT.norm;have tsh:=hT.shift;have tl:=hT.take;have hk:k<d.params.length:=(by omega);obtain⟨t,j1,e1,mt,hj1⟩:=PD hT hL hds hda (lv:=[]) (by simp[tn,tsh,tl,Sm]) 1 (by omega) i hi;have gt:bH t:=oE hda hdn (by simp) mt;have gn:=mt.small hda (by simp)
   obtain⟨r,j,h1,h2,h3,e'⟩:=QZ hT hL hds hda hdn (p2:=p2) (p4:=p4) (g:=g) hd8 n (k+1) (by omega) (by omega) (acc++[t]) j1 (by simp;omega) (by
     intro x hx;simp at hx;rcases hx with hx|rfl
     ·exact hm x hx
     ·exact⟨gt,by omega⟩) hj1
   refine⟨r,j,h1,h2,h3,?_⟩;have hb:(acc.length+1)*64≤140737488355328:=by omega
   rw[g350L0e]at e' ⊢;simp[tn,tsh,tl,tC,po,Fk]at e';simp[tn,tsh,tl,Ty.av]at e1;simp (disch:=omega) [tn,tsh,tl,-getElem?_pos,g350B0,tC,po,Fk,hk,e1,hb,aq];rw[g350L0e];simp[tn,tsh,tl,e']
def NY(x:Ex)(as:List Ar):List AV:=[.pv (vI 8),.pv (vI 0),.pv (.str []),.pv (vI 0),.own [x.pv] 4,.own (as.map Ar.pv) 5,.pv (vI 0),.pv (.str []),.pv (vI 0),.pv (vI 0),.own [] 6]
def TT(c:mG)(vs:List bX):List AV:=[.pv (vI 0),.pv (.str c.name),.own (vs.map .str) 7,.pv (vI 0),.pv (vI 0),.pv (.str []),.pv (vI 0),.own [] 8,.own [] 9,.pv (vI 0),.pv (.str []),.pv (vI 0),.pv (vI 0),.own [] 10]
def Vy:List bX:=[[120],[121],[122],[119]]
theorem Gl:∀s∈Vy,s.length≤100:=by
 intro s hs;simp only[Vy,List.mem_cons,List.not_mem_nil,or_false]at hs;rcases hs with rfl|rfl|rfl|rfl<;>simp
theorem Q0{L:List Int}{tm:Nat}{TP:Int→Sh}(hT:Tape L tm TP){I:Nat}{p1 p2 p4:PV}{g:Ty}{d:Dt}{as:List Ty}{x:Ex}{ar:List Ar}{C:Nat}{c:mG}{f:List Ty}(hf8:f.length≤8)(hf:∀t∈f,bH t){N:Nat}(hN:N≤10000):∀(n k:Nat),f.length-k=n→k≤f.length→∀(vs:List bX) (l:List En),vs.length=k→(∀v∈vs,v.length≤100)→Ctx (N+k) l →
   ∃(r:List bX) (l':List En),r.length=f.length∧(∀v∈r,v.length≤100)∧Ctx (N+f.length) l' ∧
   cl AP g350L2 ⟨[(0,.aM tm 0),(1,.pv p1),(2,.pv p2),(4,.pv p4),(8,.au 8 0),(10,.au 10 0),(11,.au 11 0),(12,.own (as.map Ty.pv) 0),(14,.au 14 0),(15,.pv (vI C)),(16,.pv (.aw (f.map Ty.pv))),(18,.au 18 0),(19,.pv (.aw (l.map En.pv))),(20,.pv (vI k))],
     [(8,tC g),(10,po 1),(11,Fk d),(14,NY x ar),(18,TT c vs)],TP I,[as.length,0,0,0,1,ar.length,0,vs.length,0,0,0]⟩ =
     some (.exit 4,⟨[(0,.aM tm 0),(1,.pv p1),(2,.pv p2),(4,.pv p4),(8,.au 8 0),(10,.au 10 0),(11,.au 11 0),(12,.own (as.map Ty.pv) 0),(14,.au 14 0),(15,.pv (vI C)),(16,.pv (.aw (f.map Ty.pv))),(18,.au 18 0),(19,.pv (.aw (l'.map En.pv))),(20,.pv (vI f.length)),(92,.pv (.bool false))],
     [(8,tC g),(10,po 1),(11,Fk d),(14,NY x ar),(18,TT c r)],TP I,[as.length,0,0,0,1,ar.length,0,r.length,0,0,0]⟩)
 |0,k,hn,hk,vs,l,hv,hvn,hl=>by
   have tn:=hT.norm;have tsh:=hT.shift;have tl:=hT.take;have:k=f.length:=(by omega);subst this;refine⟨vs,l,hv,hvn,hl,?_⟩;rw[g350L2e];simp[tn,tsh,tl,g350B2,tC,po,Fk,NY,TT]
 |n+1,k,hn,hk,vs,l,hv,hvn,hl=>by
   have tn:=hT.norm;have tsh:=hT.shift;have tl:=hT.take;have hk:k<f.length:=(by omega);obtain⟨t,ht⟩:=aP hk;have hll:=hl.len;obtain⟨q,hrem,hq⟩:∃q:Nat,(k:Int).tmod 4=q∧q<4:=⟨((k:Int) % 4).toNat,by rw[Int.tmod_eq_emod_of_nonneg (by omega)];omega,by omega⟩;obtain⟨s,hs⟩:=aP (l:=Vy) (i:=q) (by simpa[Vy] using hq);have k1:=c176 (t:=t);have k2:=c179 (l:=l) (by unfold Sm;omega) (n:=s) (c:=⟨0,t⟩)
   obtain⟨r,l',h1,h1n,h2,e'⟩:=Q0 hT (L:=L) (I:=I) (p1:=p1) (p2:=p2) (p4:=p4) (g:=g) (d:=d) (as:=as) (x:=x) (ar:=ar) (C:=C) (c:=c) hf8 hf hN n (k+1) (by omega) (by omega) (vs++[s]) (l++[⟨s,⟨0,t⟩⟩]) (by simp;omega) (by
     intro v hv;simp only[List.mem_append,List.mem_singleton]at hv;rcases hv with hv|rfl
     ·exact hvn v hv
     ·exact Gl _ (aQ hs)) (hl.push (hf t (aQ ht)).mono (Gl _ (aQ hs)) (by omega))
   refine⟨r,l',h1,h1n,h2,?_⟩;have hb:(vs.length+1)*16≤140737488355328:=by omega
   have hs':([PV.str [120],.str [121],.str [122],.str [119]]:List PV)[q]?=some (.str s):=by
     have:([PV.str [120],.str [121],.str [122],.str [119]]:List PV)=Vy.map PV.str:=rfl;rw[this];simp[tn,tsh,tl,hs]
   rw[g350L2e]at e' ⊢;simp[tn,tsh,tl,tC,po,Fk,NY,TT]at e'
   try simp[tn,tsh,tl]at k1 k2
   simp (disch:=omega) [tn,tsh,tl,-getElem?_pos,g350B2,tC,po,Fk,NY,TT,hk,ht,hrem,hs',k1,k2,hb,aq,aE];rw[g350L2e];simp[tn,tsh,tl,e']
def Mc.cx(m:Mc)(k:Nat):List AV:=[.pv (.aw (m.ds.map Dt.pv)),.pv (vI m.home),.pv (.aw (m.s.sl.map Sl.pv)),.pv (.aw (m.s.tr.map Ch.pv)),.pv (vI m.err),.pv (vI m.pos),.own (m.rc.map Ho.pv) k,.own (m.hd.map .bool) (k+1)]
def NZ(h:Int)(s:de):Nat→de
 |0=>s
 |i+1=>bN (NZ h s i) h false
theorem yQ{n:Nat}{s:de}(I:r_ n s)(h:Int):∀i,r_ (n+i) (NZ h s i)
 |0=>I
 |i+1=>(yQ I h i).fresh h
theorem Gm(s:de)(h:Int):∀i,Ext s.sl (NZ h s i).sl
 |0=>.refl _
 |i+1=>(Gm s h i).trans (Ext.fresh _ h false)
def eC(n K:Nat):List Ty:=(List.range' n K).map fun j:Nat=>aK j
theorem wS(n K:Nat):eC n (K+1)=eC n K++[aK (n+K:Nat)]:=by simp[eC,List.range'_concat]
@[simp] theorem mU(n K:Nat):(eC n K).length=K:=by simp[eC]
theorem BZ{n K:Nat}:∀x∈eC n K,fq (n+K) x:=by
 intro x hx;simp only[eC,List.mem_map,List.mem_range'_1]at hx;obtain⟨j,hj,rfl⟩:=hx;exact lL (dG.2 (by omega))
def nC(m:Mc)(i:Nat):Mc:={ m with s:=NZ m.home m.s i }
theorem Vz{m:Mc}{n:Nat}(I:r_ n m.s){c:Sc}{K:Nat}(hc:c.id=K)(hn:n+K≤1000000):∀(k i:Nat),K-i=k→i≤K →
   cl AP g382L0 ⟨[(0,.aM 0 0),(3,.au 3 0),(4,.au 4 0),(6,.own ((eC n i).map Ty.pv) 0),(7,.pv (vI i))],[(3,uf c),(4,zC 1)],[some ((nC m i).cx 2)],[i,0,m.rc.length,m.hd.length]⟩ =
     some (.exit 0,⟨[(0,.aM 0 0),(3,.au 3 0),(4,.au 4 0),(6,.own ((eC n K).map Ty.pv) 0),(7,.pv (vI K)),(11,.pv (.bool false))],[(3,uf c),(4,zC 1)],[some ((nC m K).cx 2)],[K,0,m.rc.length,m.hd.length]⟩)
 |0,i,hk,hi=>by
   have:i=K:=by omega
   subst this;rw[g382L0e];simp[g382B0,uf,zC,hc,Mc.cx,nC]
 |k+1,i,hk,hi=>by
   have hi:i<K:=(by omega);have e:=c367 (m:=nC m i) (n:=n+i) (yQ I m.home i) (by omega);have ih:=Vz I hc hn k (i+1) (by omega) (by omega);have hb:(i+1)*64≤140737488355328:=(by omega);have hl:=mU n i;rw[wS]at ih;unfold kg at e;simp[Mc.sh,Mc.tk,Mc.cells,nC,aK]at e;rw[g382L0e]at ih⊢;simp[uf,zC,hc,Mc.cx,nC,NZ,aK]at ih;generalize eC n i=acc at *;generalize bN (NZ m.home m.s i) m.home false=s1 at *;subst hl;simp (disch:=omega) [-getElem?_pos,g382B0,uf,zC,hc,hi,Mc.cx,nC,e,aq,hb];rw[g382L0e];simp[ih]
def N0(t:Ty):AV:=.agg [.pv (vI t.kind),.pv (.str t.name),.pv (vI t.id),.pv (vI t.home),.pv (.aw (t.args.map Ty.pv))]
theorem c382{m:Mc}{n:Nat}(I:r_ n m.s){c:Sc}{K:Nat}(hc:c.id=K)(hn:n+K≤1000000)(hO:c.ty.Ok):(aF AP).i 382 [.aM 0 0,.pv c.pv] m.sh m.tk=some ([N0 (c.ty.kf (eC n K)),.own ((eC n K).map Ty.pv) 0],[some ((nC m K).cx 1)],[K,m.rc.length,m.hd.length]):=by
 have h:=Vz I hc hn _ 0 rfl (by omega);have k1:=c48 (s:=eC n K) (by unfold Sm;simp;omega) hO;have hl:=mU n K;have h0:eC n 0=[]:=by simp[eC]
 rw[h0]at h;have hpv:c.pv=.agg [vI c.id,vI c.ty.kind,.str c.ty.name,vI c.ty.id,vI c.ty.home,.aw (c.ty.args.map Ty.pv)]:=rfl;rw[g382L0e]at h;simp[uf,zC,hc,Mc.cx,nC,NZ]at h k1;generalize eC n K=acc at *;generalize c.ty.kf acc=u at *;rw[aB (af:=g382) rfl (by simp[g382])];simp[g382,Mc.sh,Mc.tk,Mc.cells,Mc.cx,N0,hpv,hc,g382L0e,h,k1,nC,hl]
def aW(l:List Ho):List Ty:=l.flatMap fun h=>h.ctx.map (fun x=>x.sc.ty)++[h.goal]
def N1(h:Ho):Prop:=h.ctx.length≤1000000
theorem Q4{l:List Ho}{i:Nat}{h:Ho}(hi:l[i]?=some h)(hb:N1 h){B:Nat}:∀(n j:Nat),h.ctx.length-j=n→j≤h.ctx.length→∀acc:List Ty,acc.length+n≤B→B≤1000000000000 →
   cl AP g356L1 ⟨[(0,.pv (.aw (l.map Ho.pv))),(3,.own (acc.map Ty.pv) 0),(4,.pv (vI i)),(5,.pv (vI j))],[],[],[acc.length]⟩ =
     some (.exit 2,⟨[(0,.pv (.aw (l.map Ho.pv))),(3,.own ((acc++(h.ctx.drop j).map fun x=>x.sc.ty).map Ty.pv) 0),(4,.pv (vI i)),(5,.pv (vI h.ctx.length)),(19,.pv (.bool false))],[],[],[acc.length+n]⟩)
 |0,j,hn,hj,acc,ha,hB=>by
   have:j=h.ctx.length:=by omega
   subst this;have hil:=(List.getElem?_eq_some_iff.1 hi).1;rw[g356L1e];simp[-getElem?_pos,g356B1,hi,hil]
 |n+1,j,hn,hj,acc,ha,hB=>by
   have hj:j<h.ctx.length:=(by omega);obtain⟨x,hx⟩:=aP hj;have hil:=(List.getElem?_eq_some_iff.1 hi).1;have ih:=Q4 hi hb n (j+1) (by omega) (by omega) (acc++[x.sc.ty]) (by simp;omega) hB;have hbb:(acc.length+1)*64≤140737488355328:=(by omega);unfold N1 at hb;rw[g356L1e]at ih⊢;rw[bl hx];simp at ih;simp (disch:=omega) [-getElem?_pos,g356B1,hi,hil,hx,hj,hbb,aq];rw[g356L1e];simp[ih];omega
theorem VA{l:List Ho}(hl:l.length≤100000)(hb:∀h∈l,N1 h):∀(n i:Nat),l.length-i=n→i≤l.length→∀acc:List Ty,acc.length+n*1000001≤200000000000 →
   cl AP g356L0 ⟨[(0,.pv (.aw (l.map Ho.pv))),(3,.own (acc.map Ty.pv) 0),(4,.pv (vI i))],[],[],[acc.length]⟩ =
     some (.exit 0,⟨[(0,.pv (.aw (l.map Ho.pv))),(3,.own ((acc++aW (l.drop i)).map Ty.pv) 0),(4,.pv (vI l.length)),(9,.pv (.bool false))],[],[],[acc.length+(aW (l.drop i)).length]⟩)
 |0,i,hn,hi,acc,ha=>by
   have:i=l.length:=by omega
   subst this;rw[g356L0e];simp[g356B0,aW]
 |n+1,i,hn,hi,acc,ha=>by
   have hi:i<l.length:=(by omega);obtain⟨h,hx⟩:=aP hi;have hbh:=hb h (aQ hx);have hbl:=hbh;unfold N1 at hbl;have e1:=Q4 hx hbh (B:=acc.length+1000001) _ 0 rfl (by omega) acc (by omega) (by omega);have ih:=VA hl hb n (i+1) (by omega) (by omega) (acc++(h.ctx.map (fun x=>x.sc.ty)++[h.goal])) (by simp;omega);have hbb:(acc.length+h.ctx.length+1)*64≤140737488355328:=(by omega);have hh:=pk.head (acc++h.ctx.map fun x=>x.sc.ty);rw[List.map_append,List.map_map]at hh;have hr:aW (l.drop i)=(h.ctx.map (fun x=>x.sc.ty)++[h.goal])++aW (l.drop (i+1)):=(by rw[bl hx];simp[aW]);rw[hr];generalize aW (l.drop (i+1))=R at *;rw[g356L1e]at e1;rw[g356L0e]at ih⊢;rw[List.drop_zero]at e1;simp at e1 ih;simp (disch:=omega) [-getElem?_pos,g356B0,hi,hx,g356L1e,e1,hbb,hh,aq];rw[g356L0e];simp[ih,Nat.add_assoc,Nat.add_comm 1]
theorem c356{l:List Ho}(hl:l.length≤100000)(hb:∀h∈l,N1 h):(aF AP).p 356 [.aw (l.map Ho.pv)]=some [.aw ((aW l).map Ty.pv)]:=by
 have h:=VA hl hb _ 0 rfl (by omega) [] (by simp;omega);rw[ah (af:=g356) rfl rfl (by decide)];rw[g356L0e]at h;simp at h;simp[g356,g356L0e,h]
theorem lO{l:List Ho}(hb:∀h∈l,N1 h):(aW l).length≤l.length*1000001:=by
 unfold aW;rw[List.length_flatMap];refine jF fun h hh=>?_;have:=hb h hh
 unfold N1 at this;simp;omega
theorem Ni{s:List Sl}{v:Int}:∀{m:Nat} {t:Ty},RT s (wk s m t) v→RT s t v
 |0,t,h=>h
 |m+1,t,h=>by
   unfold wk at h;split at h
   ·rename_i x hx;obtain⟨k,i,hi,hx,hb⟩:=d4 hx;obtain⟨w,ho,hr⟩:=Ni h;exact⟨t.id,.var k,.step ⟨i,x,hi,hx,hb,ho⟩ hr⟩
   ·exact h
theorem Q5{s:List Sl}{v:Int}(hv:¬ky s v):∀{m:Nat} {t:Ty},RT s t v→RT s (wk s m t) v
 |0,t,h=>h
 |m+1,t,h=>by
   unfold wk;split
   · rename_i x hx;obtain⟨k,i,hi,hx,hb⟩:=d4 hx;refine Q5 hv ?_;obtain⟨w,ho,hr⟩:=h;rw[gP k ho]at hr;cases hr with
     |refl=>exact absurd ⟨i,x,hi,hx,hb⟩ hv
     |step e hr=>
       obtain⟨j,y,e1,hy,_,ho⟩:=e;have:j=i:=by omega
       subst this;rw[hx]at hy;cases hy;exact⟨_,ho,hr⟩
   ·exact h
theorem J9.gQ{s:List Sl}(ha:JI s){t u:Ty}(h:J9 s t u):∀v,ef u v↔RT s t v∧¬ky s v:=by
 induction h with
 | @mk t u h1 h2 h3 h4 h5 _ ih=>
   intro v;constructor
   · intro ho;cases ho with
     |var k=>
       have kw:(iE s t).kind=1:=(by rw[←h1];exact k);rw[h3];exact⟨Ni (m:=s.length+1) ⟨_,.var kw,.refl _⟩,gk kw (mP ha)⟩
     | @arg _ a _ k hm ho=>
       obtain⟨i,hi⟩:=List.getElem?_of_mem hm;have hl:=(List.getElem?_eq_some_iff.1 hi).1;obtain⟨b,hb⟩:=aP (l:=(iE s t).args) (i:=i) (by omega);obtain⟨⟨w,hw,hr⟩,hf⟩:=(ih i b a hb hi v).1 ho;exact⟨Ni (m:=s.length+1) ⟨w,.arg (by change (iE s t).kind≠1;rw[←h1];exact k) (aQ hb) hw,hr⟩,hf⟩
   · rintro⟨hr,hf⟩
     obtain⟨w,ho,hr⟩:=Q5 (m:=s.length+1) hf hr
     change ef (iE s t) w at ho
     cases ho with
     |var k=>
       have:=mL hr (gk k (mP ha));rw[this,←h3];exact .var (by rw[h1];exact k)
     | @arg _ b _ k hm ho=>
       obtain⟨i,hi⟩:=List.getElem?_of_mem hm;have hl:=(List.getElem?_eq_some_iff.1 hi).1;obtain⟨a,ha'⟩:=aP (l:=u.args) (i:=i) (by omega);exact .arg (by rw[h1];exact k) (aQ ha') ((ih i b a hi ha' v).2 ⟨⟨w,ho,hr⟩,hf⟩)
theorem J9.kw{s:List Sl}(hs:∀x∈s,x.ty.Kw){t u:Ty}(h:J9 s t u):t.Kw→u.Kw:=by
 induction h with
 | @mk t u h1 h2 h3 h4 h5 _ ih=>
   intro hk;have w:(iE s t).Kw:=nQ hs hk;refine .mk (fun q=>?_) (by rw[h2];exact w.nm) fun x hx=>?_
   ·rw[h1]at q;obtain⟨a,b⟩:=w.hd q;exact⟨by rw[h1];exact a,List.length_eq_zero_iff.1 (by rw[h5,b];rfl)⟩
   ·obtain⟨i,hi⟩:=List.getElem?_of_mem hx;have hl:=(List.getElem?_eq_some_iff.1 hi).1;obtain⟨b,hb⟩:=aP (l:=(iE s t).args) (i:=i) (by omega);exact ih i b x hb hi (w.kd b (aQ hb))
theorem uw{t:Ty}{v:Int}(h:ef t v):∃y∈t.nodes,y.kind=1∧y.id=v:=by
 induction h with
 | @var t k=>exact⟨t,by rw[Ty.aL];simp,k,rfl⟩
 | @arg t a v _ hm _ ih=>
   obtain⟨y,hy,e⟩:=ih;exact⟨y,by rw[Ty.aL];simp only[List.mem_cons,List.mem_flatMap];exact .inr ⟨a,hm,hy⟩,e⟩
theorem Gn{s:List As}{t:Ty}:∀v,ef (t.sub s) v→(ef t v∧iQ s v=none)∨∃i x,iQ s i=some x∧ef x v:=by
 refine Ty.dJ (p:=fun t=>∀v,ef (t.sub s) v→(ef t v∧iQ s v=none)∨∃i x,iQ s i=some x∧ef x v) ?_ t;intro t ih v h;rw[Ty.sub_eq]at h;by_cases q:t.kind=1
 · rw[if_pos q]at h;cases e:iQ s t.id with
   |some x=>rw[e]at h;exact .inr ⟨_,x,e,by simpa using h⟩
   |none=>
     rw[e]at h;have h:ef t v:=by simpa using h
     have:=gP q h;rw[←this]at e;exact .inl ⟨h,e⟩
 · rw[if_neg q]at h;cases h with
   |var k=>exact absurd k q
   | @arg _ a _ k hm ho=>
     simp only[List.mem_map]at hm;obtain⟨b,hb,rfl⟩:=hm;rcases ih b hb v ho with⟨h1,h2⟩|h
     ·exact .inl ⟨.arg q hb h1,h2⟩
     ·exact .inr h
structure iN(n:Nat)(c:Sc):Prop where
 ok:c.ty.Ok
 kn:c.ty.Kn KV
 J':∃K:Nat,c.id=K∧K≤200∧NX K c.ty
 gQ:∀w,ef c.ty w→w∈dq n
theorem iN.bQ{n m:Nat}{c:Sc}(h:iN n c)(hm:n≤m):iN m c:=⟨h.ok,h.kn,h.J',fun w ho=>kO hm w (h.gQ w ho)⟩
theorem fq.bQ{n m:Nat}{t:Ty}(h:fq n t)(hm:n≤m):fq m t:=Fit.bQ h (kO hm)
theorem fq.mono{n:Nat}{t:Ty}(h:fq n t):iN n ⟨0,t⟩:=⟨h.ok,h.wf.imp MW,⟨0,rfl,by omega,by
 intro y hy hk;have:=(h.wf.nodes y hy (by rw[hk];decide)).1;rw[hk]at this;simp at this⟩,h.gQ⟩
theorem JV{n:Nat}{u:Ty}(hO:u.Ok)(hk:u.Kw)(hn:u.nodes.length≤200)(ho:∀w,ef u w→w∈dq n)(ids:List Int):iN n (il ids u (vars [u]))∧∀w,ef (il ids u (vars [u])).ty w→ef u w∧w∉ids:=by
 have hv:=yP (u:=u);obtain⟨c1,c2,_,c4⟩:=lN (ids:=ids) (vars [u]) [] (by simp)
 have gQ:∀w,ef (il ids u (vars [u])).ty w→ef u w∧w∉ids:=by
   intro w h;rcases Gn w h with⟨h1,h2⟩|⟨i,x,hx,hw⟩
   ·refine⟨h1,fun hi=>?_⟩;obtain⟨y,hy,k,e⟩:=uw h1;obtain⟨x,hx⟩:=c4 w (by rw[←e];exact kR (by simpa using hy) k) hi;rw[h2]at hx;cases hx
   · obtain⟨a,ha,rfl⟩:=i5 hx;obtain⟨k,_,e⟩:=c1 a ha;rw[e]at hw;cases hw with
     |var q=>simp[br]at q
     |arg _ hm _=>simp[br]at hm
 refine⟨⟨t8 hO,?_,⟨(cO ids (vars [u]) []).length,rfl,by simp at c2;omega,?_⟩,fun w h=>ho w (gQ w h).1⟩,gQ⟩
 ·refine ue (K:=KS) hk (by simp only[KS,KV];omega) ?_ (.inl (by simp));intro i z hz;obtain⟨a,ha,rfl⟩:=i5 hz;obtain⟨k,_,e⟩:=c1 a ha;rw[e];exact .bare rfl (by simp[br]) (by simp[br])
 · intro y hy hk2;rcases wR y hy with⟨i,z,hz,hy⟩|⟨z,hz,e⟩
   ·obtain⟨a,ha,rfl⟩:=i5 hz;obtain⟨k,hk3,e⟩:=c1 a ha;rw[e,Ty.aL]at hy;simp[br]at hy;subst hy;simp only;omega
   ·have:=(hk.nodes z hz (by rw[←e,hk2];decide)).1;rw[←e,hk2]at this;simp at this
def JW(k:Nat):List AV:=[.pv (vI 0),.pv (vI 0),.pv (.str []),.pv (vI 0),.pv (vI 0),.own [] k]
theorem Q6{m:Mc}{r:Ty}{E:List En}(hE:E.length≤1000000){F:Int}:∀(k i:Nat),E.length-i=k→i≤E.length→∀acc:List Ty,acc.length=i →
   cl AP g370L0 ⟨[(0,.aM 0 0),(3,.pv (vI F)),(10,.au 10 0),(12,.au 12 0),(14,.own (acc.map Ty.pv) 0),(15,.pv (.aw (E.map En.pv))),(16,.pv (vI i))],[(10,JW 1),(12,tC r)],[some (m.cx 2)],[acc.length,0,m.rc.length,m.hd.length]⟩ =
     some (.exit 0,⟨[(0,.aM 0 0),(3,.pv (vI F)),(10,.au 10 0),(12,.au 12 0),(14,.own ((acc++(E.drop i).map fun x=>x.sc.ty).map Ty.pv) 0),(15,.pv (.aw (E.map En.pv))),(16,.pv (vI E.length)),(55,.pv (.bool false))],[(10,JW 1),(12,tC r)],[some (m.cx 2)],[E.length,0,m.rc.length,m.hd.length]⟩)
 |0,i,hk,hi,acc,ha=>by
   have:i=E.length:=by omega
   subst this;rw[g370L0e];simp[g370B0,JW,tC,Mc.cx,ha]
 |k+1,i,hk,hi,acc,ha=>by
   have hi:i<E.length:=(by omega);obtain⟨x,hx⟩:=aP hi;have ih:=Q6 (m:=m) (r:=r) hE (F:=F) k (i+1) (by omega) (by omega) (acc++[x.sc.ty]) (by simp;omega);have hb:(acc.length+1)*64≤140737488355328:=(by omega);rw[bl hx];rw[g370L0e]at ih⊢;simp[JW,tC,Mc.cx]at ih;simp (disch:=omega) [-getElem?_pos,g370B0,JW,tC,Mc.cx,hi,hx,hb,aq];rw[g370L0e];simp[ih]
theorem Nj{m:Mc}{r:Ty}{kept v:List Int}(hk:Sm kept)(hv:v.length≤1000000):∀(n i:Nat),v.length-i=n→i≤v.length→∀gen:List Int,gen.length≤i →
   cl AP g370L1 ⟨[(10,.au 10 0),(12,.au 12 0),(17,.pv (.aw (kept.map vI))),(18,.pv (.aw (v.map vI))),(19,.own (gen.map vI) 0),(20,.pv (vI i))],[(10,JW 1),(12,tC r)],[some (m.cx 2)],[gen.length,0,m.rc.length,m.hd.length]⟩ =
     some (.exit 2,⟨[(10,.au 10 0),(12,.au 12 0),(17,.pv (.aw (kept.map vI))),(18,.pv (.aw (v.map vI))),(19,.own ((gen++(v.drop i).filter fun w=>decide (w∉kept)).map vI) 0),(20,.pv (vI v.length)),(87,.pv (.bool false))],[(10,JW 1),(12,tC r)],[some (m.cx 2)],[(gen++(v.drop i).filter fun w=>decide (w∉kept)).length,0,m.rc.length,m.hd.length]⟩)
 |0,i,hn,hi,gen,hg=>by
   have:i=v.length:=by omega
   subst this;rw[g370L1e];simp[g370B1,JW,tC,Mc.cx]
 |n+1,i,hn,hi,gen,hg=>by
   have hi:i<v.length:=(by omega);obtain⟨x,hx⟩:=aP hi;have k1:=c95 hk (y:=x);have hh:a_ 1 (gen.map vI)=true:=kq.head gen;have hb:(gen.length+1)*8≤140737488355328:=(by omega);rw[bl hx];by_cases q:x∈kept
   ·have ih:=Nj (m:=m) (r:=r) hk hv n (i+1) (by omega) (by omega) gen (by omega);rw[decide_eq_true q]at k1;rw[g370L1e]at ih⊢;simp[JW,tC,Mc.cx]at ih;simp (disch:=omega) [-getElem?_pos,g370B1,JW,tC,Mc.cx,hi,hx,k1,aq,q];rw[g370L1e];simp[ih,List.filter_cons,q]
   ·have ih:=Nj (m:=m) (r:=r) hk hv n (i+1) (by omega) (by omega) (gen++[x]) (by simp;omega);rw[decide_eq_false q]at k1;rw[g370L1e]at ih⊢;simp[JW,tC,Mc.cx]at ih;simp (disch:=omega) [-getElem?_pos,g370B1,JW,tC,Mc.cx,hi,hx,k1,aq,q,hb,hh];rw[g370L1e];simp[ih,q,List.filter_cons]
structure l7(n:Nat)(h:Ho):Prop where
 ctx:∀x∈h.ctx,iN n x.sc
 len:h.ctx.length≤1000000
 goal:fq n h.goal
theorem l7.bQ{n m:Nat}{h:Ho}(r:l7 n h)(hm:n≤m):l7 m h:=⟨fun x hx=>(r.ctx x hx).bQ hm,r.len,r.goal.bQ hm⟩
theorem l7.wT{n:Nat}{l:List Ho}(hl:∀h∈l,l7 n h):∀t∈aW l,t.Ok∧∀w,ef t w→w∈dq n:=by
 intro t ht;simp only[aW,List.mem_flatMap,List.mem_append,List.mem_map,List.mem_singleton]at ht;obtain⟨h,hh,⟨x,hx,rfl⟩|rfl⟩:=ht
 ·exact⟨((hl h hh).ctx x hx).ok,((hl h hh).ctx x hx).gQ⟩
 ·exact⟨(hl h hh).goal.ok,(hl h hh).goal.gQ⟩
def JY(f:Bool)(c:Sc):AV:=.agg [.pv (vI c.id),.pv (vI c.ty.kind),.pv (.str c.ty.name),.pv (vI c.ty.id),.pv (vI c.ty.home),dY f (c.ty.args.map Ty.pv)]
def B0(m:Mc)(c:Sc)(gen:List Int)(b:Bool):List AV×Sh×aG:=([JY b c,.own (gen.map vI) 0],[some (m.cx 1)],[gen.length,m.rc.length,m.hd.length])
theorem c370{m:Mc}{n:Nat}(I:r_ n m.s)(hn:n≤1000000){t:Ty}(ft:fq n t){env:List En}(hE:env.length≤1000000)(he:∀x∈env,iN n x.sc)(hr:∀h∈m.rc,l7 n h)(hl:m.rc.length≤100000){F:Nat}(hF:F≤m.rc.length)(p:Int) :
   ∃(c:Sc) (gen:List Int) (b:Bool) (e' p':Int),(aF AP).i 370 [.aM 0 0,.pv t.pv,.pv (.aw (env.map En.pv)),.pv (vI F),.pv (vI p)] m.sh m.tk=some (B0 { m with err:=e',pos:=p' } c gen b)∧iN n c ∧
     ∀w,ef c.ty w→¬ky m.s.sl w∧((∃x∈bW env,RT m.s.sl x.sc.ty w)∨∃u∈aW (m.rc.drop F),RT m.s.sl u w):=by
 have zS:iN n ⟨0,bC⟩:=⟨bL rfl,.bare rfl (by simp[bC]) (by simp[bC]),⟨0,rfl,by omega,by intro y hy hk;rw[Ty.aL]at hy;simp[bC]at hy;subst hy;simp at hk⟩,by
   intro w h;cases h with
   |var q=>simp[bC]at q
   |arg _ hm _=>simp[bC]at hm⟩
 have zO:∀w,ef (As.mk 0 bC).ty w→¬ky m.s.sl w∧((∃x∈bW env,RT m.s.sl x.sc.ty w)∨∃u∈aW (m.rc.drop F),RT m.s.sl u w):=by
   intro w h;cases h with
   |var q=>simp[bC]at q
   |arg _ hm _=>simp[bC]at hm
 have hsm:Sm m.s.sl:=by unfold Sm;rw[I.len];omega
 by_cases h0:m.err=0
 · obtain⟨r,k1,_,_,kT⟩:=c355 hsm I.ok (m:=200) (by omega) ft.ok;by_cases h2:200<r
   · refine⟨⟨0,bC⟩,[],true,15,p,?_,zS,zO⟩;have h2':(200:Int)<r:=by omega
     simp at k1;rw[aB (af:=g370) rfl (by simp[g370])];simp[g370,Mc.sh,Mc.tk,Mc.cells,h0,k1,h2',B0,dY,JY,bC,Mc.cx]
   · obtain⟨u,k2,uO,uN,uR⟩:=c358y hsm I.ok ft.ok (kT (by omega)) (by omega);have uK:=uR.kw I.wf ft.wf;have uo:=uR.gQ I.B6;have k3:=c201 (l:=env) (by unfold Sm;omega);have hse:=kI env;have hs:∀x∈bW env,iN n x.sc:=fun x hx=>he x (gN env x hx)
     have A:=Q6 (m:=m) (r:=u) (E:=bW env) (by omega) (F:=F) _ 0 rfl (by omega) [] rfl;have hrl:∀h∈m.rc.drop F,l7 n h:=fun h hh=>hr h (List.mem_of_mem_drop hh)
     have k4:=c356 (l:=m.rc.drop F) (by simp;omega) (fun h hh=>(hrl h hh).len);have hrt:=lO (l:=m.rc.drop F) (fun h hh=>(hrl h hh).len);have hrd:(m.rc.drop F).length≤100000:=(by simp;omega);have hrt2:(aW (m.rc.drop F)).length≤100000*1000001:=Nat.le_trans hrt (Nat.mul_le_mul_right _ hrd);have wT:=l7.wT hrl
     obtain⟨kept,k5,kC,kV⟩:=c372 (s:=m.s) (S:=dq n) (by rw[I.len];exact hn) I.B6 I.ok I.gQ (SW hn).rV (l:=(bW env).map (fun x=>x.sc.ty)++aW (m.rc.drop F)) (by unfold Sm;simp;omega) (by
       intro t ht;simp only[List.mem_append,List.mem_map]at ht;rcases ht with⟨x,hx,rfl⟩|ht
       ·exact (hs x hx).ok
       ·exact (wT t ht).1) (by
       intro t ht;simp only[List.mem_append,List.mem_map]at ht;rcases ht with⟨x,hx,rfl⟩|ht
       ·exact (hs x hx).gQ
       ·exact (wT t ht).2)
     have hlv:=nr (k:=1) (t:=u);have fv:SG u:=⟨uO,uK.wf,u.eJ 1,by omega,fun y hy=>bL (kL y hy),fun y hy=>hy⟩;obtain⟨S1,f1,f2,f3⟩:=fv.rV;have k6:=c56 f1 f2 (l:=[u]) (by simp[Sm]) (by simpa using uO) (by simpa using f3);rw[lI (by simpa using fv.wf)]at k6;have hvl:=yP (u:=u);have B:=Nj (m:=m) (r:=u) (kept:=kept) kC.len (v:=vars [u]) (by omega) _ 0 rfl (by omega) [] (by simp);have hgl:((vars [u]).filter fun w=>decide (w∉kept)).length≤(vars [u]).length:=List.length_filter_le _ _;have k7:=c208 fv (ids:=(vars [u]).filter fun w=>decide (w∉kept)) (by unfold Sm;omega)
     obtain⟨c1,c2⟩:=JV (n:=n) uO uK (by omega) (fun w hw=>by
       obtain⟨⟨o,ho,hr⟩,_⟩:=(uo w).1 hw
       have key:∀{a b:Int},rY m.s.sl a b→a∈dq n→b∈dq n:=by
         intro a b h;induction h with
         |refl=>exact fun h=>h
         |step e _ ih=>
           intro _;obtain⟨k,x,_,hx,_,ho⟩:=e;exact ih (I.gQ x (aQ hx) _ ho)
       exact key hr (ft.gQ o ho)) ((vars [u]).filter fun w=>decide (w∉kept))
     refine⟨il ((vars [u]).filter fun w=>decide (w∉kept)) u (vars [u]),(vars [u]).filter fun w=>decide (w∉kept),false,0,m.pos,?_,c1,?_⟩
     ·have hh:=pk.head ((bW env).map fun x=>x.sc.ty);rw[List.map_map]at hh;have hs1:=QP (sz:=8) (τ:=2) (l:=m.rc.map Ho.pv) (k:=.i64) (h:=(F:Int)) (by omega) (by simp;omega) (Qy.head _);have hT:Sm (aW (m.rc.drop F)):=(by unfold Sm;omega);have hFi:(F:Int)≤m.rc.length:=(by omega);have bb:((bW env).length+(aW (m.rc.drop F)).length)*64≤140737488355328:=(by omega);have hh2:a_ 1 (((vars [u]).filter fun w=>decide (w∉kept)).map vI)=true:=kq.head _;clear c1 c2 uo kV wT hs hrl;generalize il ((vars [u]).filter fun w=>decide (w∉kept)) u (vars [u])=c at *;generalize hG:((vars [u]).filter fun w=>decide (w∉kept))=gen at *;generalize vars [u]=v at *;generalize bW env=E at *;rw[g370L0e]at A;rw[g370L1e]at B;rw[List.drop_zero]at A B;rw[hG]at B;have h2':¬(200:Int)<r:=(by omega);simp[JW,tC,Mc.cx,h0]at A B;simp at k1 k2 k3 k4 k5 k6 k7 hs1;rw[aB (af:=g370) rfl (by simp[g370])];simp (disch:=omega) [-getElem?_pos,g370,Mc.sh,Mc.tk,Mc.cells,h0,k1,h2',k2,k3,g370L0e,A,k4,k5,k6,g370L1e,B,k7,B0,dY,JY,Mc.cx,hs1,hh,hh2,bb]
     · intro w hw;obtain⟨hu,hng⟩:=c2 w hw;obtain⟨_,hf⟩:=(uo w).1 hu;refine⟨hf,?_⟩;obtain⟨y,hy,yk,ye⟩:=uw hu;have hwv:w∈vars [u]:=by rw[←ye];exact kR (by simpa using hy) yk
       have hwk:w∈kept:=by
         by_cases q:w∈kept
         ·exact q
         ·exact absurd (List.mem_filter.2 ⟨hwv,by simpa using q⟩) hng
       obtain⟨t',ht,hr,_⟩:=(kV w).1 hwk;simp only[List.mem_append,List.mem_map]at ht;rcases ht with⟨x,hx,rfl⟩|ht
       ·exact .inl ⟨x,hx,hr⟩
       ·exact .inr ⟨t',ht,hr⟩
 ·refine⟨⟨0,bC⟩,[],true,m.err,m.pos,?_,zS,zO⟩;rw[aB (af:=g370) rfl (by simp[g370])];simp[g370,Mc.sh,Mc.tk,Mc.cells,h0,B0,dY,JY,bC,Mc.cx]
def Nk(F G:vp):vp:=if F.1≠0 then F else G
theorem VB{ds:List Dt}{names:List bX}{e:Ex}(he:SS e)(hn:names.length≤900000000)
   (ih:∀i,∀x∈e.ch,(aF AP).p 366 [.aw (ds.map Dt.pv),.aw ((names++ig e i).map .str),x.pv]=some [fP (x.cr ds (names++ig e i))]):∀(n i:Nat),e.ch.length-i=n→i≤e.ch.length→∀F:vp,(F.1=0→F=(0,0))→∃j:Int,
   cl AP g366L0 ⟨[(0,.pv (.aw (ds.map Dt.pv))),(1,.pv (.aw (names.map .str))),(5,.au 5 0),(6,.au 6 0),(7,.au 7 0),(12,.pv (.aw (e.ch.map Ex.pv))),(13,.pv (vI i))],[(5,e.cl),(6,m2 (0,0)),(7,m2 F)],[],[]⟩ =
     some (.exit 1,⟨[(0,.pv (.aw (ds.map Dt.pv))),(1,.pv (.aw (names.map .str))),(5,.au 5 0),(6,.au 6 0),(7,.au 7 0),(12,.pv (.aw (e.ch.map Ex.pv))),(13,.pv (vI j)),(69,.pv (.bool false))],[(5,e.cl),(6,m2 (0,0)),(7,m2 (Nk F (wF (fun i x=>x.cr ds (names++ig e i)) i (e.ch.drop i))))],[],[]⟩)
 |0,i,hk,hi,F,hF=>by
   have:i=e.ch.length:=by omega
   subst this;refine⟨e.ch.length,?_⟩;rw[List.drop_length]
   have:Nk F (wF (fun i x=>x.cr ds (names++ig e i)) e.ch.length [])=F:=by
     unfold Nk;split
     ·rfl
     ·rename_i q;exact (hF (by simpa using q)).symm
   rw[this];generalize e.ch=C;rw[g366L0e];simp[g366B0]
 |n+1,i,hk,hi,F,hF=>by
   have hi:i<e.ch.length:=(by omega);by_cases hF0:F.1=0
   · obtain⟨x,hx⟩:=aP hi;have hlen:=Ex.yB (e:=e);have hk1:=he.ok.k;have hk2:=he.ok.a;obtain⟨j,hr⟩:=VB he hn ih n (i+1) (by omega) (by omega) (x.cr ds (names++ig e i)) BG;refine⟨j,?_⟩;have k1:=c380 hi he.one.h he.ok;have hbl:=BF he.ok (i:=i);have hb:(names.length+(ig e i).length)*16≤140737488355328:=by omega
     have hb1:names.length*16≤140737488355328:=(by omega);have hb2:(ig e i).length*16≤140737488355328:=(by omega);have k3:=ih i x (aQ hx);rw[bl hx]
     have hor:Nk F (wF (fun i x=>x.cr ds (names++ig e i)) i (x::e.ch.drop (i+1)))=Nk (x.cr ds (names++ig e i)) (wF (fun i x=>x.cr ds (names++ig e i)) (i+1) (e.ch.drop (i+1))):=by
       simp only[Nk,wF,hF0];simp
     rw[hor];clear hor;generalize hG:Nk (x.cr ds (names++ig e i)) (wF (fun i x=>x.cr ds (names++ig e i)) (i+1) (e.ch.drop (i+1)))=G at *;generalize hFF:x.cr ds (names++ig e i)=FF at *;clear ih hG;have hF':=hF hF0;subst hF';generalize ig e i=B at *;generalize e.ch=C at *;rw[g366L0e]at hr⊢;simp at k1 k3 hr;by_cases h1:names=[]
     · subst h1;simp only[List.map_nil]at hr;by_cases h2:B=[]
       ·subst h2;simp at k3;simp (disch:=omega) [-getElem?_pos,g366B0,hi,hx,k1,k3,aq];rw[g366L0e];simp[hr]
       ·simp at k3;simp (disch:=omega) [-getElem?_pos,g366B0,hi,hx,k1,k3,h2,hb2,aq];rw[g366L0e];simp[hr]
     · by_cases h2:B=[]
       ·subst h2;simp at k3;simp (disch:=omega) [-getElem?_pos,g366B0,hi,hx,k1,k3,h1,hb1,aq];rw[g366L0e];simp[hr]
       ·simp (disch:=omega) [-getElem?_pos,g366B0,hi,hx,k1,k3,h1,h2,hb,hb1,aq];rw[g366L0e];simp[hr]
   · refine⟨i,?_⟩;have:Nk F (wF (fun i x=>x.cr ds (names++ig e i)) i (e.ch.drop i))=F:=by simp[Nk,hF0]
     rw[this];generalize e.ch=C at *;rw[g366L0e];simp[g366B0,hi,hF0]
theorem c366{ds:List Dt}(hS:Sm ds)(hc:∀d∈ds,Sm d.cons):∀(n:Nat) {e:Ex},SS e→e.MT n→∀names:List bX,names.length+1000*n≤900000000→(aF AP).p 366 [.aw (ds.map Dt.pv),.aw (names.map .str),e.pv]=some [fP (e.cr ds names)]
 |0,e,_,hh,_,_=>by cases hh
 |n+1,e,he,hh,names,hl=>by
   have ih:∀i,∀x∈e.ch,(aF AP).p 366 [.aw (ds.map Dt.pv),.aw ((names++ig e i).map .str),x.pv]=some [fP (x.cr ds (names++ig e i))]:=fun i x hx=>
     c366 hS hc n (he.c hx) (hh.c x hx) _ (by have:=BF he.ok (i:=i);simp;omega)
   obtain⟨j,h⟩:=VB he (by omega) ih _ 0 rfl (by omega) (fu ds names e) Fa;have k1:=c145 he.ok;rw[List.drop_zero]at h;rw[Ex.EZ]
   change _=some [fP (Nk (fu ds names e) (wF (fun i x=>x.cr ds (names++ig e i)) 0 e.ch))]
   clear ih;have k2:=c364 (s:=names) (by unfold Sm;omega) (y:=e.name);have k3:=c191 hS hc (s:=e.name);have k4:=c379 hS hc he.ok;have k5:=c186 hS (l:=[]) (by simp[Sm]) he.ok.t he.cw.h;have f9:=c365 (a:=9) (b:=e.pos);have fT:=c365 (a:=e.ty.formed ds []) (b:=e.pos);generalize Nk (fu ds names e) (wF (fun i x=>x.cr ds (names++ig e i)) 0 e.ch)=G at *;generalize e.ch=C at *;rw[ah (af:=g366) rfl rfl (by decide)];rw[g366L0e]at h;simp at k1 k2 k3 k4 k5 f9 fT;generalize hQ:qX ds e=Q at *;generalize hT:e.ty.formed ds []=T at *;by_cases q1:e.kind=1
   · simp only[q1]at k1;by_cases q2:e.name∈names
     ·simp[fu,q1,q2]at h;simp[q2]at k2;simp[g366,q1,k1,k2,g366L0e,h]
     ·simp[fu,q1,q2]at h;simp[q2]at k2;simp[g366,q1,k1,k2,f9,g366L0e,h]
   · by_cases q3:e.kind=2
     · simp only[q3]at k1;cases q4:l6 ds e.name 0 with
       |none=>
         rw[q4]at k3;simp[rF]at k3;simp[fu,q3,q4]at h;simp[g366,q3,k1,k3,f9,g366L0e,h]
       |some r=>
         rw[q4]at k3;simp[rF]at k3;simp[fu,q3,q4]at h;simp[g366,q3,k1,k3,g366L0e,h]
     · by_cases q5:e.kind=8
       ·simp only[q5]at k1;simp[q5]at k4;simp[fu,q5,hQ]at h;simp[g366,q5,k1,k4,g366L0e,h]
       · by_cases q7:e.kind=9
         · simp only[q7]at k1;by_cases q8:T=0
           ·subst q8;simp[fu,q7,hT]at h;simp[g366,q7,k1,k5,g366L0e,h]
           ·simp[fu,q7,hT,q8]at h;simp[g366,q7,q8,k1,k5,fT,g366L0e,h]
         ·simp[fu,q1,q3,q5,q7]at h;simp[g366,q1,q3,q5,q7,k1,g366L0e,h]
structure Step(H:Prop)(m:Mc)(n a r:Nat)(m':Mc)(n':Nat):Prop where
 st:r_ n' m'.s
 le:n≤n'
 up:n'≤n+a
 ext:Ext m.s.sl m'.s.sl
 ds:m'.ds=m.ds
 home:m'.home=m.home
 lP:∃rs hs,m'.rc=m.rc++rs∧m'.hd=m.hd++hs∧rs.length≤r∧hs.length=rs.length∧(∀h∈rs,l7 n' h)∧(H→∀b∈hs,b=false)
theorem Step.same{H:Prop}{m m':Mc}{n:Nat}(st:r_ n m'.s)(ext:Ext m.s.sl m'.s.sl)(ds:m'.ds=m.ds)(home:m'.home=m.home)(rc:m'.rc=m.rc)(hd:m'.hd=m.hd):Step H m n 0 0 m' n:=⟨st,Nat.le_refl _,by omega,ext,ds,home,[],[],by simp[rc],by simp[hd],by simp,rfl,by simp,by simp⟩
theorem Step.trans{H:Prop}{m m1 m2:Mc}{n n1 n2 a a' r r':Nat}(h:Step H m n a r m1 n1)(h':Step H m1 n1 a' r' m2 n2):Step H m n (a+a') (r+r') m2 n2:=by
 obtain⟨rs,hs,e1,e2,e3,e4,e5,e6⟩:=h.lP;obtain⟨rs',hs',f1,f2,f3,f4,f5,f6⟩:=h'.lP;refine⟨h'.st,Nat.le_trans h.le h'.le,by have:=h.up;have:=h'.up;omega,h.ext.trans h'.ext,h'.ds.trans h.ds,h'.home.trans h.home,rs++rs',hs++hs',by rw[f1,e1,List.append_assoc],by rw[f2,e2,List.append_assoc],by simp;omega,by simp;omega,?_,?_⟩
 · intro x hx;simp only[List.mem_append]at hx;rcases hx with hx|hx
   ·exact (e5 x hx).bQ h'.le
   ·exact f5 x hx
 · intro q b hb;simp only[List.mem_append]at hb;rcases hb with hb|hb
   ·exact e6 q b hb
   ·exact f6 q b hb
theorem Step.bQ{H:Prop}{m m':Mc}{n n' a a' r r':Nat}(h:Step H m n a r m' n')(ha:a≤a')(hr:r≤r'):Step H m n a' r' m' n':=by
 obtain⟨rs,hs,e1,e2,e3,e4,e5,e6⟩:=h.lP;exact⟨h.st,h.le,by have:=h.up;omega,h.ext,h.ds,h.home,rs,hs,e1,e2,by omega,e4,e5,e6⟩
theorem Step.fresh{H:Prop}{m:Mc}{n:Nat}(I:r_ n m.s):Step H m n 1 0 { m with s:=bN m.s m.home false } (n+1):=⟨I.fresh _,by omega,by omega,Ext.fresh _ _ _,rfl,rfl,[],[],by simp,by simp,by simp,rfl,by simp,by simp⟩
theorem Step.open{H:Prop}{m:Mc}{n:Nat}(I:r_ n m.s)(K:Nat):Step H m n K 0 (nC m K) (n+K):=⟨yQ I _ K,by omega,by omega,Gm _ _ K,rfl,rfl,[],[],by simp[nC],by simp[nC],by simp,rfl,by simp,by simp⟩
theorem Step.record{H:Prop}{m:Mc}{n:Nat}(I:r_ n m.s){h:Ho}{b:Bool}(hr:l7 n h)(hb:H→b=false):Step H m n 0 1 { m with rc:=m.rc++[h],hd:=m.hd++[b] } n:=⟨I,Nat.le_refl _,by omega,.refl _,rfl,rfl,[h],[b],rfl,rfl,by simp,by simp,by simpa using hr,fun q x hx=>by simp at hx;rw[hx];exact hb q⟩
structure Room(ds:List Dt)(m:Mc)(n A R E:Nat)(env:List En):Prop where
 st:r_ n m.s
 nb:n+A≤1000000
 rc:m.rc.length+R≤100000
 hd:m.hd.length+R≤100000
 lP:∀h∈m.rc,l7 n h
 pE:∀x∈env,iN n x.sc
 el:env.length+E≤1000000
 ds:m.ds=ds
theorem Room.step{H:Prop}{ds:List Dt}{m m':Mc}{n n' A R E a r A' R' E':Nat}{env:List En}(h:Room ds m n A R E env)(s:Step H m n a r m' n')(hA:A'+a≤A)(hR:R'+r≤R)(hE:E'≤E):Room ds m' n' A' R' E' env:=by
 obtain⟨rs,hs,e1,e2,e3,e4,e5,e6⟩:=s.lP;refine⟨s.st,by have:=s.up;have:=h.nb;omega,by rw[e1];have:=h.rc;simp;omega,by rw[e2];have:=h.hd;simp;omega,?_,fun x hx=>(h.pE x hx).bQ s.le,by have:=h.el;omega,by rw[s.ds,h.ds]⟩;intro x hx;rw[e1,List.mem_append]at hx;rcases hx with hx|hx
 ·exact (h.lP x hx).bQ s.le
 ·exact e5 x hx
theorem Room.push{ds:List Dt}{m:Mc}{n A R E E':Nat}{env:List En}(h:Room ds m n A R E env){s:bX}{c:Sc}(hc:iN n c)(hE:E'+1≤E):Room ds m n A R E' (env++[⟨s,c⟩]):=⟨h.st,h.nb,h.rc,h.hd,h.lP,by
 intro x hx;simp only[List.mem_append,List.mem_singleton]at hx;rcases hx with hx|rfl
 ·exact h.pE x hx
 ·exact hc,by have:=h.el;simp;omega,h.ds⟩
theorem Room.bQ{ds:List Dt}{m:Mc}{n A R E A' R' E':Nat}{env:List En}(h:Room ds m n A R E env)(hA:A'≤A)(hR:R'≤R)(hE:E'≤E):Room ds m n A' R' E' env:=⟨h.st,by have:=h.nb;omega,by have:=h.rc;omega,by have:=h.hd;omega,h.lP,h.pE,by have:=h.el;omega,h.ds⟩
theorem Room.n'{ds:List Dt}{m:Mc}{n A R E:Nat}{env:List En}(h:Room ds m n A R E env):n≤1000000:=by have:=h.nb;omega
theorem gU.TU{n:Nat}{c:Sc}(h:gU c):iN n c:=by
 obtain⟨K,h1,h2,h3⟩:=h.J';exact⟨h.ok,h.kn.imp Qv,⟨K,h1,by omega,h3⟩,fun _ ho=>(uj ho h.kn (by simp)).elim⟩
theorem bH.TU{n:Nat}{t:Ty}(h:bH t):fq n t:=h.fit
theorem eh{n k:Nat}(h:k<n):fq n (aK k):=lL (dG.2 (by omega))
theorem wU{n:Nat}{a b:Ty}(ha:fq n a)(hb:fq n b):fq n ⟨4,[45,62],0,0,[a,b]⟩ where
 ok:=⟨by simp[Sm],by intro x hx;simp at hx;rcases hx with rfl|rfl;exact ha.ok;exact hb.ok⟩
 wf:=.mk (by simp) (by simp) (by intro x hx;simp at hx;rcases hx with rfl|rfl;exact ha.wf;exact hb.wf)
 gQ:=by
   intro w ho;cases ho with
   |var q=>simp at q
   |arg _ hm ho=>
     simp at hm;rcases hm with rfl|rfl
     ·exact ha.gQ w ho
     ·exact hb.gQ w ho
theorem PI{n:Nat}{s:bX}(hs:s.length≤100){l:List Ty}(hS:Sm l)(hl:∀x∈l,fq n x):fq n ⟨4,s,0,0,l⟩ where
 ok:=⟨hS,fun x hx=>(hl x hx).ok⟩
 wf:=.mk (by simp) hs fun x hx=>(hl x hx).wf
 gQ:=by
   intro w ho;cases ho with
   |var q=>simp at q
   |arg _ hm ho=>exact (hl _ hm).gQ w ho
theorem Gp{n:Nat}{c:Sc}(h:iN n c){K:Nat}(hK:c.id=K){n':Nat}(hn:n≤n'){as:List Ty}(ha:as.length=K)(hf:∀x∈as,fq n' x):fq n' (c.ty.kf as):=by
 obtain⟨K',h1,_,h3⟩:=h.J';have:K'=K:=by omega
 subst this;refine⟨Fb (fun a h=>(hf a h).ok) h.ok,Ff h.kn (by simp only[KV,KS];omega) (fun a h=>(hf a h).wf) (fun y hy hk=>by have:=h3 y hy hk;omega),?_⟩;intro w ho;rcases Gc w ho with h'|⟨x,hx,h'⟩
 ·exact kO hn w (h.gQ w h')
 ·exact (hf x hx).gQ w h'
theorem Fm{n:Nat}{ds:List Dt}(hD:pB ds){s:bX}{as:List Ty}(hg:∀a∈as,fq n a):((fieldsOf ds s as).getD []).length≤8∧∀f∈(fieldsOf ds s as).getD [],fq n f:=by
 cases e:fieldsOf ds s as with
 |none=>simp
 |some fs=>
   simp only[fieldsOf,Option.bind_eq_some_iff]at e;obtain⟨q,_,d,hd,c,hc,e⟩:=e;split at e
   ·rename_i hl;cases e;have dA:=hD.all d (aQ hd);obtain⟨_,_,h8⟩:=dz d dA;obtain⟨hb,hb2⟩:=Gk d dA;refine⟨by simpa using (h8 c (aQ hc)).1,?_⟩;intro f hf;simp only[Option.getD_some,List.mem_map]at hf;obtain⟨x,hx,rfl⟩:=hf;exact Gp (n:=0) (gU.TU (yM rfl hb (hb2 c (aQ hc) x hx))) rfl (by omega) hl hg
   ·cases e
theorem Gq{n:Nat}:∀{l:List En} {s:bX},(∀x∈l,iN n x.sc)→iN n ((vn l s).getD e_)
 |[],s,_=>(gU.TU ⟨bL rfl,.bare rfl (by simp[vn,e_]) (by simp[vn,e_]),0,rfl,by omega,by intro y hy hk;simp[vn,e_,Ty.aL]at hy;rw[hy]at hk;simp at hk⟩)
 |a::r,s,h=>by
   have ih:=Gq (l:=r) (s:=s) fun x hx=>h x (by simp[hx]);unfold vn;split
   ·rename_i c hc;rw[hc]at ih;exact ih
   · split
     ·exact h a (by simp)
     ·rename_i hn _;rw[hn]at ih;exact ih
inductive Nl (ds:List Dt):Ex→Prop
 |mk {e:Ex}:(e.kind=8→∃i d,mM ds e.aY=some i∧ds[i]?=some d)→(e.kind=9→e.ty.formed ds []=0)→(∀x∈e.ch,Nl ds x)→Nl ds e
theorem Nl.c{ds:List Dt}{e:Ex}(h:Nl ds e):∀x∈e.ch,Nl ds x:=by cases h;assumption
theorem Nl.a{ds:List Dt}{e:Ex}(h:Nl ds e):e.kind=8→∃i d,mM ds e.aY=some i∧ds[i]?=some d:=by cases h;assumption
theorem Nl.t{ds:List Dt}{e:Ex}(h:Nl ds e):e.kind=9→e.ty.formed ds []=0:=by cases h;assumption
theorem Gr{f:Nat→Ex→vp}:∀{l:List Ex} {i:Nat},(wF f i l).1=0→∀x∈l,∃j,(f j x).1=0
 |[],_,_=>by simp
 |x::r,i,h=>by
   simp only[wF]at h;by_cases q:(f i x).1=0
   · rw[if_neg (by simpa using q)]at h;intro y hy;simp only[List.mem_cons]at hy;rcases hy with rfl|hy
     ·exact⟨i,q⟩
     ·exact Gr h y hy
   ·rw[if_pos q]at h;exact absurd h q
theorem Nm{ds:List Dt}{as:List Ar}{F:vp}(h:findF ds as=some F):F.1≠0:=by
 induction as with
 |nil=>simp[findF]at h
 |cons a r ih=>
   simp only[findF]at h;split at h
   ·first|exact ih h|(cases h;simp)
   ·first|exact ih h|(cases h;simp)
theorem S_{ds:List Dt}{n:Nat}:∀{e:Ex} {names:List bX},e.MT n→(e.cr ds names).1=0→Nl ds e:=by
 induction n with
 |zero=>intro e names hh;cases hh
 |succ n ih=>
   intro e names hh h;rw[Ex.EZ]at h
   have h1:(fu ds names e).1=0:=by
     by_cases q:(fu ds names e).1=0
     ·exact q
     ·rw[if_pos q]at h;exact absurd h q
   rw[if_neg (by simpa using h1)]at h;refine .mk (fun k=>?_) (fun k=>?_) fun x hx=>?_
   · simp[fu,k]at h1;unfold qX at h1;cases e1:findF ds e.aY with
     |some F=>rw[e1]at h1;exact absurd h1 (Nm e1)
     |none=>
       rw[e1]at h1;cases e2:mM ds e.aY with
       |none=>rw[e2]at h1;simp at h1
       |some i=>
         obtain⟨d,hd⟩:=aP (Ga e2);exact⟨i,d,rfl,hd⟩
   · simp[fu,k]at h1;by_cases q:e.ty.formed ds []=0
     ·exact q
     ·rw[if_neg q]at h1;exact absurd h1 q
   ·obtain⟨j,hj⟩:=Gr h x hx;exact ih (hh.c x hx) hj
theorem qZ{ds:List Dt}{l:List bX}:∀{as:List Ty},Ty.dp ds l as=0→∀x∈as,x.formed ds l=0
 |[],_=>by simp
 |a::r,h=>by
   simp only[Ty.dp]at h;by_cases q:a.formed ds l=0
   · rw[if_neg (by simpa using q)]at h;intro x hx;simp only[List.mem_cons]at hx;rcases hx with rfl|hx
     ·exact q
     ·exact qZ h x hx
   ·rw[if_pos q]at h;exact absurd h q
theorem Fo{ds:List Dt}{n:Nat}{t:Ty}(hO:t.Ok)(hk:t.Kn KT)(h:t.formed ds []=0):fq n t:=by
 have key:t.Kn (·=0):=by
   clear hO;induction hk with
   | @mk t hh hn _ ih=>
     rw[Ty.wD]at h
     have h1:kb ds [] t=0:=by
       by_cases q:kb ds [] t=0
       ·exact q
       ·rw[if_pos q]at h;exact absurd h q
     rw[if_neg (by simpa using h1)]at h;refine .mk (fun q=>?_) hn fun x hx=>ih x hx (qZ h x hx);obtain⟨a,b⟩:=hh q;refine⟨?_,b⟩;rcases a with a|a
     ·exact a
     ·simp[kb,a]at h1
 exact⟨hO,key.imp (by intro k hk;simp[hk]),fun w ho=>(uj ho key (by simp)).elim⟩
def iO(ds:List Dt)(H:Prop)(e:Ex):Prop:=∀(m:Mc) (n:Nat) (env:List En),Room ds m n (201*e.sz) e.sz (20*e.sz) env→∃(d:Dv) (a b c k:Bool) (m':Mc) (n':Nat),kg 368 [.pv (.aw (env.map En.pv)),.pv e.pv] m [.agg (kM a b c k d)] m'∧Step H m n (201*e.sz) e.sz m' n'∧fq n' d.ty
theorem PJ{n:Nat}:fq n bC:=⟨bL rfl,.bare rfl (by simp[bC]) (by simp[bC]),by
 intro w h;cases h with
 |var q=>simp[bC]at q
 |arg _ hm _=>simp[bC]at hm⟩
theorem im{ds:List Dt}{H:Prop}{e:Ex}{m:Mc}{n:Nat}{env:List En}(R:Room ds m n (201*e.sz) e.sz (20*e.sz) env)(h0:¬m.err=0):∃(d:Dv) (a b c k:Bool) (m':Mc) (n':Nat),kg 368 [.pv (.aw (env.map En.pv)),.pv e.pv] m [.agg (kM a b c k d)] m'∧Step H m n (201*e.sz) e.sz m' n'∧fq n' d.ty:=by
 refine⟨⟨bC,[],[],[]⟩,true,true,true,true,m,n,?_,(Step.same R.st (.refl _) rfl rfl rfl rfl).bQ (by omega) (by omega),PJ⟩;unfold kg;rw[aB (af:=g368) rfl (by simp[g368])];simp[g368,Mc.sh,Mc.tk,Mc.cells,h0,kM,dY,bC]
theorem WL{e a:Ex}(h:e.kids=[a])(h':e.aY=[]):e.sz=1+a.sz:=by rw[Ex.uk,Ex.ch,h,h'];simp
theorem WM{e a b:Ex}(h:e.kids=[a,b])(h':e.aY=[]):e.sz=1+a.sz+b.sz:=by rw[Ex.uk,Ex.ch,h,h'];simp;omega
theorem Nn{n:Nat}{c:Sc}(h:iN n c):∃K:Nat,c.id=K∧K≤200∧fq (n+K) (c.ty.kf (eC n K)):=by
 obtain⟨K,h1,h2,_⟩:=h.J';exact⟨K,h1,h2,Gp h h1 (by omega) (mU n K) BZ⟩
theorem Np{ds:List Dt}(hD:pB ds){H:Prop}{e:Ex}(hk:e.kind=1∨e.kind=2):iO ds H e:=by
 intro m n env R;by_cases h0:m.err=0
 · have hs:=e.Na;have hel:=R.el;have hds:=R.ds;have k1:=c181 (l:=env) (by unfold Sm;omega) (s:=e.name);have k2:=hD.c193 (s:=e.name);have s1:=Gq (s:=e.name) R.pE;have s2:iN n ((mQ ds e.name).getD e_):=gU.TU (wP hD.all);have hN:=R.nb
   have key:∀c:Sc,iN n c→∃K:Nat,K≤200∧fq (n+K) (c.ty.kf (eC n K))∧(aF AP).i 382 [.aM 0 0,.pv c.pv] m.sh m.tk=some ([N0 (c.ty.kf (eC n K)),.own ((eC n K).map Ty.pv) 0],[some ((nC m K).cx 1)],[K,m.rc.length,m.hd.length]):=by
     intro c hc;obtain⟨K,h1,h2,h3⟩:=Nn hc;exact⟨K,h2,h3,c382 R.st h1 (by omega) hc.ok⟩
   rcases hk with hk|hk
   ·obtain⟨K,h2,h3,k3⟩:=key _ s1;refine⟨⟨((vn env e.name).getD e_).ty.kf (eC n K),eC n K,[],[]⟩,false,false,true,true,nC m K,n+K,?_,(Step.open R.st K).bQ (by omega) (by omega),h3⟩;simp[MA]at k1;unfold kg;generalize (vn env e.name).getD e_=c at *;generalize c.ty.kf (eC n K)=u at *;generalize eC n K=I at *;simp[Mc.sh,Mc.tk,Mc.cells,Mc.cx,nC,N0,h0]at k3;rw[aB (af:=g368) rfl (by simp[g368])];simp[g368,Mc.sh,Mc.tk,Mc.cells,h0,hk,k1,k3,kM,dY,nC]
   ·obtain⟨K,h2,h3,k3⟩:=key _ s2;refine⟨⟨((mQ ds e.name).getD e_).ty.kf (eC n K),eC n K,[],[]⟩,false,false,true,true,nC m K,n+K,?_,(Step.open R.st K).bQ (by omega) (by omega),h3⟩;simp[MA]at k1 k2;unfold kg;generalize (mQ ds e.name).getD e_=c at *;generalize c.ty.kf (eC n K)=u at *;generalize eC n K=I at *;simp[Mc.sh,Mc.tk,Mc.cells,Mc.cx,nC,N0,h0,hds]at k3;rw[aB (af:=g368) rfl (by simp[g368])];simp[g368,Mc.sh,Mc.tk,Mc.cells,h0,hk,hds,k1,k2,k3,kM,dY,nC]
 ·exact im R h0
theorem PK{ds:List Dt}{H:Prop}{e:Ex}(hk:e.kind=3):iO ds H e:=by
 intro m n env R;by_cases h0:m.err=0
 ·refine⟨⟨bj,[],[],[]⟩,false,true,true,true,m,n,?_,(Step.same R.st (.refl _) rfl rfl rfl rfl).bQ (by omega) (by omega),pA.fit⟩;have k:=c34;unfold kg;simp[bj]at k;rw[aB (af:=g368) rfl (by simp[g368])];simp[g368,Mc.sh,Mc.tk,Mc.cells,h0,hk,k,kM,dY,bj]
 ·exact im R h0
theorem Nq{ds:List Dt}{H:Prop}{e:Ex}(hk:e.kind=10):iO ds H e:=by
 intro m n env R;by_cases h0:m.err=0
 ·have hs:=e.Na;have hel:=R.el;have hN:=R.nb;have k1:=c367 R.st R.n';have s1:=Step.fresh (H:=H) R.st;have R1:=R.step s1 (A':=0) (R':=1) (E':=1) (by omega) (by omega) (by omega);have k2:=c384 (m:={ m with s:=bN m.s m.home false }) (env:=env) (by unfold Sm;omega) e (aK n) (by have:=R1.rc;simp only at *;omega) (by have:=R1.hd;simp only at *;omega);have hse:=kI env;have hrec:l7 (n+1) ⟨m.home,e.pos,bW env,aK n⟩:=⟨fun y hy=>(R.pE y (gN env y hy)).bQ (by omega),by simp only;omega,eh (by omega)⟩;refine⟨⟨aK n,[],[],[]⟩,false,true,true,true,{ m with s:=bN m.s m.home false,rc:=m.rc++[⟨m.home,e.pos,bW env,aK n⟩],hd:=m.hd++[e.kind == 11] },n+1,?_,(s1.trans (Step.record s1.st hrec (fun _=>by simp[hk]))).bQ (by omega) (by omega),eh (by omega)⟩;unfold kg at *;simp[Mc.sh,Mc.tk,Mc.cells,aK,h0,hk]at k1 k2;rw[aB (af:=g368) rfl (by simp[g368])];simp[g368,Mc.sh,Mc.tk,Mc.cells,h0,hk,k1,k2,kM,dY,aK]
 ·exact im R h0
theorem PL{ds:List Dt}{H:Prop}{e a:Ex}(hk:e.kind=4)(h1:e.kids=[a])(h2:e.aY=[])(ha:iO ds H a):iO ds H e:=by
 intro m n env R;by_cases h0:m.err=0
 · have hs:=WL h1 h2;have hel:=R.el;have k1:=c367 R.st R.n';have s1:=Step.fresh (H:=H) R.st;have R1:=(R.step s1 (A':=201*a.sz) (R':=a.sz) (E':=20*a.sz+1) (by omega) (by omega) (by omega)).push (s:=e.name) (c:=⟨0,aK n⟩) (eh (by omega)).mono (Nat.le_refl _);have k2:=c176 (t:=aK n);have k3:=c179 (l:=env) (by unfold Sm;omega) (n:=e.name) (c:=⟨0,aK n⟩);obtain⟨d,f1,f2,f3,f4,m2,n2,k4,s2,fd⟩:=ha _ _ _ R1;have k5:=c69 (a:=aK n) (b:=d.ty);have D:=gm f1 f2 f3 f4 d;generalize kM f1 f2 f3 f4 d=C at *;refine⟨⟨⟨4,[45,62],0,0,[aK n,d.ty]⟩,[],[],[d]⟩,false,true,true,true,m2,n2,?_,(s1.trans s2).bQ (by omega) (by omega),wU (eh (by have:=s2.le;omega)) fd⟩;have dc:=Dv.aS d;have hlen:=D.len;have hleaf:=D.leaf;have hfrz:=D.bR;have hflat:=D.flat;have hflo:=D.gS;have hkill:=D.kill;have hf:∀S:Sh,bR S (.au 11 0)=none:=fun _=>rfl
   unfold kg at *;simp[Mc.sh,Mc.tk,Mc.cells,aK,h0]at k1 k2 k3 k4 k5;rw[aB (af:=g368) rfl (by simp[g368])];simp[g368,Mc.sh,Mc.tk,Mc.cells,h0,hk,h1,k1,k2,k3,k4,k5,hlen,hleaf,hfrz,hflat,hflo,hkill,hf,dc,kM,dY,aK,aE]
 ·exact im R h0
theorem PM{ds:List Dt}{H:Prop}{e a b:Ex}(hk:e.kind=5)(h1:e.kids=[a,b])(h2:e.aY=[])(ha:iO ds H a)(hb:iO ds H b):iO ds H e:=by
 intro m n env R;by_cases h0:m.err=0
 · have hs:=WM h1 h2;obtain⟨d1,f1,f2,f3,f4,m1,n1,k1,s1,Ka⟩:=ha _ _ _ (R.bQ (by omega) (by omega) (by omega));have R1:=R.step s1 (A':=201*b.sz+1) (R':=b.sz) (E':=20*b.sz) (by omega) (by omega) (by omega);obtain⟨d2,g1,g2,g3,g4,m2,n2,k2,s2,fd2⟩:=hb _ _ _ (R1.bQ (by omega) (by omega) (by omega));have R2:=R1.step s2 (A':=1) (R':=0) (E':=0) (by omega) (by omega) (by omega);have k3:=c367 R2.st R2.n';have s3:=Step.fresh (H:=H) R2.st;have R3:=R2.step s3 (A':=0) (R':=0) (E':=0) (by omega) (by omega) (by omega);have fv:fq (n2+1) (aK n2):=eh (by omega);have k4:=c69 (a:=d2.ty) (b:=aK n2);have q2:=s2.le;obtain⟨s',e',p',k5,I',x'⟩:=c369 (m:={ m2 with s:=bN m2.s m2.home false }) R3.st R3.n' (Ka.bQ (by omega)) (wU (fd2.bQ (by omega)) fv) e.pos;have D:=gm f1 f2 f3 f4 d1;generalize kM f1 f2 f3 f4 d1=C at *;have D':=gm g1 g2 g3 g4 d2;generalize kM g1 g2 g3 g4 d2=C' at *;refine⟨⟨aK n2,[],[],[d1,d2]⟩,false,true,true,true,{ m2 with s:=s',err:=e',pos:=p' },n2+1,?_,(((s1.trans s2).trans s3).trans (Step.same (m':={ m2 with s:=s',err:=e',pos:=p' }) I' x' rfl rfl rfl rfl)).bQ (by omega) (by omega),fv⟩;have dc:=Dv.aS d1;have dc':=Dv.aS d2;have hlen:=D.len;have hleaf:=D.leaf;have hfrz:=D.bR;have hflat:=D.flat;have hflo:=D.gS;have hkill:=D.kill;have hlen':=D'.len;have hleaf':=D'.leaf;have hfrz':=D'.bR;have hflat':=D'.flat;have hflo':=D'.gS;have hkill':=D'.kill;have hf:∀S:Sh,bR S (.au 12 0)=none:=fun _=>rfl
   have hf':∀S:Sh,bR S (.au 13 0)=none:=fun _=>rfl;clear D D' s1 s2 s3 R R1 R2 R3 Ka fd2 I' x' ha hb;unfold kg at *;simp[Mc.sh,Mc.tk,Mc.cells,aK,h0]at k1 k2 k3 k4 k5;rw[aB (af:=g368) rfl (by simp[g368])];simp[g368,Mc.sh,Mc.tk,Mc.cells,h0,hk,h1,k1,k2,k3,k4,k5,hlen,hleaf,hfrz,hflat,hflo,hkill,hf,dc,hlen',hleaf',hfrz',hflat',hflo',hkill',hf',dc',kM,dY,aK,aE]
 ·exact im R h0
theorem PN{ds:List Dt}{H:Prop}{e a:Ex}(hk:e.kind=9)(h1:e.kids=[a])(h2:e.aY=[])(ht:∀n,fq n e.ty)(ha:iO ds H a):iO ds H e:=by
 intro m n env R;by_cases h0:m.err=0
 · have hs:=WL h1 h2;obtain⟨d,f1,f2,f3,f4,m2,n2,k4,s2,fd⟩:=ha _ _ _ (R.bQ (by omega) (by omega) (by omega));have R1:=R.step s2 (A':=0) (R':=0) (E':=0) (by omega) (by omega) (by omega);obtain⟨s',e',p',k5,I',x'⟩:=c369 (m:=m2) R1.st R1.n' fd (ht n2) e.pos;have D:=gm f1 f2 f3 f4 d;generalize kM f1 f2 f3 f4 d=C at *;refine⟨⟨e.ty,[],[],[d]⟩,false,true,true,true,{ m2 with s:=s',err:=e',pos:=p' },n2,?_,(s2.trans (Step.same (m':={ m2 with s:=s',err:=e',pos:=p' }) I' x' rfl rfl rfl rfl)).bQ (by omega) (by omega),ht n2⟩;have dc:=Dv.aS d;have hlen:=D.len;have hleaf:=D.leaf;have hfrz:=D.bR;have hflat:=D.flat;have hflo:=D.gS;have hkill:=D.kill;have hf:∀S:Sh,bR S (.au 21 0)=none:=fun _=>rfl
   clear D s2 R R1 fd I' x' ha;unfold kg at *;simp[Mc.sh,Mc.tk,Mc.cells,h0]at k4 k5;rw[aB (af:=g368) rfl (by simp[g368])];simp[g368,Mc.sh,Mc.tk,Mc.cells,h0,hk,h1,k4,k5,hlen,hleaf,hfrz,hflat,hflo,hkill,hf,dc,kM,dY,aE]
 ·exact im R h0
theorem Nr{ds:List Dt}{H:Prop}{e a:Ex}(hk:e.kind=11)(hH:¬H)(h1:e.kids=[a])(h2:e.aY=[])(ha:iO ds H a):iO ds H e:=by
 intro m n env R;by_cases h0:m.err=0
 · have hs:=WL h1 h2;have hel:=R.el;obtain⟨d,f1,f2,f3,f4,m2,n2,k4,s2,fd⟩:=ha _ _ _ (R.bQ (by omega) (by omega) (by omega));have R1:=R.step s2 (A':=0) (R':=1) (E':=0) (by omega) (by omega) (by omega);have k5:=c384 (m:=m2) (env:=env) (by unfold Sm;omega) e d.ty (by have:=R1.rc;omega) (by have:=R1.hd;omega);have hse:=kI env;have hrec:l7 n2 ⟨m2.home,e.pos,bW env,d.ty⟩:=⟨fun y hy=>R1.pE y (gN env y hy),by simp only;omega,fd⟩;have D:=gm f1 f2 f3 f4 d;generalize kM f1 f2 f3 f4 d=C at *;refine⟨⟨d.ty,[],[],[d]⟩,false,true,true,true,{ m2 with rc:=m2.rc++[⟨m2.home,e.pos,bW env,d.ty⟩],hd:=m2.hd++[e.kind == 11] },n2,?_,(s2.trans (Step.record s2.st hrec (fun q=>absurd q hH))).bQ (by omega) (by omega),fd⟩;have dc:=Dv.aS d;have hlen:=D.len;have hleaf:=D.leaf;have hfrz:=D.bR;have hflat:=D.flat;have hflo:=D.gS;have hkill:=D.kill;have hf:∀S:Sh,bR S (.au 22 0)=none:=fun _=>rfl
   clear D s2 R R1 fd ha hrec;unfold kg at *;simp[Mc.sh,Mc.tk,Mc.cells,h0,hk,h1]at k4 k5;rw[aB (af:=g368) rfl (by simp[g368])];simp[g368,Mc.sh,Mc.tk,Mc.cells,h0,hk,h1,k4,k5,hlen,hleaf,hfrz,hflat,hflo,hkill,hf,dc,kM,dY,aE]
 ·exact im R h0
theorem Step.We{H:Prop}{m m':Mc}{n n' a r:Nat}(h:Step H m n a r m' n'):m.rc.length≤m'.rc.length:=by
 obtain⟨rs,hs,e1,_⟩:=h.lP;rw[e1];simp
theorem PO{ds:List Dt}{H:Prop}{e a b:Ex}(hk:e.kind=6)(h1:e.kids=[a,b])(h2:e.aY=[])(ha:iO ds H a)(hb:iO ds H b):iO ds H e:=by
 intro m n env R;by_cases h0:m.err=0
 · have hs:=WM h1 h2;have hel:=R.el;have hrc:=R.rc;obtain⟨d1,f1,f2,f3,f4,m1,n1,k1,s1,Ka⟩:=ha _ _ _ (R.bQ (by omega) (by omega) (by omega));have R1:=R.step s1 (A':=201*b.sz) (R':=b.sz) (E':=20*b.sz+1) (by omega) (by omega) (by omega);have hl1:=s1.We;obtain⟨c,gen,fl,e',p',k2,sc,_⟩:=c370 R1.st R1.n' Ka (env:=env) (by omega) R1.pE R1.lP (by have:=R1.rc;omega) (F:=m.rc.length) hl1 e.pos;have s2:Step H m1 n1 0 0 { m1 with err:=e',pos:=p' } n1:=Step.same R1.st (.refl _) rfl rfl rfl rfl;have R2:=(R1.step s2 (A':=201*b.sz) (R':=b.sz) (E':=20*b.sz+1) (by omega) (by omega) (by omega)).push (s:=e.name) sc (Nat.le_refl _);have k3:=c179 (l:=env) (by unfold Sm;omega) (n:=e.name) (c:=c);obtain⟨d2,g1,g2,g3,g4,m2,n2,k4,s3,fd2⟩:=hb _ _ _ R2;have D:=gm f1 f2 f3 f4 d1;generalize kM f1 f2 f3 f4 d1=C at *;have D':=gm g1 g2 g3 g4 d2;generalize kM g1 g2 g3 g4 d2=C' at *;refine⟨⟨d2.ty,[],gen,[d1,d2]⟩,false,true,false,true,m2,n2,?_,((s1.trans s2).trans s3).bQ (by omega) (by omega),fd2⟩;have dc:=Dv.aS d1;have dc':=Dv.aS d2;have hlen:=D.len;have hleaf:=D.leaf;have hfrz:=D.bR;have hflat:=D.flat;have hflo:=D.gS;have hkill:=D.kill;have hlen':=D'.len;have hleaf':=D'.leaf;have hfrz':=D'.bR;have hflat':=D'.flat;have hflo':=D'.gS;have hkill':=D'.kill;have hf:∀S:Sh,bR S (.au 17 0)=none:=fun _=>rfl
   have hf':∀S:Sh,bR S (.au 20 0)=none:=fun _=>rfl;clear D D' s1 s2 s3 R R1 R2 Ka fd2 sc ha hb;unfold kg at *;simp[Mc.sh,Mc.tk,Mc.cells,h0]at k1 k3 k4;simp[Mc.sh,Mc.tk,Mc.cells,B0,Mc.cx,JY]at k2;rw[aB (af:=g368) rfl (by simp[g368])];cases fl<;>simp[dY]at k2<;>simp[g368,Mc.sh,Mc.tk,Mc.cells,h0,hk,h1,k1,k2,k3,k4,hlen,hleaf,hfrz,hflat,hflo,hkill,hf,dc,hlen',hleaf',hfrz',hflat',hflo',hkill',hf',dc',kM,dY,aE]
 ·exact im R h0
theorem PQ{ds:List Dt}{H:Prop}{e a b:Ex}(hk:e.kind=7)(h1:e.kids=[a,b])(h2:e.aY=[])(ha:iO ds H a)(hb:iO ds H b):iO ds H e:=by
 intro m n env R;by_cases h0:m.err=0
 · have hs:=WM h1 h2;have hel:=R.el;have hrc:=R.rc;have k0:=c367 R.st R.n';have s0:=Step.fresh (H:=H) R.st;have R0:=R.step s0 (A':=201*a.sz+201*b.sz) (R':=a.sz+b.sz) (E':=20*a.sz+20*b.sz+1) (by omega) (by omega) (by omega);have k6:=c176 (t:=aK n);have k7:=c179 (l:=env) (by unfold Sm;omega) (n:=e.name) (c:=⟨0,aK n⟩);obtain⟨d1,f1,f2,f3,f4,m1,n1,k1,s1,Ka⟩:=ha _ _ _ ((R0.push (s:=e.name) (c:=⟨0,aK n⟩) (eh (by omega)).mono (Nat.le_refl _)).bQ (by omega) (by omega) (by omega));have R1:=R0.step s1 (A':=201*b.sz) (R':=b.sz) (E':=20*b.sz+1) (by omega) (by omega) (by omega);have q1:=s1.le;obtain⟨sx,ex,px,k5,Ix,xx⟩:=c369 (m:=m1) R1.st R1.n' (eh (k:=n) (by omega)) Ka e.pos;have sE:Step H m1 n1 0 0 { m1 with s:=sx,err:=ex,pos:=px } n1:=Step.same Ix xx rfl rfl rfl rfl;have RE:=R1.step sE (A':=201*b.sz) (R':=b.sz) (E':=20*b.sz+1) (by omega) (by omega) (by omega);have hl1:=s1.We;obtain⟨c,gen,fl,e',p',k2,sc,_⟩:=c370 RE.st RE.n' Ka (env:=env) (by omega) RE.pE RE.lP (by have:=RE.rc;omega) (F:=m.rc.length) hl1 e.pos;have s2:Step H { m1 with s:=sx,err:=ex,pos:=px } n1 0 0 { m1 with s:=sx,err:=e',pos:=p' } n1:=Step.same RE.st (.refl _) rfl rfl rfl rfl;have R2:=(RE.step s2 (A':=201*b.sz) (R':=b.sz) (E':=20*b.sz+1) (by omega) (by omega) (by omega)).push (s:=e.name) sc (Nat.le_refl _);have k3:=c179 (l:=env) (by unfold Sm;omega) (n:=e.name) (c:=c);obtain⟨d2,g1,g2,g3,g4,m2,n2,k4,s3,fd2⟩:=hb _ _ _ R2;have D:=gm f1 f2 f3 f4 d1;generalize kM f1 f2 f3 f4 d1=C at *;have D':=gm g1 g2 g3 g4 d2;generalize kM g1 g2 g3 g4 d2=C' at *;refine⟨⟨d2.ty,[],gen,[d1,d2]⟩,false,true,false,true,m2,n2,?_,((((s0.trans s1).trans sE).trans s2).trans s3).bQ (by omega) (by omega),fd2⟩;have dc:=Dv.aS d1;have dc':=Dv.aS d2;have hlen:=D.len;have hleaf:=D.leaf;have hfrz:=D.bR;have hflat:=D.flat;have hflo:=D.gS;have hkill:=D.kill;have hlen':=D'.len;have hleaf':=D'.leaf;have hfrz':=D'.bR;have hflat':=D'.flat;have hflo':=D'.gS;have hkill':=D'.kill;have hf:∀S:Sh,bR S (.au 17 0)=none:=fun _=>rfl
   have hf':∀S:Sh,bR S (.au 20 0)=none:=fun _=>rfl;clear D D' s0 s1 s2 s3 sE R R0 R1 R2 RE Ka fd2 sc ha hb Ix xx;unfold kg at *;simp[Mc.sh,Mc.tk,Mc.cells,h0,aK]at k0 k1 k3 k4 k5 k6 k7;simp[Mc.sh,Mc.tk,Mc.cells,B0,Mc.cx,JY]at k2;rw[aB (af:=g368) rfl (by simp[g368])];cases fl<;>simp[dY]at k2<;>simp[g368,Mc.sh,Mc.tk,Mc.cells,h0,hk,h1,k0,k1,k2,k3,k4,k5,k6,k7,hlen,hleaf,hfrz,hflat,hflo,hkill,hf,dc,hlen',hleaf',hfrz',hflat',hflo',hkill',hf',dc',kM,dY,aE]
 ·exact im R h0
def zD(k:Nat):List AV:=[.pv (vI 0),.pv (.str []),.pv (vI 0),.pv (vI 0),.own [] k,.own [] (k+1),.own [] (k+2),.own [] (k+3)]
theorem Q7{m:Mc}{n:Nat}(I:r_ n m.s){i0:Nat}{d:Dt}(hd:m.ds[i0]?=some d)(hn:n+d.params.length≤1000000)(hp:d.params.length≤8){e:Ex}{env:PV}{x:Dv}:∀(k i:Nat),d.params.length-i=k→i≤d.params.length →
   cl AP g383L0 ⟨[(0,.aM 0 0),(1,.pv env),(5,.au 5 0),(6,.au 6 0),(7,.au 7 0),(8,.pv (vI i0)),(10,.au 10 0),(11,.pv (vI i))],[(5,e.cl),(6,zD 0),(7,x.cells.map .pv),(10,[.pv (vI 0),.pv (.str []),.pv (vI 0),.pv (vI 0),.own [] 4,.own ((eC n i).map Ty.pv) 5,.own [] 6,.own [x.pv] 7])],[some ((nC m i).cx 8)],[0,0,0,0,0,i,0,1,m.rc.length,m.hd.length]⟩ =
     some (.exit 0,⟨[(0,.aM 0 0),(1,.pv env),(5,.au 5 0),(6,.au 6 0),(7,.au 7 0),(8,.pv (vI i0)),(10,.au 10 0),(11,.pv (vI d.params.length)),(49,.pv (.bool false))],[(5,e.cl),(6,zD 0),(7,x.cells.map .pv),(10,[.pv (vI 0),.pv (.str []),.pv (vI 0),.pv (vI 0),.own [] 4,.own ((eC n d.params.length).map Ty.pv) 5,.own [] 6,.own [x.pv] 7])],[some ((nC m d.params.length).cx 8)],[0,0,0,0,0,d.params.length,0,1,m.rc.length,m.hd.length]⟩)
 |0,i,hk,hi=>by
   have:i=d.params.length:=by omega
   subst this;have hlt:=(List.getElem?_eq_some_iff.1 hd).1;have xc:=Dv.aS x;have ec:=Ex.aS e;rw[g383L0e];simp[-getElem?_pos,g383B0,zD,Mc.cx,nC,hd,hlt,xc,Ex.cl,ec]
 |k+1,i,hk,hi=>by
   have hi:i<d.params.length:=(by omega);have hlt:=(List.getElem?_eq_some_iff.1 hd).1;have xc:=Dv.aS x;have ec:=Ex.aS e;have e1:=c367 (m:=nC m i) (n:=n+i) (yQ I m.home i) (by omega);have ih:=Q7 I hd hn hp (e:=e) (env:=env) (x:=x) k (i+1) (by omega) (by omega);have hb:(i+1)*64≤140737488355328:=(by omega);have hl:=mU n i;rw[wS]at ih;unfold kg at e1;simp[Mc.sh,Mc.tk,Mc.cells,nC,aK]at e1;rw[g383L0e]at ih⊢;simp[zD,Mc.cx,nC,NZ,aK,xc,Ex.cl,ec]at ih;generalize eC n i=acc at *;generalize bN (NZ m.home m.s i) m.home false=s1 at *;subst hl;simp (disch:=omega) [-getElem?_pos,g383B0,zD,hi,Mc.cx,nC,hd,hlt,xc,Ex.cl,ec,e1,aq,hb];rw[g383L0e];simp[ih]
def dD(T:Ty)(I:List Ty)(ks:List Dv):List AV:=[.pv (vI T.kind),.pv (.str T.name),.pv (vI T.id),.pv (vI T.home),.pv (.aw (T.args.map Ty.pv)),.own (I.map Ty.pv) 4,.own [] 5,.own (ks.map Dv.pv) 6]
def Ta(a:Ar):List AV:=[.pv (vI a.pos),.pv (.str a.kr),.pv (.aw (a.vars.map .str)),.pv (vI a.body.kind),.pv (vI a.body.pos),.pv (.str a.body.name),.pv (vI a.body.num),.pv (.aw (a.body.kids.map Ex.pv)),.pv (.aw (a.body.aY.map Ar.pv)),.pv (vI a.body.ty.kind),.pv (.str a.body.ty.name),.pv (vI a.body.ty.id),.pv (vI a.body.ty.home),.pv (.aw (a.body.ty.args.map Ty.pv))]
theorem Q8{m:Mc}{n:Nat}{e:Ex}{env:PV}{T:Ty}{I:List Ty}{ks:List Dv}{i:Nat}{a:Ar}(hv:a.vars.length≤1000){f:List Ty}(hf8:f.length≤8)(hf:∀t∈f,fq n t){B:Nat}(hB:B≤2000000):∀(k j:Nat),f.length-j=k→j≤f.length→∀l:List En,(∀x∈l,iN n x.sc)→l.length+k≤B→∃(l':List En) (j':Nat),(∀x∈l',iN n x.sc)∧l'.length≤B ∧
   cl AP g383L2 ⟨[(0,.aM 0 0),(1,.pv env),(5,.au 5 0),(6,.au 6 0),(10,.au 10 0),(12,.pv (vI i)),(13,.au 13 0),(14,.pv (.aw (f.map Ty.pv))),(16,.pv (.aw (l.map En.pv))),(17,.pv (vI j))],[(5,e.cl),(6,zD 0),(10,dD T I ks),(13,Ta a)],[some (m.cx 7)],[0,0,0,0,I.length,0,ks.length,m.rc.length,m.hd.length]⟩ =
     some (.exit 4,⟨[(0,.aM 0 0),(1,.pv env),(5,.au 5 0),(6,.au 6 0),(10,.au 10 0),(12,.pv (vI i)),(13,.au 13 0),(14,.pv (.aw (f.map Ty.pv))),(16,.pv (.aw (l'.map En.pv))),(17,.pv (vI j')),(114,.pv (.bool false))],[(5,e.cl),(6,zD 0),(10,dD T I ks),(13,Ta a)],[some (m.cx 7)],[0,0,0,0,I.length,0,ks.length,m.rc.length,m.hd.length]⟩)
 |0,j,hk,hj,l,hl,hB2=>by
   have:j=f.length:=by omega
   subst this;have ec:=Ex.aS e;refine⟨l,f.length,hl,by omega,?_⟩;rw[g383L2e];simp[g383B2,zD,dD,Ta,Mc.cx,Ex.cl,ec]
 |k+1,j,hk,hj,l,hl,hB2=>by
   have hj:j<f.length:=(by omega);obtain⟨t,ht⟩:=aP hj;have ec:=Ex.aS e;by_cases q:j<a.vars.length
   · obtain⟨v,hvv⟩:=aP q;have k1:=c176 (t:=t);have k2:=c179 (l:=l) (by unfold Sm;omega) (n:=v) (c:=⟨0,t⟩)
     obtain⟨l',j',h1,h2,ih⟩:=Q8 (m:=m) (e:=e) (env:=env) (T:=T) (I:=I) (ks:=ks) (i:=i) hv hf8 hf hB k (j+1) (by omega) (by omega) (l++[⟨v,⟨0,t⟩⟩]) (by
       intro x hx;simp only[List.mem_append,List.mem_singleton]at hx;rcases hx with hx|rfl
       ·exact hl x hx
       ·exact (hf t (aQ ht)).mono) (by simp;omega)
     refine⟨l',j',h1,h2,?_⟩;rw[g383L2e]at ih⊢;simp[zD,dD,Ta,Mc.cx,Ex.cl,ec]at ih;simp at k1 k2;simp (disch:=omega) [-getElem?_pos,g383B2,zD,dD,Ta,Mc.cx,Ex.cl,ec,hj,ht,q,hvv,k1,k2,aq];rw[g383L2e];simp[ih]
   ·refine⟨l,j,hl,by omega,?_⟩;rw[g383L2e];simp (disch:=omega) [-getElem?_pos,g383B2,zD,dD,Ta,Mc.cx,Ex.cl,ec,hj,ht,q]
def d5(l:List Ar):Nat:=(l.map fun a=>a.body.sz).sum
theorem Q9{ds:List Dt}(hD:pB ds){H:Prop}{e:Ex}{env:List En}{T:Ty}{I:List Ty}{n0:Nat}(hv:∀a∈e.aY,a.vars.length≤1000)(ha:e.aY.length≤1000)(hb:∀a∈e.aY,iO ds H a.body)(fT:fq n0 T)(hI8:I.length≤8)(fI:∀t∈I,fq n0 t):∀(k i:Nat),e.aY.length-i=k→i≤e.aY.length→∀(m:Mc) (n:Nat) (ks:List Dv),n0≤n→ks.length≤i+1→Room ds m n (201*d5 (e.aY.drop i)) (d5 (e.aY.drop i)) (20*d5 (e.aY.drop i)+8) env→∃(m':Mc) (n':Nat) (ks':List Dv),Step H m n (201*d5 (e.aY.drop i)) (d5 (e.aY.drop i)) m' n' ∧
   cl AP g383L1 ⟨[(0,.aM 0 0),(1,.pv (.aw (env.map En.pv))),(5,.au 5 0),(6,.au 6 0),(10,.au 10 0),(12,.pv (vI i))],[(5,e.cl),(6,zD 0),(10,dD T I ks)],[some (m.cx 7)],[0,0,0,0,I.length,0,ks.length,m.rc.length,m.hd.length]⟩ =
     some (.exit 2,⟨[(0,.aM 0 0),(1,.pv (.aw (env.map En.pv))),(5,.au 5 0),(6,.au 6 0),(10,.au 10 0),(12,.pv (vI e.aY.length)),(83,.pv (.bool false))],[(5,e.cl),(6,zD 0),(10,dD T I ks')],[some (m'.cx 7)],[0,0,0,0,I.length,0,ks'.length,m'.rc.length,m'.hd.length]⟩)
 |0,i,hk,hi,m,n,ks,hn,hks,R=>by
   have:i=e.aY.length:=by omega
   subst this;have ec:=Ex.aS e;refine⟨m,n,ks,(Step.same R.st (.refl _) rfl rfl rfl rfl).bQ (by omega) (by omega),?_⟩;rw[g383L1e];simp[g383B1,zD,dD,Mc.cx,Ex.cl,ec]
 |k+1,i,hk,hi,m,n,ks,hn,hks,R=>by
   have hi:i<e.aY.length:=(by omega);obtain⟨a,hx⟩:=aP hi;have hm:=aQ hx;have hsz:d5 (e.aY.drop i)=a.body.sz+d5 (e.aY.drop (i+1)):=(by rw[bl hx];simp[d5]);rw[hsz]at R⊢;have hel:=R.el;have hds:=R.ds;have hv1:=hv a hm;have k1:=c207 hD.small (as:=I) (by unfold Sm;omega) (s:=a.kr);obtain⟨hf8,hf⟩:=Fm (n:=n) hD (s:=a.kr) (as:=I) (fun t ht=>(fI t ht).bQ hn);generalize hff:fieldsOf ds a.kr I=F at *;generalize hfe:F.getD []=f at *;obtain⟨l',j',q1,q2,k2⟩:=Q8 (m:=m) (n:=n) (e:=e) (env:=.aw (env.map En.pv)) (T:=T) (I:=I) (ks:=ks) (i:=i) (a:=a) hv1 hf8 hf (B:=env.length+8) (by omega) _ 0 rfl (by omega) env R.pE (by omega);have R1:Room ds m n (201*a.body.sz) a.body.sz (20*a.body.sz) l':=⟨R.st,by have:=R.nb;omega,by have:=R.rc;omega,by have:=R.hd;omega,R.lP,q1,by omega,R.ds⟩;obtain⟨d,f1,f2,f3,f4,m1,n1,k3,s1,fd⟩:=hb a hm m n l' R1;have R2:=R.step s1 (A':=201*d5 (e.aY.drop (i+1))) (R':=d5 (e.aY.drop (i+1))) (E':=20*d5 (e.aY.drop (i+1))+8) (by omega) (by omega) (by omega);have hle:=s1.le;obtain⟨sx,ex,px,k4,Ix,xx⟩:=c369 (m:=m1) R2.st R2.n' (fT.bQ (by omega)) fd a.pos;have s2:Step H m1 n1 0 0 { m1 with s:=sx,err:=ex,pos:=px } n1:=Step.same Ix xx rfl rfl rfl rfl;have R3:=R2.step s2 (A':=201*d5 (e.aY.drop (i+1))) (R':=d5 (e.aY.drop (i+1))) (E':=20*d5 (e.aY.drop (i+1))+8) (by omega) (by omega) (by omega);obtain⟨m',n',ks',s3,ih⟩:=Q9 hD (e:=e) hv ha hb fT hI8 fI k (i+1) (by omega) (by omega) _ n1 (ks++[d]) (by omega) (by simp;omega) R3;have D:=gm f1 f2 f3 f4 d;generalize kM f1 f2 f3 f4 d=C at *;refine⟨m',n',ks',((s1.trans s2).trans s3).bQ (by omega) (by omega),?_⟩;have dc:=Dv.aS d;have hlen:=D.len;have hleaf:=D.leaf;have hfrz:=D.bR;have hflat:=D.flat;have hflo:=D.gS;have hkill:=D.kill;have hfz:∀S:Sh,bR S (.au 18 0)=none:=fun _=>rfl
   have ec:=Ex.aS e;have bb:(ks.length+1)*136≤140737488355328:=(by omega);clear D s1 s2 s3 R R1 R2 R3 fd hb fT fI hf q1 Ix xx hff;unfold kg at *;rw[g383L2e]at k2;rw[g383L1e]at ih⊢;rw[←hds]at k1;simp[TO,hfe]at k1;simp[Mc.sh,Mc.tk,Mc.cells]at k3 k4;simp[zD,dD,Ta,Mc.cx,Ex.cl,ec]at k2;simp[zD,dD,Mc.cx,Ex.cl,ec]at ih;simp (disch:=omega) [-getElem?_pos,g383B1,zD,dD,Mc.cx,Ex.cl,ec,hi,hx,k1,g383L2e,k2,k3,k4,hlen,hleaf,hfrz,hflat,hflo,hkill,hfz,dc,bb,aq,aE];rw[g383L1e];simp[ih]
theorem PR{e x:Ex}(h:e.kids=[x]):e.sz=1+x.sz+d5 e.aY:=by
 rw[Ex.uk,Ex.ch,h,List.map_append,List.sum_append,List.map_map]
 change 1+((List.map Ex.sz [x]).sum+d5 e.aY)=_
 simp;omega
theorem Ns{ds:List Dt}(hD:pB ds){H:Prop}{e x:Ex}(hk:e.kind=8)(hkids:e.kids=[x]){i0:Nat}{d:Dt}(hai:mM ds e.aY=some i0)(hd:ds[i0]?=some d)(hv:∀a∈e.aY,a.vars.length≤1000)(ha:e.aY.length≤1000)(hx:iO ds H x)(hb:∀a∈e.aY,iO ds H a.body):iO ds H e:=by
 intro m n env R;by_cases h0:m.err=0
 · have hs:=PR hkids;have hp:=(dz d (hD.all d (aQ hd))).1;have hnm:=(oD d (hD.all d (aQ hd))).1;have hlt:=(List.getElem?_eq_some_iff.1 hd).1;obtain⟨d1,f1,f2,f3,f4,m1,n1,k1,s1,Ka⟩:=hx _ _ _ (R.bQ (by omega) (by omega) (by omega));have R1:=R.step s1 (A':=201*d5 e.aY+200) (R':=d5 e.aY) (E':=20*d5 e.aY+8) (by omega) (by omega) (by omega);have hds1:=R1.ds;have k2:=c390 hD.small.num (as:=e.aY) (by unfold Sm;omega);rw[hai,←hds1]at k2;have A:=Q7 (m:=m1) (n:=n1) R1.st (i0:=i0) (d:=d) (by rw[hds1];exact hd) (by have:=R1.nb;omega) hp (e:=e) (env:=.aw (env.map En.pv)) (x:=d1) _ 0 rfl (by omega);have sA:Step H m1 n1 d.params.length 0 (nC m1 d.params.length) (n1+d.params.length):=Step.open R1.st _;have RA:=R1.step sA (A':=201*d5 e.aY+100) (R':=d5 e.aY) (E':=20*d5 e.aY+8) (by omega) (by omega) (by omega);have hil:=mU n1 d.params.length;have hif:∀t∈eC n1 d.params.length,fq (n1+d.params.length) t:=BZ;have k3:=c62 (s:=d.name) (l:=eC n1 d.params.length) (by unfold Sm;simp;omega);obtain⟨sx,ex,px,k4,Ix,xx⟩:=c369 (m:=nC m1 d.params.length) RA.st RA.n' (Ka.bQ (by omega)) (PI hnm (by unfold Sm;simp;omega) hif) e.pos;have s2:Step H (nC m1 d.params.length) (n1+d.params.length) 0 0 { nC m1 d.params.length with s:=sx,err:=ex,pos:=px } (n1+d.params.length):=Step.same Ix xx rfl rfl rfl rfl;have R2:=RA.step s2 (A':=201*d5 e.aY+100) (R':=d5 e.aY) (E':=20*d5 e.aY+8) (by omega) (by omega) (by omega);have k5:=c367 R2.st R2.n';have s3:=Step.fresh (H:=H) R2.st;have R3:=R2.step s3 (A':=201*d5 e.aY) (R':=d5 e.aY) (E':=20*d5 e.aY+8) (by omega) (by omega) (by omega);have fT:fq (n1+d.params.length+1) (aK (n1+d.params.length:Nat)):=eh (by omega);obtain⟨m',n',ks',s4,B⟩:=Q9 hD (H:=H) (e:=e) (env:=env) (T:=aK (n1+d.params.length:Nat)) (I:=eC n1 d.params.length) (n0:=n1+d.params.length+1) hv ha hb fT (by simp;omega) (fun t ht=>(hif t ht).bQ (by omega)) _ 0 rfl (by omega) _ _ [d1] (Nat.le_refl _) (by simp) (by rw[List.drop_zero];exact R3);rw[List.drop_zero]at s4;have hle:=s4.le;have D:=gm f1 f2 f3 f4 d1;generalize kM f1 f2 f3 f4 d1=C at *;refine⟨⟨aK (n1+d.params.length:Nat),eC n1 d.params.length,[],ks'⟩,false,false,false,false,m',n',?_,((((s1.trans sA).trans s2).trans s3).trans s4).bQ (by omega) (by omega),eh (by omega)⟩;have dc:=Dv.aS d1;have hlen:=D.len;have hleaf:=D.leaf;have hfrz:=D.bR;have hflat:=D.flat;have hflo:=D.gS;have hkill:=D.kill;have hfz:∀S:Sh,bR S (.au 7 0)=none:=fun _=>rfl
   have ec:=Ex.aS e;have xc:=Ex.aS x;have hi0:eC n1 0=[]:=(by simp[eC]);have hd':m1.ds[i0]?=some d:=(by rw[hds1];exact hd);have hlt':i0<m1.ds.length:=(by rw[hds1];exact hlt);rw[hi0]at A;clear D s1 sA s2 s3 s4 R R1 RA R2 R3 Ka hx hb fT hif Ix xx hds1 hai hd hlt hv;unfold kg at *;rw[g383L0e]at A;rw[g383L1e]at B;simp[zD,Mc.cx,nC,NZ,Ex.cl,ec,dc,hk,hkids]at A;simp[zD,dD,Mc.cx,nC,Ex.cl,ec,aK,hk,hkids]at B;simp[wE]at k2;generalize eC n1 d.params.length=I at *;simp[Mc.sh,Mc.tk,Mc.cells,nC,aK,h0]at k1 k3 k4 k5
   have key:(aF AP).i 383 [.aM 0 0,.pv (.aw (env.map En.pv)),.pv e.pv] m.sh m.tk=some ([.agg (kM false false false false ⟨aK (n1+d.params.length:Nat),I,[],ks'⟩)],m'.sh,m'.tk):=by
     rw[aB (af:=g383) rfl (by simp[g383])];simp (disch:=omega) [-getElem?_pos,g383,Mc.sh,Mc.tk,Mc.cells,h0,hk,hkids,k1,k2,k3,k4,k5,hd',hlt',g383L0e,A,g383L1e,B,hlen,hleaf,hfrz,hflat,hflo,hkill,hfz,dc,kM,dY,aK,aE,hil]
   clear A B;simp[Mc.sh,Mc.tk,Mc.cells,h0,hk,hkids,kM,dY,aK]at key;rw[aB (af:=g368) rfl (by simp[g368])];simp[g368,Mc.sh,Mc.tk,Mc.cells,h0,hk,hkids,key,kM,dY,aK]
 ·exact im R h0
theorem PS{ds:List Dt}(hD:pB ds){H:Prop}{e:Ex}(tx:wQ e):e.Ok→Nl ds e→(H→BR 11 e)→iO ds H e:=by
 induction tx with
 | @leaf e hk h1 h2=>
   intro _ _ _;rcases hk with⟨hk,_⟩|⟨hk,_⟩|⟨hk,_⟩
   ·exact Np hD hk
   ·exact PK hk
   ·exact Nq hk
 | @lam e a hk _ h1 h2 _ ih=>
   intro ok sc nh;have hm:a∈e.ch:=by rw[Ex.ch,h1];simp
   exact PL hk h1 h2 (ih (ok.c a hm) (sc.c a hm) fun q=>(nh q).c a hm)
 | @app e a b hk h1 h2 _ _ iha ihb=>
   intro ok sc nh;have hm:a∈e.ch:=by rw[Ex.ch,h1];simp
   have hm':b∈e.ch:=(by rw[Ex.ch,h1];simp);exact PM hk h1 h2 (iha (ok.c a hm) (sc.c a hm) fun q=>(nh q).c a hm) (ihb (ok.c b hm') (sc.c b hm') fun q=>(nh q).c b hm')
 | @Vt e a b hk _ h1 h2 _ _ iha ihb=>
   intro ok sc nh;have hm:a∈e.ch:=by rw[Ex.ch,h1];simp
   have hm':b∈e.ch:=(by rw[Ex.ch,h1];simp);have A:=iha (ok.c a hm) (sc.c a hm) fun q=>(nh q).c a hm
   have B:=ihb (ok.c b hm') (sc.c b hm') fun q=>(nh q).c b hm';rcases hk with hk|hk
   ·exact PO hk h1 h2 A B
   ·exact PQ hk h1 h2 A B
 | @QW e a hk h1 _ _ _ _ iha ihb=>
   intro ok sc nh;have hm:a∈e.ch:=by rw[Ex.ch,h1];simp
   have hma:∀x∈e.aY,x.body∈e.ch:=fun x hx=>by rw[Ex.ch,List.mem_append,List.mem_map];exact .inr ⟨x,hx,rfl⟩
   obtain⟨i,d,q1,q2⟩:=sc.a hk;exact Ns hD hk h1 q1 q2 ok.v ok.a (iha (ok.c a hm) (sc.c a hm) fun q=>(nh q).c a hm) fun x hx=>ihb x hx (ok.c _ (hma x hx)) (sc.c _ (hma x hx)) fun q=>(nh q).c _ (hma x hx)
 | @Xd e a hk h1 h2 ht _ _ ih=>
   intro ok sc nh;have hm:a∈e.ch:=by rw[Ex.ch,h1];simp
   exact PN hk h1 h2 (fun n=>Fo ok.t ht (sc.t hk)) (ih (ok.c a hm) (sc.c a hm) fun q=>(nh q).c a hm)
 | @held e a hk h1 h2 _ ih=>
   intro ok sc nh;have hm:a∈e.ch:=by rw[Ex.ch,h1];simp
   exact Nr hk (fun q=>(nh q).h hk) h1 h2 (ih (ok.c a hm) (sc.c a hm) fun q=>(nh q).c a hm)
def Tb(n:Nat)(a:Ar):Prop:=(a.kr.length≤100∧a.vars.length≤10∧∀v∈a.vars,v.length≤100)∧yN n a.body
theorem Nt{n:Nat}{x:Ex}{as:List Ar}(hx:yN (4*n) x)(ha:as.length≤3)(h:∀a∈as,Tb (4*n) a):yN (4*(n+1)) ⟨8,0,[],0,[x],as,bC⟩:=by
 have hc:∀y∈(⟨8,0,[],0,[x],as,bC⟩:Ex).ch,yN (4*n) y:=by
   intro y hy;simp[Ex.ch]at hy;rcases hy with rfl|⟨a,ha,rfl⟩
   ·exact hx
   ·exact (h a ha).2
 refine⟨⟨.mk (by simp) (by simp only;omega) (fun a hm=>by have:=(h a hm).1.2.1;omega) mS fun y hy=>(hc y hy).sc.ok,.mk (fun _=>rfl) fun y hy=>(hc y hy).sc.one,.mk mT fun y hy=>(hc y hy).sc.cw⟩,um (n:=4*n+1) (.mk fun y hy=>(hc y hy).h) (by omega),?_,.QW rfl rfl hx.tx (by simp only;omega) (fun a hm=>(h a hm).1) (fun a hm=>(h a hm).2.tx)⟩;rw[JT,Ex.uk];exact BX (by rw[Ex.yB];simp only[List.length_singleton];omega) fun y hy=>by have:=(hc y hy).w;rwa [JT]at this
theorem Q_{L:List Int}{tm:Nat}{TP:Int→Sh}(hT:Tape L tm TP){ds:List Dt}{dep:Nat}{l:List En}{g:Ty}(hdep:dep<10)(hD:pB ds)(hG:kx L tm TP ds dep)(hl:Ctx (1000-20*(dep+1)) l)(hg:bH g)(hgn:g.nodes.length≤6000-20*(dep+1)){d:Dt}(hdm:d∈ds){as:List Ty}(has:as.length≤8)(hga:∀a∈as,bH a){x:Ex}:∀(n k:Nat),d.cons.length-k=n→k≤d.cons.length→∀(ar:List Ar) (i:Nat),ar.length=k→(∀a∈ar,Tb (4*(dep+1)) a)→i≤L.length →
   ∃(r:List Ar) (j:Nat),r.length=d.cons.length∧(∀a∈r,Tb (4*(dep+1)) a)∧j≤L.length ∧
   cl AP g350L1 ⟨[(0,.aM tm 0),(1,.pv (.aw (ds.map Dt.pv))),(2,.pv (.aw (l.map En.pv))),(4,.pv (vI (dep+1))),(8,.au 8 0),(10,.au 10 0),(11,.au 11 0),(12,.own (as.map Ty.pv) 0),(14,.au 14 0),(15,.pv (vI k))],
     [(8,tC g),(10,po 1),(11,Fk d),(14,NY x ar)],TP i,[as.length,0,0,0,1,ar.length,0]⟩ =
     some (.exit 2,⟨[(0,.aM tm 0),(1,.pv (.aw (ds.map Dt.pv))),(2,.pv (.aw (l.map En.pv))),(4,.pv (vI (dep+1))),(8,.au 8 0),(10,.au 10 0),(11,.au 11 0),(12,.own (as.map Ty.pv) 0),(14,.au 14 0),(15,.pv (vI d.cons.length)),(66,.pv (.bool false))],
     [(8,tC g),(10,po 1),(11,Fk d),(14,NY x r)],TP j,[as.length,0,0,0,1,r.length,0]⟩)
 |0,k,hn,hk,ar,i,ha,hm,hi=>by
   have tn:=hT.norm;have tsh:=hT.shift;have tl:=hT.take;have:k=d.cons.length:=(by omega);subst this;refine⟨ar,i,ha,hm,hi,?_⟩;rw[g350L1e];simp[tn,tsh,tl,g350B1,tC,po,Fk,NY]
 |n+1,k,hn,hk,ar,i,ha,hm,hi=>by
   have tn:=hT.norm;have tsh:=hT.shift;have tl:=hT.take;have hk:k<d.cons.length:=(by omega);obtain⟨c,hc⟩:=aP hk;have hc8:=(dz d (hD.all d hdm)).2.1;have k1:=c207 hD.small (as:=as) (by unfold Sm;omega) (s:=c.name);obtain⟨hf8,hf⟩:=BY hD (s:=c.name) hga;generalize hff:fieldsOf ds c.name as=F at *;generalize hfe:F.getD []=f at *;obtain⟨vs,l',hv,hvn,hl',e1⟩:=Q0 hT (L:=L) (I:=i) (p1:=.aw (ds.map Dt.pv)) (p2:=.aw (l.map En.pv)) (p4:=vI (dep+1)) (g:=g) (d:=d) (as:=as) (x:=x) (ar:=ar) (C:=k) (c:=c) hf8 hf (N:=1000-20*(dep+1)) (by omega) _ 0 rfl (by omega) [] l rfl (by simp) (hl.bQ (by omega));obtain⟨b,f1,f2,f3,j2,e2,hb,hj2⟩:=hG i l' g hi (hl'.bQ (by omega)) hg (by omega)
   obtain⟨r,j,q1,q2,q3,e'⟩:=Q_ hT hdep hD hG hl hg hgn hdm has hga (x:=x) n (k+1) (by omega) (by omega) (ar++[⟨0,c.name,vs,b⟩]) j2 (by simp;omega) (by
     intro a h;simp at h;rcases h with h|rfl
     ·exact hm a h
     ·exact⟨⟨(oD d (hD.all d hdm)).2 c (aQ hc),by simp only;omega,hvn⟩,hb⟩) hj2
   refine⟨r,j,q1,q2,q3,?_⟩;have hB:=jE f1 f2 f3 b;generalize i6 f1 f2 f3 b=B at e2 hB;have bc:=Ex.aS b;have tB:B.take 11=B:=List.take_of_length_le (by rw[hB.len];omega);have hbb:(ar.length+1)*200≤140737488355328:=by omega
   have hd1:(dep:Int)+1-1=dep:=(by omega);rw[g350L2e]at e1;rw[g350L1e]at e';simp[tn,tsh,tl,tC,po,Fk,NY,TT]at e1 e' e2⊢;simp[tn,tsh,tl,TO,hfe]at k1;rw[g350L1e];simp (disch:=omega) [tn,tsh,tl,-getElem?_pos,g350B1,hc,hk,k1,aq,hd1,g350L2e,e1,e2,hbb,aE,hB.bR,hB.flat,hB.gS,hB.len,hB.leaf,tB,bc];rw[g350L1e];simp[tn,tsh,tl,e']
theorem c350{L:List Int}{tm:Nat}{TP:Int→Sh}(hT:Tape L tm TP){ds:List Dt}{dep:Nat}{l:List En}{g:Ty}{i:Nat}(hL:Sm L)(hdep:dep<10)(hD:pB ds)(hG:kx L tm TP ds dep)(hl:Ctx (1000-20*(dep+1)) l)(hg:bH g)(hgn:g.nodes.length≤6000-20*(dep+1))(hi:i≤L.length) :
   nA L tm TP (4*(dep+2)) ((aF AP).i 350 [.aM tm 0,.pv (.aw (ds.map Dt.pv)),.pv (.aw (l.map En.pv)),.pv g.pv,.pv (vI (dep+1:Nat))] (TP i) []):=by
 have tn:=hT.norm;have tsh:=hT.shift;have tl:=hT.take;have hll:=hl.len;by_cases z:ds=[]
 ·subst z;obtain⟨e,f1,f2,f3,j,k,ht,hj⟩:=c348 hT hL (ds:=[]) (hl.bQ (by omega)) hg hi;refine⟨e,f1,f2,f3,j,?_,ht.up (by omega),hj⟩;rw[aB (af:=g350) rfl (by simp[tn,tsh,tl,g350])];cases f1<;>cases f2<;>cases f3<;>simp[tn,tsh,tl,i6,dY]at k<;>simp[tn,tsh,tl,g350,k,i6,dY,aE]
 · have hp:0<ds.length:=List.length_pos_iff.2 z;have hdl:=hD.len;have hda:∀d∈ds,d.params.length≤8:=fun d hd=>(dz d (hD.all d hd)).1
   obtain⟨m,j1,e1,m0,m1,hj1⟩:=rH hT hL hi (n:=ds.length) (by omega) (by omega);obtain⟨m,rfl,hm⟩:=yn m0 m1;obtain⟨d,hd⟩:=aP hm;have hdm:=aQ hd;obtain⟨as,j2,a1,a2,hj2,e2⟩:=QZ hT hL (by omega) hda (fun d hd=>(oD d (hD.all d hd)).1) (p2:=.aw (l.map En.pv)) (p4:=vI (dep+1)) (g:=g) (hda d hdm) _ 0 rfl (by omega) [] j1 rfl (by simp) hj1;have hd8:=hda d hdm;have hd10:=(dz d (hD.all d hdm)).2.1;have hd3:=S5 d (hD.all d hdm);have k1:=c62 (s:=d.name) (l:=as) (by unfold Sm;omega);have gt:bH ⟨4,d.name,0,0,as⟩:=⟨⟨by unfold Sm;simp only;omega,fun x hx=>(a2 x hx).1.ok⟩,.mk (by simp) (oD d (hD.all d hdm)).1 fun x hx=>(a2 x hx).1.kn⟩
   have gtn:(⟨4,d.name,0,0,as⟩:Ty).nodes.length≤100:=by
     rw[Ty.aL];simp only[List.length_cons,List.length_flatMap];have:=jF (f:=fun x:Ty=>x.nodes.length) fun x hx=>(a2 x hx).2
     omega
   obtain⟨x,f1,f2,f3,j3,e3,hx,hj3⟩:=hG j2 l _ hj2 (hl.bQ (by omega)) gt (by omega);obtain⟨r,j4,b1,b2,hj4,e4⟩:=Q_ hT hdep hD hG hl hg hgn hdm (by omega) (fun a ha=>(a2 a ha).1) (x:=x) _ 0 rfl (by omega) [] j3 rfl (by simp) hj3;refine⟨⟨8,0,[],0,[x],r,bC⟩,false,false,false,j4,?_,(Nt hx (by omega) b2).up (by omega),hj4⟩;have hA:=jE f1 f2 f3 x;generalize i6 f1 f2 f3 x=A at e3 hA;have ac:=Ex.aS x;have hd1:(dep:Int)+1-1=dep:=by omega
   rw[g350L0e]at e2;rw[g350L1e]at e4;simp[tn,tsh,tl,tC,po,Fk,NY]at e1 e2 e3 e4 k1;rw[aB (af:=g350) rfl (by simp[tn,tsh,tl,g350])];simp (disch:=omega) [tn,tsh,tl,-getElem?_pos,g350,z,hd1,aq,e1,hd,g350L0e,e2,k1,e3,hA.bR,hA.flat,hA.gS,hA.len,hA.leaf,ac,g350L1e,e4,aE,i6,dY,bC]
theorem c326{L:List Int}{tm:Nat}{TP:Int→Sh}(hT:Tape L tm TP){ds:List Dt}(hL:Sm L)(hD:pB ds):∀dep:Nat,dep≤10→kx L tm TP ds dep
 |0,_=>fun i l g hi hl hg _=>Nb hT hL (hl.bQ (by omega)) hg hi
 |dep+1,hdep=>fun i l g hi hl hg hgn=>by
   have tn:=hT.norm;have tsh:=hT.shift;have tl:=hT.take;have hG:=c326 hT hL hD dep (by omega);have hdl:=hD.len;have hda:∀d∈ds,d.params.length≤8:=fun d hd=>(dz d (hD.all d hd)).1
   have hdn:∀d∈ds,d.name.length≤100:=fun d hd=>(oD d (hD.all d hd)).1;obtain⟨r9,j9,e9,r0,r1,hj9⟩:=rH hT hL hi (n:=9) (by omega) (by omega);by_cases nz:r9=0
   ·subst nz;exact PG hT hL (by omega) (hl.bQ (by omega)) hg hj9 e9
   · obtain⟨a,b,ar,arr,_,_,hab⟩:=c194g hg.ok;obtain⟨k,j,ur,k0,k1,hj⟩:=rH hT hL hj9 (n:=10) (by omega) (by omega);have P:Nc L tm TP g i a b ar k r9 j9 j:=⟨nz,e9,arr,ur,hj⟩;have h1:¬((dep:Int)+1<1):=by omega
     have headed:(ar=true→7≤k)→(ar=false→¬k<2∧k≠2∧k≠3∧k≠5∧(k=4→¬(g.ku 3=false∧g.ku 1=false)))→uq L tm TP ds (dep+1) l g i:=by
       intro H1 H2;obtain⟨e,f1,f2,f3,j',kk,ht,hj'⟩:=c352 hT hL (by omega) hD hG hl hg hj;refine⟨e,f1,f2,f3,j',?_,ht,hj'⟩;have c3:=c351 (k:=3) hg.ok;have c1:=c351 (k:=1) hg.ok
       try simp[tn,tsh,tl]at e9 arr ur c3 c1
       rw[aB (af:=g326) rfl (by simp[tn,tsh,tl,g326])];cases ar with
       |true=>
         have q:=H1 rfl;have q7:¬k<7:=(by omega);have q2:¬k<2:=(by omega);have q3:¬k=2:=(by omega);have q4:¬k=3:=(by omega);have q5:¬k=4:=(by omega);have q6:¬k=5:=(by omega);cases f1<;>cases f2<;>cases f3<;>simp[tn,tsh,tl,i6,dY]at kk<;>simp[tn,tsh,tl,g326,h1,nz,e9,arr,ur,q7,q2,q3,q4,q5,q6,kk,i6,dY,aE]
       |false=>
         obtain⟨q2,q3,q4,q6,q5⟩:=H2 rfl;by_cases h4:k=4
         · have:=q5 h4;subst h4;cases g3:g.ku 3 with
           |true=>
             rw[g3]at c3;cases f1<;>cases f2<;>cases f3<;>simp[tn,tsh,tl,i6,dY]at kk<;>simp[tn,tsh,tl,g326,h1,nz,e9,arr,ur,c3,kk,i6,dY,aE]
           |false=>
             rw[g3]at c3
             have g1:g.ku 1=true:=by
               cases g1:g.ku 1 with
               |true=>rfl
               |false=>exact absurd ⟨g3,g1⟩ this
             rw[g1]at c1;cases f1<;>cases f2<;>cases f3<;>simp[tn,tsh,tl,i6,dY]at kk<;>simp[tn,tsh,tl,g326,h1,nz,e9,arr,ur,c3,c1,kk,i6,dY,aE]
         ·cases f1<;>cases f2<;>cases f3<;>simp[tn,tsh,tl,i6,dY]at kk<;>simp[tn,tsh,tl,g326,h1,nz,e9,arr,ur,q2,q3,q4,h4,q6,kk,i6,dY,aE]
     cases ar with
     |true=>
       have hq:=hab rfl;by_cases h7:k<7
       · exact S7 hT hL (by omega) hG hl P h7 (hg.gh a (by rw[hq];simp)) (hg.gh b (by rw[hq];simp)) (by
           have:=Fl (f:=fun x:Ty=>x.nodes.length) (l:=g.args) (x:=b) (by rw[hq];simp);rw[Ty.aL]at hgn;simp only[List.length_cons,List.length_flatMap]at hgn;omega)
       ·exact headed (fun _=>by omega) (by simp)
     |false=>
       by_cases h2:k<2
       ·exact S8 hT hL (by omega) (by omega) hda hdn hG hl hg hgn P h2
       · by_cases h3:k=2
         · subst h3;obtain⟨e,f1,f2,f3,j',kk,ht,hj'⟩:=c349 hT hL (by omega) (by omega) hda hdn hG hl hg hgn hj;refine⟨e,f1,f2,f3,j',?_,ht,hj'⟩
           try simp[tn,tsh,tl]at e9 arr ur
           rw[aB (af:=g326) rfl (by simp[tn,tsh,tl,g326])];cases f1<;>cases f2<;>cases f3<;>simp[tn,tsh,tl,i6,dY]at kk<;>simp[tn,tsh,tl,g326,h1,nz,e9,arr,ur,kk,i6,dY,aE]
         · by_cases h4:k=3
           · subst h4;obtain⟨e,f1,f2,f3,j',kk,ht,hj'⟩:=c350 hT hL (by omega) hD hG hl hg hgn hj;refine⟨e,f1,f2,f3,j',?_,ht,hj'⟩
             try simp[tn,tsh,tl]at e9 arr ur
             rw[aB (af:=g326) rfl (by simp[tn,tsh,tl,g326])];cases f1<;>cases f2<;>cases f3<;>simp[tn,tsh,tl,i6,dY]at kk<;>simp[tn,tsh,tl,g326,h1,nz,e9,arr,ur,kk,i6,dY,aE]
           · by_cases h5:k=5
             ·subst h5;exact PH hT hL (by omega) hG hl hg hgn P
             · by_cases h6:k=4∧g.ku 3=false∧g.ku 1=false
               ·obtain⟨rfl,q1,q2⟩:=h6;exact S9 hT hL (by omega) hG hl hg hgn P q1 q2
               ·exact headed (by simp) (fun _=>⟨h2,h3,h4,h5,fun q=>fun w=>h6 ⟨q,w⟩⟩)
theorem PT{s:List bX}{y:bX}(h:y∈s):0≤mJ s y∧mJ s y<s.length:=by
 unfold mJ;cases e:db (fun x=>decide (x=y)) s with
 |none=>have:=i_.1 e y h;simp at this
 |some k=>
   have:k<s.length:=by
     clear h;induction s generalizing k with
     |nil=>simp[db]at e
     |cons a r ih=>
       simp only[db]at e;split at e
       ·cases e;simp
       ·simp only[Option.map_eq_some_iff]at e;obtain⟨j,hj,rfl⟩:=e;have:=ih j hj;simp;omega
   simp[yt];omega
theorem ux:∀{l out:List bX} {y:bX},y∈l→y∈l.foldl eP out
 |a::r,out,y,h=>by
   rw[List.foldl_cons];simp only[List.mem_cons]at h;rcases h with rfl|h
   · refine wI ?_;unfold eP;split
     ·assumption
     ·simp
   ·exact ux h
theorem nD:∀{l out:List bX},(l.foldl eP out).length≤out.length+l.length
 |[],out=>by simp
 |a::r,out=>by
   have h:=nD (l:=r) (out:=eP out a);have:(eP out a).length≤out.length+1:=by unfold eP;split<;>simp
   simp only[List.foldl_cons,List.length_cons];omega
theorem oF{t:Ty}:t.eQ.length≤t.nodes.length∧∀z∈t.nodes,z.kind=5→z.name∈t.eQ:=by
 refine Ty.dJ (p:=fun t=>t.eQ.length≤t.nodes.length∧∀z∈t.nodes,z.kind=5→z.name∈t.eQ) ?_ t;intro t ih
 have key:∀l:List Ty,(∀a∈l,a.eQ.length≤a.nodes.length)→(l.flatMap Ty.eQ).length≤(l.flatMap Ty.nodes).length:=by
   intro l;induction l with
   |nil=>intro _;simp
   |cons a r ihr=>
     intro h;have h1:=h a (by simp);have h2:=ihr fun b hb=>h b (by simp[hb])
     simp only[List.flatMap_cons,List.length_append];omega
 rw[Ty.F',Ty.aL];refine⟨?_,?_⟩
 · have:=key t.args fun a ha=>(ih a ha).1;have h1:(if t.kind=5 then [t.name] else []).length≤1:=by split<;>simp
   simp only[List.length_append,List.length_cons];omega
 · intro z hz hk;simp only[List.mem_cons,List.mem_flatMap]at hz;rcases hz with rfl|⟨a,ha,hz⟩
   ·rw[if_pos hk];simp
   ·refine List.mem_append_right _ ?_;simp only[List.mem_flatMap];exact⟨a,ha,(ih a ha).2 z hz hk⟩
theorem Gt{l:List bX}{t:Ty}(h:t.Kn KT)(hl:∀z∈t.nodes,z.kind=5→z.name∈l):(t.l_ l).Kn KC∧NX l.length (t.l_ l):=by
 induction h with
 | @mk t hh hnn _ ih=>
   have hself:t∈t.nodes:=(by rw[Ty.aL];simp);rw[Ty.yF];by_cases k:t.kind=5
   ·have hp:=PT (hl t hself k);rw[if_pos ⟨k,hp.1⟩];refine⟨.bare rfl (by simp[br]) (by simp[br]),?_⟩;intro y hy _;rw[Ty.aL]at hy;simp[br]at hy;subst hy;exact hp
   · rw[if_neg (fun q=>k q.1)];have hk4:t.kind≠4→t.kind=0∧t.args=[]:=fun q=>⟨(hh q).1.resolve_right k,(hh q).2⟩
     refine⟨.mk (fun q=>⟨.inl (hk4 q).1,by simp[(hk4 q).2]⟩) hnn ?_,?_⟩
     ·intro x hx;simp only[List.mem_map]at hx;obtain⟨a,ha,rfl⟩:=hx;exact (ih a ha fun z hz=>hl z (JS a ha z hz)).1
     · intro y hy hy2;rw[Ty.aL]at hy;simp only[List.mem_cons,List.mem_flatMap,List.mem_map]at hy;rcases hy with rfl|⟨b,⟨a,ha,rfl⟩,hy⟩
       · simp only at hy2;by_cases q:t.kind=4
         ·omega
         ·have:=(hk4 q).1;omega
       ·exact (ih a ha fun z hz=>hl z (JS a ha z hz)).2 y hy hy2
theorem B2{D:Dt→Prop}(hN:∀d,D d→d.name.length≤100){lv:List Ty}(h:∀t∈lv,t.args=[]∧t.kind=5∧t.name.length≤100){n:Nat}{t:Ty}(m:dL D lv n t):t.Kn (·=5):=by
 induction m with
 |leaf hl=>exact .bare (h _ hl).1 (fun _=>(h _ hl).2.1) (h _ hl).2.2
 |int=>exact .bare rfl (by simp[bj]) (by simp[bj])
 |kr hd _ _ ih=>exact .mk (by simp) (hN _ hd) ih
 |arrow _ _ iha ihb=>exact .mk (by simp) (by simp) (by intro x hx;simp at hx;rcases hx with rfl|rfl<;>assumption)
theorem pF{h:Int}:∀{n:Nat} {x:Ty},x∈lK h n→∃i:Nat,x=dm h i
 |0,x,hx=>by simp[lK]at hx
 |n+1,x,hx=>by
   simp[lK]at hx;rcases hx with hx|rfl
   ·exact pF hx
   ·exact⟨n,rfl⟩
theorem wV{f:Ty→Ty}{l:List Ty}(h:∀x∈l,(f x).nodes.length≤x.nodes.length):((l.map f).flatMap Ty.nodes).length≤(l.flatMap Ty.nodes).length:=by
 induction l with
 |nil=>simp
 |cons a r ih=>
   have h1:=h a (by simp);have h2:=ih fun x hx=>h x (by simp[hx])
   simp only[List.map_cons,List.flatMap_cons,List.length_append];omega
theorem PU{l:List bX}(t:Ty):(t.l_ l).nodes.length≤t.nodes.length:=by
 refine Ty.dJ (p:=fun t=>(t.l_ l).nodes.length≤t.nodes.length) ?_ t;intro t ih;rw[Ty.yF];split
 ·rw[Ty.aL,Ty.aL t];simp[br]
 ·rw[Ty.aL,Ty.aL t];have:=wV (f:=Ty.l_ l) ih;simp only[List.length_cons];omega
theorem PW{l:List Ty}(hl:∀x∈l,x.nodes.length≤1)(t:Ty):(t.kf l).nodes.length≤t.nodes.length:=by
 refine Ty.dJ (p:=fun t=>(t.kf l).nodes.length≤t.nodes.length) ?_ t;intro t ih;rw[Ty.mO];cases e:MU l t with
 |some x=>
   obtain⟨_,_,_,hx⟩:=mN e;have:=hl x (aQ hx);rw[Ty.aL t];simp only[Option.getD_some,List.length_cons];omega
 |none=>
   simp only[Option.getD_none];rw[Ty.aL,Ty.aL t];have:=wV (f:=Ty.kf l) ih;simp only[List.length_cons];omega
structure JZ(t:Ty):Prop where
 ok:t.Ok
 kn:t.Kn (·=5)
 n:t.nodes.length≤90
theorem JZ.both{t:Ty}(h:JZ t):∃(u:Ty) (c:Sc),(aF AP).p 325 [t.pv]=some [u.pv]∧(aF AP).p 327 [t.pv,vI 98]=some [u.pv,c.pv]∧bH u∧gU c∧u.nodes.length≤90:=by
 obtain⟨s1,s2⟩:=oF (t:=t);have hn:=h.n;have k1:=c325 (S:=t.eQ) (by omega) h.ok h.kn.cw (fun y hy=>hy);have k2:=c327 (S:=t.eQ) (by omega) h.ok h.kn.cw (fun y hy=>hy) (h:=98)
 have hl:(ct t).length≤90:=by
   have:=nD (l:=t.eQ) (out:=[]);simp at this;unfold ct;omega
 obtain⟨b1,b2⟩:=Gt (l:=ct t) (h.kn.imp fun k hk=>.inr hk) (fun z hz hk=>ux (s2 z hz hk));have sc:gU ⟨(ct t).length,t.l_ (ct t)⟩:=⟨yH h.ok,b1,(ct t).length,rfl,by omega,b2⟩;refine⟨_,_,k1,k2,?_,sc,Nat.le_trans (PW (fun x hx=>by obtain⟨i,rfl⟩:=pF hx;rw[Ty.aL];simp[dm]) _) (Nat.le_trans (PU t) hn)⟩;refine uv sc (by rw[kN]) ?_;intro a ha;obtain⟨i,rfl⟩:=pF ha;exact⟨bL rfl,.bare rfl (by simp[dm]) (by simp[dm])⟩
theorem PX{t:Ty}(hO:t.Ok)(hk:t.Kn KT)(hn:t.nodes.length≤90)(h:Int):∃(u:Ty) (c:Sc),(aF AP).p 327 [t.pv,vI h]=some [u.pv,c.pv]∧bH u∧gU c:=by
 obtain⟨s1,s2⟩:=oF (t:=t);have k2:=c327 (S:=t.eQ) (by omega) hO hk.cw (fun y hy=>hy) (h:=h)
 have hl:(ct t).length≤90:=by
   have:=nD (l:=t.eQ) (out:=[]);simp at this;unfold ct;omega
 obtain⟨b1,b2⟩:=Gt (l:=ct t) hk (fun z hz hk=>ux (s2 z hz hk));have sc:gU ⟨(ct t).length,t.l_ (ct t)⟩:=⟨yH hO,b1,(ct t).length,rfl,by omega,b2⟩;refine⟨_,_,k2,uv sc (by rw[kN]) ?_,sc⟩;intro a ha;obtain⟨i,rfl⟩:=pF ha;exact⟨bL rfl,.bare rfl (by simp[dm]) (by simp[dm])⟩
structure Bd where
 pos:Int
 rc:Bool
 name:bX
 sg:Bool
 sig:Ty
 body:Ex
def Bd.cells(b:Bd):List PV:=[vI b.pos,.bool b.rc,.str b.name,.bool b.sg,vI b.sig.kind,.str b.sig.name,vI b.sig.id,vI b.sig.home,.aw (b.sig.args.map Ty.pv)]++b.body.cells
def Bd.pv(b:Bd):PV:=.agg b.cells
@[simp] theorem Bd.jD(b:Bd):b.pv=.agg [vI b.pos,.bool b.rc,.str b.name,.bool b.sg,vI b.sig.kind,.str b.sig.name,vI b.sig.id,vI b.sig.home,.aw (b.sig.args.map Ty.pv),.int .i64 b.body.kind,.int .i64 b.body.pos,.str b.body.name,.int .i64 b.body.num,.aw (b.body.kids.map Ex.pv),.aw (b.body.aY.map Ar.pv),.int .i64 b.body.ty.kind,.str b.body.ty.name,.int .i64 b.body.ty.id,.int .i64 b.body.ty.home,.aw (b.body.ty.args.map Ty.pv)]:=by
 rw[Bd.pv,Bd.cells,Ex.aS];rfl
theorem Fp:Row Bd.cells 20:=⟨by omega,fun b=>by rw[Bd.cells,Ex.aS];rfl⟩
theorem Tc{l:List Bd}:((fC (cr Bd.cells l)).bind (fD 20 true l.length)).map PV.aw=some (.aw (l.map Bd.pv)):=rX Fp
structure rJ(N:Nat)(b:Bd):Prop where
 sc:SS b.body
 h:b.body.MT N
 so:b.sig.Ok
 sw:b.sig.Cw
 sn:b.sig.nodes.length≤90
 nm:b.name.length≤100
 st:b.sig.Kn KT
 w:b.body.sz≤7*N
 tx:wQ b.body
def vu(L:List Int)(k:Nat)(bs:List Bd)(j:Int):Sh:=[]++[some [.pv (.aw (L.map vI)),.pv (vI j)]]++(nn k++[some (cr Bd.cells bs)])
theorem kS{L:List Int}{k:Nat}{bs:List Bd}:Tape L 0 (vu L k bs):=PC (A:=[]) (by intro cs h;simp at h) ((ua k).app (bf.one ep))
theorem Gu{L:List Int}{k:Nat}{bs:List Bd}{j:Int}:(vu L k bs j)[1+k]?=some (some (cr Bd.cells bs)):=by
 simp[vu,List.getElem?_append_right,Nat.add_comm,nn]
theorem PY{L:List Int}{k:Nat}{bs:List Bd}{j:Int}{F:List AV}:(vu L k bs j).set (1+k) none++[some F]=[]++[some [.pv (.aw (L.map vI)),.pv (vI j)]]++(nn (k+1)++[some F]):=by
 simp[vu,nn,Nat.add_comm 1 k,List.set_append,List.replicate_succ']
theorem PZ{L:List Int}{k:Nat}{bs:List Bd}{j:Int}:(vu L k bs j).length=1+k+1:=by simp[vu,nn];omega
def TV:List bX:=[[112],[113],[114],[115]]
theorem P0{i:Nat}{s:bX}(h:TV[i]?=some s):([PV.str [112],.str [113],.str [114],.str [115]]:List PV)[i]?=some (.str s):=by
 have:([PV.str [112],.str [113],.str [114],.str [115]]:List PV)=TV.map PV.str:=rfl;rw[this];simp[h]
structure It(L:List Int)(tm:Nat)(TP:Int→Sh)(ds:List Dt)(l:List En)(nm:bX)(i:Nat)(r4 r3 r2:Int)(x1 x u:Ty)(sc c':Sc)(e:Ex)(A:List AV)(b10 b11:Bool)(j1 j2 j3 j4 j5 j6:Nat):Prop where
 e1:(aF AP).i 68 [.aM tm 0,.pv (vI 4)] (TP i) []=some ([.pv (vI r4)],TP j1,[])
 k0:(aF AP).p 67 []=some [.aw (ic.map Ty.pv)]
 e2:(aF AP).i 27 [.aM tm 0,.pv (.aw (ds.map Dt.pv)),.pv (.aw (ic.map Ty.pv)),.pv (vI 2)] (TP j1) []=some ([x1.av],TP j2,[])
 e3:(aF AP).i 68 [.aM tm 0,.pv (vI 3)] (TP j2) []=some ([.pv (vI r3)],TP j3,[])
 e4:if r3=0 then (aF AP).i 27 [.aM tm 0,.pv (.aw (ds.map Dt.pv)),.pv (.aw []),.pv (vI 2)] (TP j3) []=some ([x.av],TP j4,[]) else x=x1∧j4=j3
 e5:(aF AP).i 68 [.aM tm 0,.pv (vI 2)] (TP j4) []=some ([.pv (vI r2)],TP j5,[])
 k1:(aF AP).p 325 [x.pv]=some [u.pv]
 k2:(aF AP).p 327 [x.pv,vI 98]=some [u.pv,sc.pv]
 k3:(aF AP).p 176 [u.pv]=some [(As.mk 0 u).pv]
 k4:(aF AP).p 179 [.aw (l.map En.pv),.str nm,(As.mk 0 u).pv]=some [.aw ((l++[En.mk nm ⟨0,u⟩]).map En.pv)]
 e6:(aF AP).i 326 [.aM tm 0,.pv (.aw (ds.map Dt.pv)),.pv (.aw ((if r4=1 then l++[⟨nm,⟨0,u⟩⟩] else l).map En.pv)),.pv u.pv,.pv (vI 3)] (TP j5) []=some ([.agg A],TP j6,[])
 hA:W_ e A
 k5:(aF AP).p 307 [e.pv,vI 10]=some [.bool b10]
 k6:(aF AP).p 307 [e.pv,vI 11]=some [.bool b11]
 k7:(aF AP).p 34 []=some [bj.pv]
 k8:(aF AP).p 176 [bj.pv]=some [(As.mk 0 bj).pv]
 hc:c'=if ¬r2=0∧(b10=true∨b11=true) then ⟨0,bj⟩ else sc
 k9:(aF AP).p 179 [.aw (l.map En.pv),.str nm,c'.pv]=some [.aw ((l++[En.mk nm c']).map En.pv)]
 QY:gU c'
 ty:yN 16 e
 sx:JZ x
 hj:j6≤L.length
theorem VC{L:List Int}{tm:Nat}{TP:Int→Sh}(hT:Tape L tm TP)(hL:Sm L){ds:List Dt}(hD:pB ds){l:List En}(hl:Ctx 900 l){i:Nat}(hi:i≤L.length)(nm:bX)(hnm:nm.length≤100) :
   ∃r4 r3 r2 x1 x u sc c' e A b10 b11 j1 j2 j3 j4 j5 j6,It L tm TP ds l nm i r4 r3 r2 x1 x u sc c' e A b10 b11 j1 j2 j3 j4 j5 j6:=by
 have hdl:=hD.len;have hda:∀d∈ds,d.params.length≤8:=fun d hd=>(dz d (hD.all d hd)).1
 have hdn:∀d∈ds,d.name.length≤100:=fun d hd=>(oD d (hD.all d hd)).1;have hll:=hl.len
 have nL:∀t∈ic,t.args=[]∧t.kind=5∧t.name.length≤100:=by
   intro t ht;simp[ic]at ht;rcases ht with rfl|rfl|rfl<;>exact⟨rfl,rfl,by decide⟩
 have sig:∀{lv:List Ty} {x:Ty},(∀t∈lv,t.args=[]∧t.kind=5∧t.name.length≤100)→dL (·∈ds) lv 2 x→JZ x:=fun h m=>⟨m.ok hda (fun t ht=>(h t ht).1),B2 hdn h m,by have:=m.small hda (fun t ht=>(h t ht).1);omega⟩;obtain⟨r4,j1,e1,_,_,hj1⟩:=rH hT hL hi (n:=4) (by omega) (by omega);obtain⟨x1,j2,e2,m1,hj2⟩:=PD hT hL (ds:=ds) (by omega) hda (lv:=ic) (by simp[Sm,ic]) 2 (by omega) j1 hj1;obtain⟨r3,j3,e3,_,_,hj3⟩:=rH hT hL hj2 (n:=3) (by omega) (by omega)
 obtain⟨x,j4,e4,sx,hj4⟩:∃(x:Ty) (j4:Nat),(if r3=0 then (aF AP).i 27 [.aM tm 0,.pv (.aw (ds.map Dt.pv)),.pv (.aw []),.pv (vI 2)] (TP j3) []=some ([x.av],TP j4,[]) else x=x1∧j4=j3)∧JZ x∧j4≤L.length:=by
   by_cases h:r3=0
   ·obtain⟨x,j4,e4,m,hj4⟩:=PD hT hL (ds:=ds) (by omega) hda (lv:=[]) (by simp[Sm]) 2 (by omega) j3 hj3;exact⟨x,j4,by rw[if_pos h];exact e4,sig (by simp) m,hj4⟩
   ·exact⟨x1,j3,by rw[if_neg h];exact⟨rfl,rfl⟩,sig nL m1,hj3⟩
 obtain⟨r2,j5,e5,_,_,hj5⟩:=rH hT hL hj4 (n:=2) (by omega) (by omega);obtain⟨u,sc,k1,k2,gu,hsc,un⟩:=sx.both;have k3:=c176 (t:=u);have k4:=c179 (l:=l) (by unfold Sm;omega) (n:=nm) (c:=⟨0,u⟩)
 have hli:Ctx (1000-20*3) (if r4=1 then l++[⟨nm,⟨0,u⟩⟩] else l):=by
   split
   ·exact hl.push gu.mono hnm (by omega)
   ·exact hl.bQ (by omega)
 obtain⟨e,f1,f2,f3,j6,e6,he,hj6⟩:=c326 hT hL hD 3 (by omega) j5 _ u hj5 hli gu (by omega);obtain⟨b10,k5⟩:=c307 he.sc.ok 10;obtain⟨b11,k6⟩:=c307 he.sc.ok 11
 have QY:gU (if ¬r2=0∧(b10=true∨b11=true) then ⟨0,bj⟩ else sc):=by
   split
   ·exact pA.mono
   ·exact hsc
 exact⟨r4,r3,r2,x1,x,u,sc,_,e,_,b10,b11,j1,j2,j3,j4,j5,j6,e1,c67,e2,e3,e4,e5,k1,k2,k3,k4,e6,jE f1 f2 f3 e,k5,k6,c34,c176,rfl,c179 (by unfold Sm;omega),QY,he,sx,hj6⟩
theorem yR:∀s∈TV,s.length≤100:=by
 intro s hs;simp only[TV,List.mem_cons,List.not_mem_nil,or_false]at hs;rcases hs with rfl|rfl|rfl|rfl<;>simp
def l8(nm:bX)(r4 r2:Int)(x:Ty)(e:Ex):Bd:=⟨0,decide (r4=1),nm,decide (r2=0),if r2=0 then x else bC,e⟩
theorem Gv{nm:bX}{r4 r2:Int}{x:Ty}{e:Ex}(hnm:nm.length≤100)(sx:JZ x)(ty:yN 16 e):rJ 100 (l8 nm r4 r2 x e):=by
 refine⟨ty.sc,um ty.h (by omega),?_,?_,?_,hnm,?_,by have:=ty.w;rw[show (16:Nat)=4*4 from rfl,JT]at this;simp only[l8];omega,ty.tx⟩<;>simp only[l8]<;>split
 ·exact sx.ok
 ·exact mS
 ·exact sx.kn.cw
 ·exact mT
 ·exact sx.n
 ·rw[Ty.aL];simp[bC]
 ·exact sx.kn.imp (fun k hk=>.inr hk)
 ·exact .bare rfl (by simp[bC]) (by simp[bC])
theorem VD{L:List Int}(hL:Sm L){ds:List Dt}(hD:pB ds){l:List En}(hl:Ctx 900 l){N i k:Nat}(hi4:i<N)(hN:N≤4){bs:List Bd}(hb0:bs.length=i){j:Nat}(hj:j≤L.length):∃(b:Bd) (l':List En) (j':Nat),rJ 100 b∧Ctx (l.length+1) l'∧j'≤L.length ∧
   cl AP g306L0 ⟨[(4,.au 4 0),(5,.aM 0 0),(6,.au 6 0),(7,.pv (.aw (l.map En.pv))),(8,.pv (vI N)),(9,.pv (vI i))],[(4,[.own [] 0,.own [] 1]),(6,[.pv (.aw (ds.map Dt.pv)),.aT (1+k) 20 bs.length true])],vu L k bs j,[0,0]⟩ =
   cl AP g306L0 ⟨[(4,.au 4 0),(5,.aM 0 0),(6,.au 6 0),(7,.pv (.aw (l'.map En.pv))),(8,.pv (vI N)),(9,.pv (vI (i+1:Nat)))],[(4,[.own [] 0,.own [] 1]),(6,[.pv (.aw (ds.map Dt.pv)),.aT (1+k+1) 20 (bs++[b]).length true])],vu L (k+1) (bs++[b]) j',[0,0]⟩:=by
 obtain⟨nm,hnm⟩:=aP (l:=TV) (i:=i) (by simp[TV];omega);have hnm':=P0 hnm;have hT:=kS (L:=L) (k:=k) (bs:=bs);obtain⟨r4,r3,r2,x1,x,u,sc,c',e,A,b10,b11,j1,j2,j3,j4,j5,j6,I⟩:=VC hT hL hD hl hj nm (yR nm (aQ hnm));obtain⟨e1,k0,e2,e3,e4,e5,k1,k2,k3,k4,e6,hA,k5,k6,k7,k8,hc,k9,QY,ty,sx,hj6⟩:=I
 refine⟨l8 nm r4 r2 x e,l++[⟨nm,c'⟩],j6,Gv (yR nm (aQ hnm)) sx ty,⟨by simp,by
   intro y hy;simp at hy;rcases hy with hy|rfl
   ·exact hl.B8 y hy
   ·exact QY,by
   intro y hy;simp at hy;rcases hy with hy|rfl
   ·exact hl.nm y hy
   ·exact yR nm (aQ hnm)⟩,hj6,?_⟩
 have tn:=hT.norm;have tsh:=hT.shift;have tl:=hT.take;have g1:=Gu (L:=L) (k:=k) (bs:=bs) (j:=j6);have g2:=PY (L:=L) (k:=k) (bs:=bs) (j:=j6) (F:=cr Bd.cells (bs++[l8 nm r4 r2 x e]));have g3:=PZ (L:=L) (k:=k) (bs:=bs) (j:=j6);have hfl:cr Bd.cells (bs++[l8 nm r4 r2 x e])=cr Bd.cells bs++(l8 nm r4 r2 x e).cells.map .pv:=by rw[yv];simp[cr]
 have ec:=Ex.aS e;have bc:(l8 nm r4 r2 x e).cells=[vI 0,.bool (decide (r4=1)),.str nm,.bool (decide (r2=0)),vI (if r2=0 then x else bC).kind,.str (if r2=0 then x else bC).name,vI (if r2=0 then x else bC).id,vI (if r2=0 then x else bC).home,.aw ((if r2=0 then x else bC).args.map Ty.pv)]++e.cells:=rfl;have r1:(cr Bd.cells bs).length=bs.length*20:=gO Fp;have r2':bY (cr Bd.cells bs)=false:=bV ep;have r3':(cr Bd.cells bs).take (bs.length*20)=cr Bd.cells bs:=List.take_of_length_le (by omega);have hb2:(bs.length+1)*256≤140737488355328:=by omega
 have hi':(i:Int)<N:=by omega
 have hq:bf (vu L (k+1) (bs++[l8 nm r4 r2 x e]) j6):=(kS (L:=L) (k:=k+1) (bs:=bs++[l8 nm r4 r2 x e])).quiet j6;have tn2:=hq.norm;have sheq:vu L (k+1) (bs++[l8 nm r4 r2 x e]) j6=(vu L k bs j6).set (1+k) none++[some (cr Bd.cells bs++(l8 nm r4 r2 x e).cells.map .pv)]:=by rw[←hfl,g2];rfl
 rw[sheq]at tn2⊢;rw[bc]at tn2⊢;generalize cr Bd.cells bs=F at *;have tA:A.take 11=A:=List.take_of_length_le (by rw[hA.len];omega);generalize hTP:vu L k bs=TP at *;clear g2 hfl sheq;generalize hS1:(TP j6).set (1+k) none=S1 at *;rw[ec];rw[ec]at tn2;simp[Ty.av]at e1 k0 e2 e3 e5 k1 k2 k3 k4 e6 k5 k6 k7 k8 k9;by_cases h4:r4=1
 · by_cases h3:r3=0
   · simp[h3,Ty.av]at e4 e3;by_cases h2:r2=0
     · simp[h4,h2,bC]at e1 e5 e6 hc tn2;subst hc
       try simp at k9
       conv=>lhs;rw[g306L0e]
       simp (disch:=omega) [-getElem?_pos,g306B0,hi',hnm',e1,k0,e2,e3,e4,e5,k1,k2,k3,k4,e6,k5,k6,k7,k8,k9,h4,h3,h2,tn,tsh,tl,g1,g3,r1,r2',r3',hb2,tn2,aq,aE,hA.bR,hA.flat,hA.gS,hA.len,hA.leaf,tA,ec,hS1,bC]
     · have h2b:(r2 == 0)=false:=(by simpa using h2);simp[h4,h2,bC]at e1 e5 e6 hc tn2;cases b10
       · cases b11
         · simp at hc;subst hc
           try simp at k9
           conv=>lhs;rw[g306L0e]
           simp (disch:=omega) [-getElem?_pos,g306B0,hi',hnm',e1,k0,e2,e3,e4,e5,k1,k2,k3,k4,e6,k5,k6,k7,k8,k9,h4,h3,h2,h2b,tn,tsh,tl,g1,g3,r1,r2',r3',hb2,tn2,aq,aE,hA.bR,hA.flat,hA.gS,hA.len,hA.leaf,tA,ec,hS1,bC]
         · simp at hc;subst hc;simp[bj]at k7 k8 k9;conv=>lhs;rw[g306L0e]
           simp (disch:=omega) [-getElem?_pos,g306B0,hi',hnm',e1,k0,e2,e3,e4,e5,k1,k2,k3,k4,e6,k5,k6,k7,k8,k9,h4,h3,h2,h2b,tn,tsh,tl,g1,g3,r1,r2',r3',hb2,tn2,aq,aE,hA.bR,hA.flat,hA.gS,hA.len,hA.leaf,tA,ec,hS1,bC,bj]
       · simp at hc;subst hc;simp[bj]at k7 k8 k9;conv=>lhs;rw[g306L0e]
         simp (disch:=omega) [-getElem?_pos,g306B0,hi',hnm',e1,k0,e2,e3,e4,e5,k1,k2,k3,k4,e6,k5,k6,k7,k8,k9,h4,h3,h2,h2b,tn,tsh,tl,g1,g3,r1,r2',r3',hb2,tn2,aq,aE,hA.bR,hA.flat,hA.gS,hA.len,hA.leaf,tA,ec,hS1,bC,bj]
   · simp[h3]at e4;obtain⟨rfl,rfl⟩:=e4;by_cases h2:r2=0
     · simp[h4,h2,bC]at e1 e5 e6 hc tn2;subst hc
       try simp at k9
       conv=>lhs;rw[g306L0e]
       simp (disch:=omega) [-getElem?_pos,g306B0,hi',hnm',e1,k0,e2,e3,e5,k1,k2,k3,k4,e6,k5,k6,k7,k8,k9,h4,h3,h2,tn,tsh,tl,g1,g3,r1,r2',r3',hb2,tn2,aq,aE,hA.bR,hA.flat,hA.gS,hA.len,hA.leaf,tA,ec,hS1,bC]
     · have h2b:(r2 == 0)=false:=(by simpa using h2);simp[h4,h2,bC]at e1 e5 e6 hc tn2;cases b10
       · cases b11
         · simp at hc;subst hc
           try simp at k9
           conv=>lhs;rw[g306L0e]
           simp (disch:=omega) [-getElem?_pos,g306B0,hi',hnm',e1,k0,e2,e3,e5,k1,k2,k3,k4,e6,k5,k6,k7,k8,k9,h4,h3,h2,h2b,tn,tsh,tl,g1,g3,r1,r2',r3',hb2,tn2,aq,aE,hA.bR,hA.flat,hA.gS,hA.len,hA.leaf,tA,ec,hS1,bC]
         · simp at hc;subst hc;simp[bj]at k7 k8 k9;conv=>lhs;rw[g306L0e]
           simp (disch:=omega) [-getElem?_pos,g306B0,hi',hnm',e1,k0,e2,e3,e5,k1,k2,k3,k4,e6,k5,k6,k7,k8,k9,h4,h3,h2,h2b,tn,tsh,tl,g1,g3,r1,r2',r3',hb2,tn2,aq,aE,hA.bR,hA.flat,hA.gS,hA.len,hA.leaf,tA,ec,hS1,bC,bj]
       · simp at hc;subst hc;simp[bj]at k7 k8 k9;conv=>lhs;rw[g306L0e]
         simp (disch:=omega) [-getElem?_pos,g306B0,hi',hnm',e1,k0,e2,e3,e5,k1,k2,k3,k4,e6,k5,k6,k7,k8,k9,h4,h3,h2,h2b,tn,tsh,tl,g1,g3,r1,r2',r3',hb2,tn2,aq,aE,hA.bR,hA.flat,hA.gS,hA.len,hA.leaf,tA,ec,hS1,bC,bj]
 · have h4b:(r4 == 1)=false:=(by simpa using h4);by_cases h3:r3=0
   · simp[h3,Ty.av]at e4 e3;by_cases h2:r2=0
     · simp[h4,h2,bC]at e1 e5 e6 hc tn2;subst hc
       try simp at k9
       conv=>lhs;rw[g306L0e]
       simp (disch:=omega) [-getElem?_pos,g306B0,hi',hnm',e1,k0,e2,e3,e4,e5,k1,k2,k3,k4,e6,k5,k6,k7,k8,k9,h4,h3,h2,h4b,tn,tsh,tl,g1,g3,r1,r2',r3',hb2,tn2,aq,aE,hA.bR,hA.flat,hA.gS,hA.len,hA.leaf,tA,ec,hS1,bC]
     · have h2b:(r2 == 0)=false:=(by simpa using h2);simp[h4,h2,bC]at e1 e5 e6 hc tn2;cases b10
       · cases b11
         · simp at hc;subst hc
           try simp at k9
           conv=>lhs;rw[g306L0e]
           simp (disch:=omega) [-getElem?_pos,g306B0,hi',hnm',e1,k0,e2,e3,e4,e5,k1,k2,k3,k4,e6,k5,k6,k7,k8,k9,h4,h3,h2,h2b,h4b,tn,tsh,tl,g1,g3,r1,r2',r3',hb2,tn2,aq,aE,hA.bR,hA.flat,hA.gS,hA.len,hA.leaf,tA,ec,hS1,bC]
         · simp at hc;subst hc;simp[bj]at k7 k8 k9;conv=>lhs;rw[g306L0e]
           simp (disch:=omega) [-getElem?_pos,g306B0,hi',hnm',e1,k0,e2,e3,e4,e5,k1,k2,k3,k4,e6,k5,k6,k7,k8,k9,h4,h3,h2,h2b,h4b,tn,tsh,tl,g1,g3,r1,r2',r3',hb2,tn2,aq,aE,hA.bR,hA.flat,hA.gS,hA.len,hA.leaf,tA,ec,hS1,bC,bj]
       · simp at hc;subst hc;simp[bj]at k7 k8 k9;conv=>lhs;rw[g306L0e]
         simp (disch:=omega) [-getElem?_pos,g306B0,hi',hnm',e1,k0,e2,e3,e4,e5,k1,k2,k3,k4,e6,k5,k6,k7,k8,k9,h4,h3,h2,h2b,h4b,tn,tsh,tl,g1,g3,r1,r2',r3',hb2,tn2,aq,aE,hA.bR,hA.flat,hA.gS,hA.len,hA.leaf,tA,ec,hS1,bC,bj]
   · simp[h3]at e4;obtain⟨rfl,rfl⟩:=e4;by_cases h2:r2=0
     · simp[h4,h2,bC]at e1 e5 e6 hc tn2;subst hc
       try simp at k9
       conv=>lhs;rw[g306L0e]
       simp (disch:=omega) [-getElem?_pos,g306B0,hi',hnm',e1,k0,e2,e3,e5,k1,k2,k3,k4,e6,k5,k6,k7,k8,k9,h4,h3,h2,h4b,tn,tsh,tl,g1,g3,r1,r2',r3',hb2,tn2,aq,aE,hA.bR,hA.flat,hA.gS,hA.len,hA.leaf,tA,ec,hS1,bC]
     · have h2b:(r2 == 0)=false:=(by simpa using h2);simp[h4,h2,bC]at e1 e5 e6 hc tn2;cases b10
       · cases b11
         · simp at hc;subst hc
           try simp at k9
           conv=>lhs;rw[g306L0e]
           simp (disch:=omega) [-getElem?_pos,g306B0,hi',hnm',e1,k0,e2,e3,e5,k1,k2,k3,k4,e6,k5,k6,k7,k8,k9,h4,h3,h2,h2b,h4b,tn,tsh,tl,g1,g3,r1,r2',r3',hb2,tn2,aq,aE,hA.bR,hA.flat,hA.gS,hA.len,hA.leaf,tA,ec,hS1,bC]
         · simp at hc;subst hc;simp[bj]at k7 k8 k9;conv=>lhs;rw[g306L0e]
           simp (disch:=omega) [-getElem?_pos,g306B0,hi',hnm',e1,k0,e2,e3,e5,k1,k2,k3,k4,e6,k5,k6,k7,k8,k9,h4,h3,h2,h2b,h4b,tn,tsh,tl,g1,g3,r1,r2',r3',hb2,tn2,aq,aE,hA.bR,hA.flat,hA.gS,hA.len,hA.leaf,tA,ec,hS1,bC,bj]
       · simp at hc;subst hc;simp[bj]at k7 k8 k9;conv=>lhs;rw[g306L0e]
         simp (disch:=omega) [-getElem?_pos,g306B0,hi',hnm',e1,k0,e2,e3,e5,k1,k2,k3,k4,e6,k5,k6,k7,k8,k9,h4,h3,h2,h2b,h4b,tn,tsh,tl,g1,g3,r1,r2',r3',hb2,tn2,aq,aE,hA.bR,hA.flat,hA.gS,hA.len,hA.leaf,tA,ec,hS1,bC,bj]
theorem i7{L:List Int}:Tape L 0 (tp L) where
 get:=fun i=>by simp
 set:=fun i j=>by simp
 quiet:=fun i=>bf.one (by intro v hv;simp at hv;rcases hv with rfl|rfl<;>exact⟨_,rfl⟩)
theorem VE{L:List Int}(hL:Sm L){ds:List Dt}(hD:pB ds){N:Nat}(h0:0<N)(hN:N≤4){j:Nat}(hj:j≤L.length):∃(b:Bd) (l':List En) (j':Nat),rJ 100 b∧Ctx 1 l'∧j'≤L.length ∧
   cl AP g306L0 ⟨[(4,.au 4 0),(5,.aM 0 0),(6,.au 6 0),(7,.own [] 0),(8,.pv (vI N)),(9,.pv (vI 0))],[(4,[.own [] 1,.own [] 2]),(6,[.pv (.aw (ds.map Dt.pv)),.own [] 3])],tp L j,[0,0,0,0]⟩ =
   cl AP g306L0 ⟨[(4,.au 4 0),(5,.aM 0 0),(6,.au 6 0),(7,.pv (.aw (l'.map En.pv))),(8,.pv (vI N)),(9,.pv (vI 1))],[(4,[.own [] 0,.own [] 1]),(6,[.pv (.aw (ds.map Dt.pv)),.aT 1 20 1 true])],vu L 0 [b] j',[0,0]⟩:=by
 have hT:=i7 (L:=L);obtain⟨r4,r3,r2,x1,x,u,sc,c',e,A,b10,b11,j1,j2,j3,j4,j5,j6,I⟩:=VC hT hL hD (l:=[]) ⟨by simp,by simp,by simp⟩ hj [112] (by simp);obtain⟨e1,k0,e2,e3,e4,e5,k1,k2,k3,k4,e6,hA,k5,k6,k7,k8,hc,k9,QY,ty,sx,hj6⟩:=I
 refine⟨l8 [112] r4 r2 x e,[⟨[112],c'⟩],j6,Gv (by simp) sx ty,⟨by simp,by
   intro y hy;simp at hy;subst hy;exact QY,by
   intro y hy;simp at hy;subst hy;simp⟩,hj6,?_⟩
 have tn:=hT.norm;have tsh:=hT.shift;have tl:=hT.take;have g3:∀i,(tp L i).length=1:=fun i=>rfl
 have ec:=Ex.aS e;have hi':=h0;have hz:N≠0:=by omega
 have hq:bf (vu L 0 [l8 [112] r4 r2 x e] j6):=(kS (L:=L) (k:=0) (bs:=[l8 [112] r4 r2 x e])).quiet j6;have tn2:=hq.norm;have bc:(l8 [112] r4 r2 x e).cells=[vI 0,.bool (decide (r4=1)),.str [112],.bool (decide (r2=0)),vI (if r2=0 then x else bC).kind,.str (if r2=0 then x else bC).name,vI (if r2=0 then x else bC).id,vI (if r2=0 then x else bC).home,.aw ((if r2=0 then x else bC).args.map Ty.pv)]++e.cells:=rfl;have sheq:vu L 0 [l8 [112] r4 r2 x e] j6=tp L j6++[some ((l8 [112] r4 r2 x e).cells.map .pv)]:=by simp[vu,nn,cr]
 rw[sheq]at tn2⊢;rw[bc]at tn2⊢;generalize tp L=TP at *;have tA:A.take 11=A:=List.take_of_length_le (by rw[hA.len];omega);clear sheq;rw[ec];rw[ec]at tn2;simp[Ty.av]at e1 k0 e2 e3 e5 k1 k2 k3 k4 e6 k5 k6 k7 k8 k9;by_cases h4:r4=1
 · by_cases h3:r3=0
   · simp[h3,Ty.av]at e4 e3;by_cases h2:r2=0
     · simp[h4,h2,bC]at e1 e5 e6 hc tn2;subst hc
       try simp at k9
       conv=>lhs;rw[g306L0e]
       simp (disch:=omega) [-getElem?_pos,g306B0,hi',hz,e1,k0,e2,e3,e4,e5,k1,k2,k3,k4,e6,k5,k6,k7,k8,k9,h4,h3,h2,tn,tsh,tl,g3,tn2,aq,aE,hA.bR,hA.flat,hA.gS,hA.len,hA.leaf,tA,ec,bC];conv=>lhs;rw[g306L0e]
       conv=>rhs;rw[g306L0e]
       simp[h4,h2,tn2,bC]
     · have h2b:(r2 == 0)=false:=(by simpa using h2);simp[h4,h2,bC]at e1 e5 e6 hc tn2;cases b10
       · cases b11
         · simp at hc;subst hc
           try simp at k9
           conv=>lhs;rw[g306L0e]
           simp (disch:=omega) [-getElem?_pos,g306B0,hi',hz,e1,k0,e2,e3,e4,e5,k1,k2,k3,k4,e6,k5,k6,k7,k8,k9,h4,h3,h2,h2b,tn,tsh,tl,g3,tn2,aq,aE,hA.bR,hA.flat,hA.gS,hA.len,hA.leaf,tA,ec,bC];conv=>lhs;rw[g306L0e]
           conv=>rhs;rw[g306L0e]
           simp[h4,h2,h2b,tn2,bC]
         · simp at hc;subst hc;simp[bj]at k7 k8 k9;conv=>lhs;rw[g306L0e]
           simp (disch:=omega) [-getElem?_pos,g306B0,hi',hz,e1,k0,e2,e3,e4,e5,k1,k2,k3,k4,e6,k5,k6,k7,k8,k9,h4,h3,h2,h2b,tn,tsh,tl,g3,tn2,aq,aE,hA.bR,hA.flat,hA.gS,hA.len,hA.leaf,tA,ec,bC,bj];conv=>lhs;rw[g306L0e]
           conv=>rhs;rw[g306L0e]
           simp[h4,h2,h2b,tn2,bC]
       · simp at hc;subst hc;simp[bj]at k7 k8 k9;conv=>lhs;rw[g306L0e]
         simp (disch:=omega) [-getElem?_pos,g306B0,hi',hz,e1,k0,e2,e3,e4,e5,k1,k2,k3,k4,e6,k5,k6,k7,k8,k9,h4,h3,h2,h2b,tn,tsh,tl,g3,tn2,aq,aE,hA.bR,hA.flat,hA.gS,hA.len,hA.leaf,tA,ec,bC,bj];conv=>lhs;rw[g306L0e]
         conv=>rhs;rw[g306L0e]
         simp[h4,h2,h2b,tn2,bC]
   · simp[h3]at e4;obtain⟨rfl,rfl⟩:=e4;by_cases h2:r2=0
     · simp[h4,h2,bC]at e1 e5 e6 hc tn2;subst hc
       try simp at k9
       conv=>lhs;rw[g306L0e]
       simp (disch:=omega) [-getElem?_pos,g306B0,hi',hz,e1,k0,e2,e3,e5,k1,k2,k3,k4,e6,k5,k6,k7,k8,k9,h4,h3,h2,tn,tsh,tl,g3,tn2,aq,aE,hA.bR,hA.flat,hA.gS,hA.len,hA.leaf,tA,ec,bC];conv=>lhs;rw[g306L0e]
       conv=>rhs;rw[g306L0e]
       simp[h4,h2,tn2,bC]
     · have h2b:(r2 == 0)=false:=(by simpa using h2);simp[h4,h2,bC]at e1 e5 e6 hc tn2;cases b10
       · cases b11
         · simp at hc;subst hc
           try simp at k9
           conv=>lhs;rw[g306L0e]
           simp (disch:=omega) [-getElem?_pos,g306B0,hi',hz,e1,k0,e2,e3,e5,k1,k2,k3,k4,e6,k5,k6,k7,k8,k9,h4,h3,h2,h2b,tn,tsh,tl,g3,tn2,aq,aE,hA.bR,hA.flat,hA.gS,hA.len,hA.leaf,tA,ec,bC];conv=>lhs;rw[g306L0e]
           conv=>rhs;rw[g306L0e]
           simp[h4,h2,h2b,tn2,bC]
         · simp at hc;subst hc;simp[bj]at k7 k8 k9;conv=>lhs;rw[g306L0e]
           simp (disch:=omega) [-getElem?_pos,g306B0,hi',hz,e1,k0,e2,e3,e5,k1,k2,k3,k4,e6,k5,k6,k7,k8,k9,h4,h3,h2,h2b,tn,tsh,tl,g3,tn2,aq,aE,hA.bR,hA.flat,hA.gS,hA.len,hA.leaf,tA,ec,bC,bj];conv=>lhs;rw[g306L0e]
           conv=>rhs;rw[g306L0e]
           simp[h4,h2,h2b,tn2,bC]
       · simp at hc;subst hc;simp[bj]at k7 k8 k9;conv=>lhs;rw[g306L0e]
         simp (disch:=omega) [-getElem?_pos,g306B0,hi',hz,e1,k0,e2,e3,e5,k1,k2,k3,k4,e6,k5,k6,k7,k8,k9,h4,h3,h2,h2b,tn,tsh,tl,g3,tn2,aq,aE,hA.bR,hA.flat,hA.gS,hA.len,hA.leaf,tA,ec,bC,bj];conv=>lhs;rw[g306L0e]
         conv=>rhs;rw[g306L0e]
         simp[h4,h2,h2b,tn2,bC]
 · have h4b:(r4 == 1)=false:=(by simpa using h4);by_cases h3:r3=0
   · simp[h3,Ty.av]at e4 e3;by_cases h2:r2=0
     · simp[h4,h2,bC]at e1 e5 e6 hc tn2;subst hc
       try simp at k9
       conv=>lhs;rw[g306L0e]
       simp (disch:=omega) [-getElem?_pos,g306B0,hi',hz,e1,k0,e2,e3,e4,e5,k1,k2,k3,k4,e6,k5,k6,k7,k8,k9,h4,h3,h2,h4b,tn,tsh,tl,g3,tn2,aq,aE,hA.bR,hA.flat,hA.gS,hA.len,hA.leaf,tA,ec,bC];conv=>lhs;rw[g306L0e]
       conv=>rhs;rw[g306L0e]
       simp[h4,h2,h4b,tn2,bC]
     · have h2b:(r2 == 0)=false:=(by simpa using h2);simp[h4,h2,bC]at e1 e5 e6 hc tn2;cases b10
       · cases b11
         · simp at hc;subst hc
           try simp at k9
           conv=>lhs;rw[g306L0e]
           simp (disch:=omega) [-getElem?_pos,g306B0,hi',hz,e1,k0,e2,e3,e4,e5,k1,k2,k3,k4,e6,k5,k6,k7,k8,k9,h4,h3,h2,h2b,h4b,tn,tsh,tl,g3,tn2,aq,aE,hA.bR,hA.flat,hA.gS,hA.len,hA.leaf,tA,ec,bC];conv=>lhs;rw[g306L0e]
           conv=>rhs;rw[g306L0e]
           simp[h4,h2,h2b,h4b,tn2,bC]
         · simp at hc;subst hc;simp[bj]at k7 k8 k9;conv=>lhs;rw[g306L0e]
           simp (disch:=omega) [-getElem?_pos,g306B0,hi',hz,e1,k0,e2,e3,e4,e5,k1,k2,k3,k4,e6,k5,k6,k7,k8,k9,h4,h3,h2,h2b,h4b,tn,tsh,tl,g3,tn2,aq,aE,hA.bR,hA.flat,hA.gS,hA.len,hA.leaf,tA,ec,bC,bj];conv=>lhs;rw[g306L0e]
           conv=>rhs;rw[g306L0e]
           simp[h4,h2,h2b,h4b,tn2,bC]
       · simp at hc;subst hc;simp[bj]at k7 k8 k9;conv=>lhs;rw[g306L0e]
         simp (disch:=omega) [-getElem?_pos,g306B0,hi',hz,e1,k0,e2,e3,e4,e5,k1,k2,k3,k4,e6,k5,k6,k7,k8,k9,h4,h3,h2,h2b,h4b,tn,tsh,tl,g3,tn2,aq,aE,hA.bR,hA.flat,hA.gS,hA.len,hA.leaf,tA,ec,bC,bj];conv=>lhs;rw[g306L0e]
         conv=>rhs;rw[g306L0e]
         simp[h4,h2,h2b,h4b,tn2,bC]
   · simp[h3]at e4;obtain⟨rfl,rfl⟩:=e4;by_cases h2:r2=0
     · simp[h4,h2,bC]at e1 e5 e6 hc tn2;subst hc
       try simp at k9
       conv=>lhs;rw[g306L0e]
       simp (disch:=omega) [-getElem?_pos,g306B0,hi',hz,e1,k0,e2,e3,e5,k1,k2,k3,k4,e6,k5,k6,k7,k8,k9,h4,h3,h2,h4b,tn,tsh,tl,g3,tn2,aq,aE,hA.bR,hA.flat,hA.gS,hA.len,hA.leaf,tA,ec,bC];conv=>lhs;rw[g306L0e]
       conv=>rhs;rw[g306L0e]
       simp[h4,h2,h4b,tn2,bC]
     · have h2b:(r2 == 0)=false:=(by simpa using h2);simp[h4,h2,bC]at e1 e5 e6 hc tn2;cases b10
       · cases b11
         · simp at hc;subst hc
           try simp at k9
           conv=>lhs;rw[g306L0e]
           simp (disch:=omega) [-getElem?_pos,g306B0,hi',hz,e1,k0,e2,e3,e5,k1,k2,k3,k4,e6,k5,k6,k7,k8,k9,h4,h3,h2,h2b,h4b,tn,tsh,tl,g3,tn2,aq,aE,hA.bR,hA.flat,hA.gS,hA.len,hA.leaf,tA,ec,bC];conv=>lhs;rw[g306L0e]
           conv=>rhs;rw[g306L0e]
           simp[h4,h2,h2b,h4b,tn2,bC]
         · simp at hc;subst hc;simp[bj]at k7 k8 k9;conv=>lhs;rw[g306L0e]
           simp (disch:=omega) [-getElem?_pos,g306B0,hi',hz,e1,k0,e2,e3,e5,k1,k2,k3,k4,e6,k5,k6,k7,k8,k9,h4,h3,h2,h2b,h4b,tn,tsh,tl,g3,tn2,aq,aE,hA.bR,hA.flat,hA.gS,hA.len,hA.leaf,tA,ec,bC,bj];conv=>lhs;rw[g306L0e]
           conv=>rhs;rw[g306L0e]
           simp[h4,h2,h2b,h4b,tn2,bC]
       · simp at hc;subst hc;simp[bj]at k7 k8 k9;conv=>lhs;rw[g306L0e]
         simp (disch:=omega) [-getElem?_pos,g306B0,hi',hz,e1,k0,e2,e3,e5,k1,k2,k3,k4,e6,k5,k6,k7,k8,k9,h4,h3,h2,h2b,h4b,tn,tsh,tl,g3,tn2,aq,aE,hA.bR,hA.flat,hA.gS,hA.len,hA.leaf,tA,ec,bC,bj];conv=>lhs;rw[g306L0e]
         conv=>rhs;rw[g306L0e]
         simp[h4,h2,h2b,h4b,tn2,bC]
theorem VF{L:List Int}(hL:Sm L){ds:List Dt}(hD:pB ds){N:Nat}(hN:N≤4):∀(n i:Nat),N-i=n→i≤N→∀(l:List En) (k:Nat) (bs:List Bd) (j:Nat),Ctx (900-n) l→bs.length=i→(∀b∈bs,rJ 100 b)→j≤L.length→∃(l':List En) (k':Nat) (bs':List Bd) (j':Nat),bs'.length=N∧(∀b∈bs',rJ 100 b)∧j'≤L.length ∧
   cl AP g306L0 ⟨[(4,.au 4 0),(5,.aM 0 0),(6,.au 6 0),(7,.pv (.aw (l.map En.pv))),(8,.pv (vI N)),(9,.pv (vI i))],[(4,[.own [] 0,.own [] 1]),(6,[.pv (.aw (ds.map Dt.pv)),.aT (1+k) 20 bs.length true])],vu L k bs j,[0,0]⟩ =
     some (.exit 0,⟨[(4,.au 4 0),(5,.aM 0 0),(6,.au 6 0),(7,.pv (.aw (l'.map En.pv))),(8,.pv (vI N)),(9,.pv (vI N)),(26,.pv (.bool false))],[(4,[.own [] 0,.own [] 1]),(6,[.pv (.aw (ds.map Dt.pv)),.aT (1+k') 20 bs'.length true])],vu L k' bs' j',[0,0]⟩)
 |0,i,hn,hi,l,k,bs,j,hl,hb,ho,hj=>by
   have:i=N:=by omega
   subst this;refine⟨l,k,bs,j,hb,ho,hj,?_⟩;have tn:=((kS (L:=L) (k:=k) (bs:=bs)).quiet j).norm;generalize vu L k bs j=S at *;rw[g306L0e];simp[g306B0,tn]
 |n+1,i,hn,hi,l,k,bs,j,hl,hb,ho,hj=>by
   obtain⟨b,l1,j1,b1,b2,b3,e⟩:=VD hL hD (l:=l) (N:=N) (k:=k) (hl.bQ (by omega)) (by omega) hN hb hj;have hll:=hl.len
   obtain⟨l',k',bs',j',q1,q2,q3,e'⟩:=VF hL hD hN n (i+1) (by omega) (by omega) l1 (k+1) (bs++[b]) j1 (b2.bQ (by omega)) (by simp;omega) (by
     intro y hy;simp at hy;rcases hy with hy|rfl
     ·exact ho y hy
     ·exact b1) b3
   refine⟨l',k',bs',j',q1,q2,q3,?_⟩;rw[e];exact e'
def P1(m:Mc)(F:Nat)(env:List En)(c:Sc):Prop:=∀w,ef c.ty w→¬ky m.s.sl w∧((∃x∈bW env,RT m.s.sl x.sc.ty w)∨∃u∈aW (m.rc.drop F),RT m.s.sl u w)
theorem gU.own{m:Mc}{F:Nat}{env:List En}{c:Sc}(h:gU c):P1 m F env c:=fun _ ho=>(uj ho h.kn (by simp)).elim
def VG(ds:List Dt)(H:Prop)(m:Mc)(n:Nat)(env:List En)(i:Int)(b:Bd):Prop:=∃(c:Sc) (gen:List Int) (d:Dv) (f g x y z w:Bool) (m':Mc) (n':Nat),
 kg 354 [.pv (.aw (env.map En.pv)),.pv (vI i),.pv b.pv] m [JY f c,.agg (dY g (gen.map vI)::kM x y z w d)] m'∧Step H m n (201*b.body.sz+1) b.body.sz m' n'∧iN n' c∧P1 m' m.rc.length env c
theorem c354{ds:List Dt}{H:Prop}{b:Bd}(hO:b.sig.Ok)(hk:b.sig.Kn KT)(hn:b.sig.nodes.length≤90)(hb:iO ds H b.body)(i:Int){m:Mc}{n:Nat}{env:List En}(R:Room ds m n (201*b.body.sz+1) b.body.sz (20*b.body.sz+1) env):VG ds H m n env i b:=by
 have hel:=R.el;have hrc:=R.rc;have hz:=R.n';cases hsg:b.sg with
 |true=>
   obtain⟨u,c,k1,gu,sc⟩:=PX hO hk hn i;have k2:=c176 (t:=u);have k3:=c179 (l:=env) (by unfold Sm;omega) (n:=b.name) (c:=⟨0,u⟩)
   have fin:∀env1:List En,(∀x∈env1,iN n x.sc)→env1.length≤env.length+1→∃(d:Dv) (f1 f2 f3 f4:Bool) (m':Mc) (n':Nat) (s':de) (e' p':Int),kg 368 [.pv (.aw (env1.map En.pv)),.pv b.body.pv] m [.agg (kM f1 f2 f3 f4 d)] m'∧kg 369 [.pv d.ty.pv,.pv u.pv,.pv (vI b.pos)] m' [] { m' with s:=s',err:=e',pos:=p' }∧Step H m n (201*b.body.sz+1) b.body.sz { m' with s:=s',err:=e',pos:=p' } n':=by
     intro env1 h1 h2;obtain⟨d,f1,f2,f3,f4,m',n',e1,s1,fd⟩:=hb m n env1 ⟨R.st,by have:=R.nb;omega,R.rc,R.hd,R.lP,h1,by omega,R.ds⟩;obtain⟨s',e',p',e2,I',x'⟩:=c369 (m:=m') s1.st (by have:=s1.up;have:=R.nb;omega) fd gu.fit b.pos;exact⟨d,f1,f2,f3,f4,m',n',s',e',p',e1,e2,(s1.trans (Step.same (m':={ m' with s:=s',err:=e',pos:=p' }) I' x' rfl rfl rfl rfl)).bQ (by omega) (by omega)⟩
   have fl:∃env1:List En,env1=(if b.rc=true then env++[⟨b.name,⟨0,u⟩⟩] else env)∧(∀x∈env1,iN n x.sc)∧env1.length≤env.length+1:=by
     refine⟨_,rfl,?_,?_⟩
     · split
       · intro x hx;simp only[List.mem_append,List.mem_singleton]at hx;rcases hx with hx|rfl
         ·exact R.pE x hx
         ·exact (bH.TU gu).mono
       ·exact R.pE
     ·split<;>simp
   obtain⟨env1,he1,he2,he3⟩:=fl;obtain⟨d,f1,f2,f3,f4,m',n',s',e',p',e1,e2,st⟩:=fin env1 he2 he3;have D:=gm f1 f2 f3 f4 d;generalize kM f1 f2 f3 f4 d=C at *;refine⟨c,[],d,false,false,false,false,false,false,{ m' with s:=s',err:=e',pos:=p' },n',?_,st,gU.TU sc,sc.own⟩;have dc:=Dv.aS d;have bc:=Ex.aS b.body;have hlen:=D.len;have hleaf:=D.leaf;have hfrz:=D.bR;have hflat:=D.flat;have hflo:=D.gS;have hkill:=D.kill;have hfz:∀S:Sh,bR S (.au 14 0)=none:=fun _=>rfl
   clear D st fin R hb gu sc he2 he3 hO hk hn;unfold kg at *;simp[Mc.sh,Mc.tk,Mc.cells]at e1 e2;simp at k1 k2 k3;rw[aB (af:=g354) rfl (by simp[g354])];cases hr:b.rc<;>simp[hr]at he1<;>subst he1<;>(try simp at e1)<;>simp[-getElem?_pos,g354,Mc.sh,Mc.tk,Mc.cells,hsg,hr,k1,k2,k3,e1,e2,hlen,hleaf,hfrz,hflat,hflo,hkill,hfz,dc,bc,kM,JY,dY,aE]
 |false=>
   have bc:=Ex.aS b.body;have hfz:∀S:Sh,bR S (.au 14 0)=none:=fun _=>rfl
   cases hr:b.rc with
   |true=>
     have k0:=c367 R.st R.n';have s0:=Step.fresh (H:=H) R.st;have R0:=R.step s0 (A':=201*b.body.sz) (R':=b.body.sz) (E':=20*b.body.sz+1) (by omega) (by omega) (by omega);have k6:=c176 (t:=aK n);have k7:=c179 (l:=env) (by unfold Sm;omega) (n:=b.name) (c:=⟨0,aK n⟩);obtain⟨d,f1,f2,f3,f4,m1,n1,k1,s1,fd⟩:=hb _ _ _ (R0.push (s:=b.name) (c:=⟨0,aK n⟩) (eh (by omega)).mono (Nat.le_refl _));have R1:=R0.step s1 (A':=0) (R':=0) (E':=0) (by omega) (by omega) (by omega);have q1:=s1.le;obtain⟨sx,ex,px,k5,Ix,xx⟩:=c369 (m:=m1) R1.st R1.n' (eh (k:=n) (by omega)) fd b.pos;have sE:Step H m1 n1 0 0 { m1 with s:=sx,err:=ex,pos:=px } n1:=Step.same Ix xx rfl rfl rfl rfl;have RE:=R1.step sE (A':=0) (R':=0) (E':=0) (by omega) (by omega) (by omega);have hl1:=s1.We;obtain⟨c,gen,fl,e',p',k2,sc,ow⟩:=c370 RE.st RE.n' fd (env:=env) (by omega) RE.pE RE.lP (by have:=RE.rc;omega) (F:=m.rc.length) hl1 b.pos;have s2:Step H { m1 with s:=sx,err:=ex,pos:=px } n1 0 0 { m1 with s:=sx,err:=e',pos:=p' } n1:=Step.same RE.st (.refl _) rfl rfl rfl rfl;have D:=gm f1 f2 f3 f4 d;generalize kM f1 f2 f3 f4 d=C at *;refine⟨c,gen,d,fl,false,false,false,false,false,{ m1 with s:=sx,err:=e',pos:=p' },n1,?_,(((s0.trans s1).trans sE).trans s2).bQ (by omega) (by omega),sc,ow⟩;have dc:=Dv.aS d;have hlen:=D.len;have hleaf:=D.leaf;have hfrz:=D.bR;have hflat:=D.flat;have hflo:=D.gS;have hkill:=D.kill;clear D s0 s1 s2 sE R R0 R1 RE fd sc hb Ix xx ow;unfold kg at *;simp[Mc.sh,Mc.tk,Mc.cells,aK]at k0 k1 k5 k6 k7;simp[Mc.sh,Mc.tk,Mc.cells,B0,Mc.cx,JY]at k2;rw[aB (af:=g354) rfl (by simp[g354])];cases fl<;>simp[dY]at k2<;>simp[-getElem?_pos,g354,Mc.sh,Mc.tk,Mc.cells,hsg,hr,k0,k1,k2,k5,k6,k7,hlen,hleaf,hfrz,hflat,hflo,hkill,hfz,dc,bc,kM,JY,dY,aE]
   |false=>
     obtain⟨d,f1,f2,f3,f4,m1,n1,k1,s1,fd⟩:=hb _ _ _ (R.bQ (by omega) (by omega) (by omega));have R1:=R.step s1 (A':=0) (R':=0) (E':=0) (by omega) (by omega) (by omega);have hl1:=s1.We;obtain⟨c,gen,fl,e',p',k2,sc,ow⟩:=c370 R1.st R1.n' fd (env:=env) (by omega) R1.pE R1.lP (by have:=R1.rc;omega) (F:=m.rc.length) hl1 b.pos;have s2:Step H m1 n1 0 0 { m1 with err:=e',pos:=p' } n1:=Step.same R1.st (.refl _) rfl rfl rfl rfl;have D:=gm f1 f2 f3 f4 d;generalize kM f1 f2 f3 f4 d=C at *;refine⟨c,gen,d,fl,false,false,false,false,false,{ m1 with err:=e',pos:=p' },n1,?_,(s1.trans s2).bQ (by omega) (by omega),sc,ow⟩;have dc:=Dv.aS d;have hlen:=D.len;have hleaf:=D.leaf;have hfrz:=D.bR;have hflat:=D.flat;have hflo:=D.gS;have hkill:=D.kill;clear D s1 s2 R R1 fd sc hb ow;unfold kg at *;simp[Mc.sh,Mc.tk,Mc.cells]at k1;simp[Mc.sh,Mc.tk,Mc.cells,B0,Mc.cx,JY]at k2;rw[aB (af:=g354) rfl (by simp[g354])];cases fl<;>simp[dY]at k2<;>simp[-getElem?_pos,g354,Mc.sh,Mc.tk,Mc.cells,hsg,hr,k1,k2,hlen,hleaf,hfrz,hflat,hflo,hkill,hfz,dc,bc,kM,JY,dY,aE]
def vv(ds:List Dt)(b:Bd):Int:=if b.sg=true then b.sig.formed ds (ct b.sig) else 0
def mV(b:Bd)(names:List bX):List bX:=if b.rc=true then names++[b.name] else names
noncomputable def lQ(ds:List Dt):List Bd→List bX→vp
 |[],_=>(0,0)
 |b::r,names=>if b.name∈names then (6,b.pos) else if vv ds b≠0 then (vv ds b,b.pos) else if (b.body.cr ds (mV b names)).1≠0 then b.body.cr ds (mV b names) else lQ ds r (names++[b.name])
noncomputable def wW(ds:List Dt)(bs:List Bd):vp:=if (check ds).1≠0 then check ds else lQ ds bs []
def pC(ds:List Dt)(bs:List Bd):List AV:=[.pv (.aw (ds.map Dt.pv)),.pv (.aw (bs.map Bd.pv))]
structure VH(Q:Nat)(ds:List Dt)(bs:List Bd):Prop where
 d:pB ds
 len:bs.length≤1000
 ok:∀b∈bs,rJ Q b
def Td(ds:List Dt)(bs:List Bd)(F:vp)(r:Option (aU×St)):Prop:=
 (F=(0,0)∧∃(names:List bX),r=some (.exit 0,⟨[(1,.au 1 0),(2,.au 2 0),(4,.own (names.map .str) 0),(5,.pv (vI bs.length)),(21,.pv (.bool false))],[(1,pC ds bs),(2,[.pv (vI 0),.pv (vI 0)])],[],[names.length]⟩)) ∨
 (F.1≠0∧∃(T:aG),r=some (.ret,⟨[(2,.au 2 0)],[(2,[.pv (vI F.1),.pv (vI F.2)])],[],T⟩))
theorem VI{ds:List Dt}(hS:Sm ds)(hc:∀d∈ds,Sm d.cons){Q:Nat}(hQ:Q≤1000){bs:List Bd}(hl:bs.length≤1000)(ho:∀b∈bs,rJ Q b):∀(n i:Nat),bs.length-i=n→i≤bs.length→∀(names:List bX),names.length=i →
   Td ds bs (lQ ds (bs.drop i) names) (cl AP g353L0 ⟨[(1,.au 1 0),(2,.au 2 0),(4,.own (names.map .str) 0),(5,.pv (vI i))],[(1,pC ds bs),(2,[.pv (vI 0),.pv (vI 0)])],[],[names.length]⟩)
 |0,i,hn,hi,names,hnl=>by
   have:i=bs.length:=by omega
   subst this;left;refine⟨by simp[lQ],names,?_⟩;rw[g353L0e];simp[g353B0,pC]
 |n+1,i,hn,hi,names,hnl=>by
   have hi:i<bs.length:=(by omega);obtain⟨b,hb⟩:=aP hi;have B:=ho b (aQ hb);obtain⟨s1,_⟩:=oF (t:=b.sig);have hsn:=B.sn
   have hnn:(ct b.sig).length≤90:=by
     have:=nD (l:=b.sig.eQ) (out:=[]);simp at this;unfold ct;omega
   have k1:=c364 (s:=names) (by unfold Sm;omega) (y:=b.name);have k2:=c196 (S:=b.sig.eQ) (by omega) B.so (fun y hy=>hy);have k3:=c186 hS (l:=ct b.sig) (by unfold Sm;omega) B.so B.sw;have hsl:(mV b names).length≤1001:=by unfold mV;split<;>(try simp)<;>omega
   have k5:=c366 hS hc Q B.sc B.h (mV b names) (by omega);have b1:names.length*16≤140737488355328:=(by omega);have b2:(names.length+1)*16≤140737488355328:=(by omega);have hz0:∀{f:vp},f=b.body.cr ds (mV b names)→f.1=0→f=(0,0):=fun h h0=>by rw[h]at h0⊢;exact BG h0
   rw[bl hb,lQ];by_cases q1:b.name∈names
   ·rw[if_pos q1];rw[decide_eq_true q1]at k1;right;refine⟨by simp,[names.length],?_⟩;have k6:=c365 (a:=6) (b:=b.pos);simp at k1 k6;rw[g353L0e];simp (disch:=omega) [-getElem?_pos,g353B0,pC,hb,hi,k1,k6]
   · rw[if_neg q1];rw[decide_eq_false q1]at k1;by_cases q2:vv ds b=0
     · have q2':¬vv ds b≠0:=fun h=>h q2;rw[if_neg q2'];by_cases q3:(b.body.cr ds (mV b names)).1=0
       · have q3':¬(b.body.cr ds (mV b names)).1≠0:=fun h=>h q3;rw[if_neg q3'];have ih:=VI hS hc hQ hl ho n (i+1) (by omega) (by omega) (names++[b.name]) (by simp;omega)
         have e1:cl AP g353L0 ⟨[(1,.au 1 0),(2,.au 2 0),(4,.own (names.map .str) 0),(5,.pv (vI i))],[(1,pC ds bs),(2,[.pv (vI 0),.pv (vI 0)])],[],[names.length]⟩=cl AP g353L0 ⟨[(1,.au 1 0),(2,.au 2 0),(4,.own ((names++[b.name]).map .str) 0),(5,.pv (vI (i+1:Nat)))],[(1,pC ds bs),(2,[.pv (vI 0),.pv (vI 0)])],[],[(names++[b.name]).length]⟩:=by
           have f0:=hz0 rfl q3;rw[f0]at k5;unfold mV at k5;unfold vv at q2;conv=>lhs;rw[g353L0e]
           simp at k1 k2 k3;by_cases z:names=[]
           ·subst z;simp at k1;cases hg:b.sg<;>cases hr:b.rc<;>simp[hg]at q2<;>simp[hr]at k5<;>simp (disch:=omega) [-getElem?_pos,g353B0,pC,hb,hi,k1,k2,k3,k5,hg,hr,q2,aq,b1,b2]<;>(rw[g353L0e];conv=>rhs;rw[g353L0e])<;>simp
           ·cases hg:b.sg<;>cases hr:b.rc<;>simp[hg]at q2<;>simp[hr]at k5<;>simp (disch:=omega) [-getElem?_pos,g353B0,pC,hb,hi,k1,k2,k3,k5,hg,hr,q2,aq,b1,b2,z]<;>(rw[g353L0e];conv=>rhs;rw[g353L0e])<;>simp
         rw[e1];exact ih
       · rw[if_pos q3];right;refine⟨q3,?_⟩;generalize hF:b.body.cr ds (mV b names)=F at *;unfold mV at k5;unfold vv at q2;simp at k1 k2 k3;by_cases z:names=[]
         ·subst z;simp at k1;cases hg:b.sg<;>cases hr:b.rc<;>simp[hg]at q2<;>simp[hr]at k5<;>(rw[g353L0e];simp (disch:=omega) [-getElem?_pos,g353B0,pC,hb,hi,k1,k2,k3,k5,hg,hr,q2,q3,aq,b1,b2])
         ·cases hg:b.sg<;>cases hr:b.rc<;>simp[hg]at q2<;>simp[hr]at k5<;>(rw[g353L0e];simp (disch:=omega) [-getElem?_pos,g353B0,pC,hb,hi,k1,k2,k3,k5,hg,hr,q2,q3,aq,b1,b2,z])
     · rw[if_pos q2];right;refine⟨q2,[names.length],?_⟩
       have hg:b.sg=true:=by
         cases hg:b.sg with
         |true=>rfl
         |false=>simp[vv,hg]at q2
       have k6:=c365 (a:=vv ds b) (b:=b.pos);simp[vv,hg]at q2 k6;simp[vv,hg];simp at k1 k2 k3;rw[g353L0e];simp (disch:=omega) [-getElem?_pos,g353B0,pC,hb,hi,k1,k2,k3,k6,hg,q2]
theorem c353{Q:Nat}(hQ:Q≤1000){ds:List Dt}{bs:List Bd}(P:VH Q ds bs):(aF AP).p 353 [.agg [.aw (ds.map Dt.pv),.aw (bs.map Bd.pv)]]=some [fP (wW ds bs)]:=by
 have hs:=P.d.small;have k1:=c189 hs.num hs.par hs.kr hs.Xa hs.WE;rw[ah (af:=g353) rfl rfl (by decide)];unfold wW;by_cases q:(check ds).1=0
 · have q':¬(check ds).1≠0:=fun h=>h q;rw[if_neg q'];rcases VI hs.num hs.kr hQ P.len P.ok _ 0 rfl (by omega) [] rfl with⟨h0,names,h⟩|⟨h0,T,h⟩
   ·rw[List.drop_zero]at h0;rw[h0];rw[g353L0e]at h;simp[pC]at h;simp[g353,k1,q,g353L0e,h]
   ·rw[List.drop_zero]at h0 h;generalize lQ ds bs []=F at *;rw[g353L0e]at h;simp[pC]at h;simp[g353,k1,q,g353L0e,h]
 ·rw[if_pos q];simp[g353,k1,q]
theorem Ext.Xv{s s':List Sl}(h:Ext s s'){v:Int}(hv:ky s v):ky s' v:=by
 obtain⟨k,x,rfl,hx,hb⟩:=hv;obtain⟨y,hy,hyb,_⟩:=h.bd k x hx hb;exact⟨k,y,rfl,hy,hyb⟩
theorem Ext.yA{s s':List Sl}(h:Ext s s'){i v:Int}(e:Edge s i v):Edge s' i v:=by
 obtain⟨k,x,rfl,hx,hb,ho⟩:=e;obtain⟨y,hy,hyb,ht⟩:=h.bd k x hx hb;exact⟨k,y,rfl,hy,hyb,by rw[ht];exact ho⟩
theorem Ext.Xw{s s':List Sl}(h:Ext s s'){i v:Int}(r:rY s i v):rY s' i v:=by
 induction r with
 |refl=>exact .refl _
 |step e _ ih=>exact .step (h.yA e) ih
theorem Ext.split{s s':List Sl}(h:Ext s s'){o w:Int}(r:rY s' o w):¬ky s' w→∃x,rY s o x∧¬ky s x∧rY s' x w:=by
 induction r with
 |refl i=>exact fun hw=>⟨i,.refl _,fun hb=>hw (h.Xv hb),.refl _⟩
 | @step i j k e r ih=>
   intro hw;by_cases hb:ky s i
   · obtain⟨x,h1,h2,h3⟩:=ih hw;obtain⟨q,y,e1,hy,hyb⟩:=hb;obtain⟨q',y',e1',hy',_,ho⟩:=e;have:q'=q:=by omega
     subst this;obtain⟨z,hz,_,ht⟩:=h.bd _ y hy hyb;rw[hz]at hy';cases hy';exact⟨x,.step ⟨_,y,e1,hy,hyb,by rw[←ht];exact ho⟩ h1,h2,h3⟩
   ·exact⟨i,.refl _,hb,.step e r⟩
def Fq(m:Mc)(t:Ty):Prop:=∀w,RT m.s.sl t w→¬ky m.s.sl w→∃u∈aW m.rc,RT m.s.sl u w
theorem uy(a b:List Ho):aW (a++b)=aW a++aW b:=by simp[aW]
theorem Fq.step{H:Prop}{m m':Mc}{n n' a r:Nat}{t:Ty}(h:Fq m t)(s:Step H m n a r m' n'):Fq m' t:=by
 rintro w ⟨o,ho,hr⟩ hw
 obtain⟨x,h1,h2,h3⟩:=s.ext.split hr hw;obtain⟨u,hu,p,hp,hq⟩:=h x ⟨o,ho,h1⟩ h2;obtain⟨rs,hs,e1,_⟩:=s.lP;exact⟨u,by rw[e1,uy];simp[hu],p,hp,(s.ext.Xw hq).trans h3⟩
theorem P1.own{m:Mc}{F:Nat}{env:List En}{c:Sc}(h:P1 m F env c)(he:∀x∈env,Fq m x.sc.ty):Fq m c.ty:=by
 rintro w ⟨o,ho,hr⟩ hw
 obtain⟨h1,h2⟩:=h o ho;have:=mL hr h1;subst this;rcases h2 with⟨x,hx,h2⟩|⟨u,hu,h2⟩
 ·exact he x (gN env x hx) w h2 hw
 ·refine⟨u,?_,h2⟩;rw[←List.take_append_drop F m.rc,uy];simp[hu]
structure Bv where
 gen:List Int
 d:Dv
def Bv.pv(b:Bv):PV:=.agg (.aw (b.gen.map vI)::b.d.cells)
@[simp] theorem Bv.jD(b:Bv):b.pv=.agg [.aw (b.gen.map vI),.int .i64 b.d.ty.kind,.str b.d.ty.name,.int .i64 b.d.ty.id,.int .i64 b.d.ty.home,.aw (b.d.ty.args.map Ty.pv),.aw (b.d.inst.map Ty.pv),.aw (b.d.gen.map vI),.aw (b.d.kids.map Dv.pv)]:=by rw[Bv.pv,Dv.aS]
theorem VJ:El Bv.pv 9 true:=⟨fun _=>by simp,fun _=>by simp⟩
@[simp] theorem TW{l:List Bv}:a_ 9 (l.map Bv.pv)=true:=VJ.head l
def pG(l:List Bd):Nat:=(l.map fun b=>b.body.sz).sum
theorem P2{l:List Bd}(h:∀b∈l,b.body.sz≤700):pG l≤l.length*700:=jF h
structure WN(ds:List Dt)(H:Prop)(b:Bd):Prop where
 so:b.sig.Ok
 sk:b.sig.Kn KT
 sn:b.sig.nodes.length≤90
 inf:iO ds H b.body
def rK(z:Bool)(env:List En):AV:=if z then .own [] 0 else .pv (.aw (env.map En.pv))
def rL(z:Bool):aG:=if z then [0] else []
def jG(ds:List Dt)(bs:List Bd)(z:Bool)(env:List En)(cs:List Sc)(dv:List Bv)(i:Nat)(m:Mc):St:=⟨[(1,.au 1 0),(5,.au 5 0),(7,.aM 0 0),(8,rK z env),(9,.own (cs.map As.pv) (if z then 1 else 0)),(10,.own (dv.map Bv.pv) (if z then 2 else 1)),(11,.pv (vI i))],[(1,pC ds bs),(5,[.pv (vI 0),.pv (vI 0)])],[some (m.cx (if z then 3 else 2))],rL z++[cs.length,dv.length,m.rc.length,m.hd.length]⟩
structure vw(H:Prop)(m:Mc)(n:Nat)(env:List En)(cs:List Sc):Prop where
 B8:∀c∈cs,iN n c∧Fq m c.ty
 own:∀x∈env,Fq m x.sc.ty
 len:m.hd.length=m.rc.length
 hf:H→∀b∈m.hd,b=false
theorem vw.step{H:Prop}{m m':Mc}{n n' a r:Nat}{env:List En}{cs:List Sc}(h:vw H m n env cs)(s:Step H m n a r m' n'):vw H m' n' env cs:=by
 obtain⟨rs,hs,e1,e2,_,e4,_,e6⟩:=s.lP;refine⟨fun c hc=>⟨(h.B8 c hc).1.bQ s.le,(h.B8 c hc).2.step s⟩,fun x hx=>(h.own x hx).step s,by rw[e1,e2];have:=h.len;simp;omega,fun q b hb=>?_⟩;rw[e2,List.mem_append]at hb;rcases hb with hb|hb
 ·exact h.hf q b hb
 ·exact e6 q b hb
def Nu(r:Option (aU×St)):Prop:=∃(m':Mc) (T:aG) (j:Nat),m'.err≠0∧r=some (.ret,⟨[(2,.fw),(3,.cY []),(4,.cY []),(5,.au 5 0)],[(5,[.pv (vI m'.err),.pv (vI m'.pos)])],[some (m'.cx j)],T⟩)∧T[j]?=some m'.rc.length∧T[j+1]?=some m'.hd.length
theorem VK{ds:List Dt}{H:Prop}{bs:List Bd}{b:Bd}{i:Nat}(hb:bs[i]?=some b)(B:WN ds H b){z:Bool}{env:List En}(hz:z=true→env=[]){cs:List Sc}{dv:List Bv}(hc:cs.length=i)(hd:dv.length=i)(hi:i≤100){m:Mc}{n A R E:Nat}(Rm:Room ds m n (201*b.body.sz+1+A) (b.body.sz+R) (20*b.body.sz+1+E+1) env)(Dn:vw H m n env cs) :
   Nu (cl AP g328L0 (jG ds bs z env cs dv i m)) ∨
   ∃(m':Mc) (n':Nat) (env':List En) (c:Sc) (v:Bv),cl AP g328L0 (jG ds bs z env cs dv i m)=cl AP g328L0 (jG ds bs false env' (cs++[c]) (dv++[v]) (i+1) m')∧Room ds m' n' A R E env'∧vw H m' n' env' (cs++[c]):=by
 have hel:=Rm.el;have Rh:Room ds { m with home:=i } n (201*b.body.sz+1+A) (b.body.sz+R) (20*b.body.sz+1+E+1) env:=⟨Rm.st,Rm.nb,Rm.rc,Rm.hd,Rm.lP,Rm.pE,Rm.el,Rm.ds⟩;have Dh:vw H { m with home:=i } n env cs:=⟨Dn.B8,Dn.own,Dn.len,Dn.hf⟩;obtain⟨c,gen,d,f,g,x,y,zz,w,m',n',e1,st,sc,ow⟩:=c354 B.so B.sk B.sn B.inf (i:Int) (Rh.bQ (by omega) (by omega) (by omega));have k3:=c179 (l:=env) (by unfold Sm;omega) (n:=b.name) (c:=c);have D':=Dh.step st;have oc:=ow.own D'.own;have hlt:=(List.getElem?_eq_some_iff.1 hb).1;have bc:=Ex.aS b.body;have D:=gm x y zz w d;generalize kM x y zz w d=C at *;have dc:=Dv.aS d;have hlen:=D.len;have hleaf:=D.leaf;have hfrz:=D.bR;have hflat:=D.flat;have hflo:=D.gS;have hkill:=D.kill;have b1:(i+1)*72≤140737488355328:=by omega
 have b2:(i+1)*160≤140737488355328:=by omega
 have tC:C.take 8=C:=List.take_of_length_le (by omega);unfold kg at e1;simp[Mc.sh,Mc.tk,Mc.cells,JY]at e1;by_cases he:m'.err=0
 · refine .inr ⟨m',n',env++[⟨b.name,c⟩],c,⟨gen,d⟩,?_,((Rh.step st (A':=A) (R':=R) (E':=E+1) (by omega) (by omega) (by omega)).push sc (Nat.le_refl _)),⟨?_,?_,D'.len,D'.hf⟩⟩
   · clear D st sc ow D' oc Rm Rh Dn Dh B;simp at k3;cases z with
     |true=>
       have:=hz rfl;subst this;conv=>lhs;unfold jG;rw[g328L0e]
       cases f<;>cases g<;>simp[dY]at e1<;>(try simp at k3 e1)<;>simp (disch:=omega) [-getElem?_pos,g328B0,rK,rL,pC,Mc.cx,hb,hlt,e1,he,k3,hlen,hleaf,hfrz,hflat,hflo,hkill,tC,dc,bc,b1,b2,hc,hd,aq,aE]<;>(conv=>lhs;rw[g328L0e])<;>(conv=>rhs;unfold jG;rw[g328L0e])<;>simp[rK,rL,pC,Mc.cx,hc,hd,he]
     |false=>
       conv=>lhs;unfold jG;rw[g328L0e]
       cases f<;>cases g<;>simp[dY]at e1<;>(try simp at k3 e1)<;>simp (disch:=omega) [-getElem?_pos,g328B0,rK,rL,pC,Mc.cx,hb,hlt,e1,he,k3,hlen,hleaf,hfrz,hflat,hflo,hkill,tC,dc,bc,b1,b2,hc,hd,aq,aE]<;>(conv=>lhs;rw[g328L0e])<;>(conv=>rhs;unfold jG;rw[g328L0e])<;>simp[rK,rL,pC,Mc.cx,hc,hd,he]
   · intro y hy;simp only[List.mem_append,List.mem_singleton]at hy;rcases hy with hy|rfl
     ·exact D'.B8 y hy
     ·exact⟨sc,oc⟩
   · intro y hy;simp only[List.mem_append,List.mem_singleton]at hy;rcases hy with hy|rfl
     ·exact D'.own y hy
     ·exact oc
 · have err:∃(T:aG) (j:Nat),cl AP g328L0 (jG ds bs z env cs dv i m)=some (.ret,⟨[(2,.fw),(3,.cY []),(4,.cY []),(5,.au 5 0)],[(5,[.pv (vI m'.err),.pv (vI m'.pos)])],[some (m'.cx j)],T⟩)∧T[j]?=some m'.rc.length∧T[j+1]?=some m'.hd.length:=by
     clear D st sc ow D' oc Rm Rh Dn Dh B;cases z with
     |true=>
       have:=hz rfl;subst this;unfold jG;rw[g328L0e];cases f<;>cases g<;>simp[dY]at e1<;>simp (disch:=omega) [-getElem?_pos,g328B0,rK,rL,pC,Mc.cx,hb,hlt,e1,he,hlen,hleaf,hfrz,hflat,hflo,hkill,tC,dc,bc,hc,hd,aq,aE]<;>exact⟨_,_,⟨⟨rfl,rfl⟩,rfl⟩,rfl,rfl⟩
     |false=>
       unfold jG;rw[g328L0e];cases f<;>cases g<;>simp[dY]at e1<;>simp (disch:=omega) [-getElem?_pos,g328B0,rK,rL,pC,Mc.cx,hb,hlt,e1,he,hlen,hleaf,hfrz,hflat,hflo,hkill,tC,dc,bc,hc,hd,aq,aE]<;>exact⟨_,_,⟨⟨rfl,rfl⟩,rfl⟩,rfl,rfl⟩
   obtain⟨T,j,h⟩:=err;exact .inl ⟨m',T,j,he,h⟩
theorem VL{ds:List Dt}{H:Prop}{bs:List Bd}(hbs:bs.length≤100)(hb:∀b∈bs,WN ds H b):∀(k i:Nat),bs.length-i=k→i≤bs.length→∀(z:Bool) (env:List En),(z=true→env=[])→∀(cs:List Sc) (dv:List Bv),cs.length=i→dv.length=i→∀(m:Mc) (n:Nat),Room ds m n (201*pG (bs.drop i)+k) (pG (bs.drop i)) (20*pG (bs.drop i)+2*k) env→vw H m n env cs →
   Nu (cl AP g328L0 (jG ds bs z env cs dv i m)) ∨
   ∃(m':Mc) (n':Nat) (z':Bool) (env':List En) (cs':List Sc) (dv':List Bv),(cl AP g328L0 (jG ds bs z env cs dv i m)=some (.exit 0,⟨[(1,.au 1 0),(5,.au 5 0),(7,.aM 0 0),(8,rK z' env'),(9,.own (cs'.map As.pv) (if z' then 1 else 0)),(10,.own (dv'.map Bv.pv) (if z' then 2 else 1)),(11,.pv (vI bs.length)),(29,.pv (.bool false))],[(1,pC ds bs),(5,[.pv (vI 0),.pv (vI 0)])],[some (m'.cx (if z' then 3 else 2))],rL z'++[cs'.length,dv'.length,m'.rc.length,m'.hd.length]⟩))∧cs'.length=bs.length∧dv'.length=bs.length∧Room ds m' n' 0 0 0 env'∧vw H m' n' env' cs'
 |0,i,hk,hi,z,env,hz,cs,dv,hc,hd,m,n,Rm,Dn=>by
   have:i=bs.length:=by omega
   subst this;refine .inr ⟨m,n,z,env,cs,dv,?_,hc,hd,Rm.bQ (by omega) (by omega) (by omega),Dn⟩;unfold jG;rw[g328L0e];cases z with
   |true=>
     have:=hz rfl;subst this;simp[g328B0,rK,rL,pC,Mc.cx]
   |false=>simp[g328B0,rK,rL,pC,Mc.cx]
 |k+1,i,hk,hi,z,env,hz,cs,dv,hc,hd,m,n,Rm,Dn=>by
   have hi:i<bs.length:=(by omega);obtain⟨b,hx⟩:=aP hi;have hsz:pG (bs.drop i)=b.body.sz+pG (bs.drop (i+1)):=(by rw[bl hx];simp[pG]);rw[hsz]at Rm;rcases VK hx (hb b (aQ hx)) hz hc hd (by omega) (A:=201*pG (bs.drop (i+1))+k) (R:=pG (bs.drop (i+1))) (E:=20*pG (bs.drop (i+1))+2*k) (Rm.bQ (by omega) (by omega) (by omega)) Dn with h|⟨m',n',env',c,v,e,R',D'⟩
   ·exact .inl h
   ·rw[e];exact VL hbs hb k (i+1) (by omega) hi false env' (by simp) _ _ (by simp;omega) (by simp;omega) m' n' R' D'
theorem c329{m:Mc}{n:Nat}(I:r_ n m.s)(hn:n≤1000000){t:Ty}(ht:t.Ok):∃b:Bool,kg 329 [.pv t.pv] m [.pv (.bool b)] m∧(b=false→∃r:Nat,r≤200∧Tr m.s.sl t r):=by
 obtain⟨r,k1,_,_,kT⟩:=c355 (by unfold Sm;rw[I.len];omega) I.ok (m:=200) (by omega) ht;refine⟨decide ((200:Int)<r),?_,fun h=>⟨r,by simp at h;omega,kT (by simp at h;omega)⟩⟩;unfold kg;simp at k1;rw[aB (af:=g329) rfl (by simp[g329])];simp[g329,Mc.sh,Mc.tk,Mc.cells,k1]
theorem VM{m:Mc}{n:Nat}(I:r_ n m.s)(hn:n≤1000000){l:List Ty}(hl:l.length≤2000000)(hO:∀t∈l,t.Ok):∀(k i:Nat),l.length-i=k→i≤l.length →
   (∃(T:aG) (j:Nat),cl AP g331L0 ⟨[(0,.aM 0 0),(5,.pv (.aw (l.map Ty.pv))),(6,.pv (vI i))],[],[some (m.cx 0)],[m.rc.length,m.hd.length]⟩=some (.ret,⟨[(4,.pv (.bool true))],[],[some (m.cx j)],T⟩)∧T[j]?=some m.rc.length∧T[j+1]?=some m.hd.length) ∨
   cl AP g331L0 ⟨[(0,.aM 0 0),(5,.pv (.aw (l.map Ty.pv))),(6,.pv (vI i))],[],[some (m.cx 0)],[m.rc.length,m.hd.length]⟩=some (.exit 0,⟨[(0,.aM 0 0),(5,.pv (.aw (l.map Ty.pv))),(6,.pv (vI l.length)),(13,.pv (.bool false))],[],[some (m.cx 0)],[m.rc.length,m.hd.length]⟩)∧∀t∈l.drop i,∃r:Nat,r≤200∧Tr m.s.sl t r
 |0,i,hk,hi=>by
   have:i=l.length:=by omega
   subst this;refine .inr ⟨?_,by simp⟩;rw[g331L0e];simp[g331B0,Mc.cx]
 |k+1,i,hk,hi=>by
   have hi:i<l.length:=(by omega);obtain⟨t,ht⟩:=aP hi;obtain⟨b,e,hb⟩:=c329 I hn (hO t (aQ ht));unfold kg at e;simp[Mc.sh,Mc.tk,Mc.cells]at e;cases b with
   |true=>
     refine .inl ?_;rw[g331L0e];simp (disch:=omega) [-getElem?_pos,g331B0,Mc.cx,hi,ht,e];exact⟨_,_,⟨⟨rfl,rfl⟩,rfl⟩,rfl,rfl⟩
   |false=>
     have ih:=VM I hn hl hO k (i+1) (by omega) (by omega)
     have e1:cl AP g331L0 ⟨[(0,.aM 0 0),(5,.pv (.aw (l.map Ty.pv))),(6,.pv (vI i))],[],[some (m.cx 0)],[m.rc.length,m.hd.length]⟩=cl AP g331L0 ⟨[(0,.aM 0 0),(5,.pv (.aw (l.map Ty.pv))),(6,.pv (vI (i+1:Nat)))],[],[some (m.cx 0)],[m.rc.length,m.hd.length]⟩:=by
       conv=>lhs;rw[g331L0e]
       simp (disch:=omega) [-getElem?_pos,g331B0,Mc.cx,hi,ht,e,aq];conv=>lhs;rw[g331L0e]
       conv=>rhs;rw[g331L0e]
       simp
     rw[e1];refine ih.imp_right fun h=>⟨h.1,?_⟩;rw[bl ht];intro y hy;simp only[List.mem_cons]at hy;rcases hy with rfl|hy
     ·exact hb rfl
     ·exact h.2 y hy
theorem c331{m:Mc}{n:Nat}(I:r_ n m.s)(hn:n≤1000000){h:Ho}(hr:l7 n h):∃b:Bool,kg 331 [.pv h.pv] m [.pv (.bool b)] m∧(b=false→∀u∈aW [h],∃r:Nat,r≤200∧Tr m.s.sl u r):=by
 have k:=c356 (l:=[h]) (by simp) (by simpa using (show N1 h from hr.len));have hl:=lO (l:=[h]) (by simpa using (show N1 h from hr.len));have hO:=l7.wT (l:=[h]) (by simpa using hr);have L:=VM I hn (l:=aW [h]) (by simp at hl;omega) (fun t ht=>(hO t ht).1) _ 0 rfl (by omega);rw[List.drop_zero]at L;generalize aW [h]=R at *;unfold kg;rw[g331L0e]at L;simp[Mc.cx]at L k;rcases L with⟨T,j,L,t1,t2⟩|⟨L,hT⟩
 ·refine⟨true,?_,by simp⟩;rw[aB (af:=g331) rfl (by simp[g331])];simp[g331,Mc.sh,Mc.tk,Mc.cells,k,g331L0e,L,t1,t2]
 ·refine⟨false,?_,fun _=>hT⟩;rw[aB (af:=g331) rfl (by simp[g331])];simp[g331,Mc.sh,Mc.tk,Mc.cells,k,g331L0e,L]
def shown:List Ho→List Bool→List Ho
 |h::r,b::q=>if b=true then shown r q else h::shown r q
 |_,_=>[]
theorem qi:∀{l:List Ho} {q:List Bool},∀h∈shown l q,h∈l
 |[],_,h,hh=>by simp[shown]at hh
 |x::r,[],h,hh=>by simp[shown]at hh
 |x::r,b::q,h,hh=>by
   simp only[shown]at hh;split at hh
   ·exact List.mem_cons_of_mem _ (qi h hh)
   · simp only[List.mem_cons]at hh;rcases hh with rfl|hh
     ·simp
     ·exact List.mem_cons_of_mem _ (qi h hh)
theorem wX:∀{l:List Ho} {q:List Bool},(shown l q).length≤l.length
 |[],_=>by simp[shown]
 |x::r,[]=>by simp[shown]
 |x::r,b::q=>by
   have:=wX (l:=r) (q:=q);simp only[shown];split<;>simp<;>omega
theorem wY:∀{l:List Ho} {q:List Bool},q.length=l.length→(∀b∈q,b=false)→shown l q=l
 |[],_,_,_=>by simp[shown]
 |x::r,[],h,_=>by simp at h
 |x::r,b::q,h,hq=>by
   have h1:=hq b (by simp);subst h1;simp only[shown];rw[if_neg (by simp),wY (by simpa using h) fun c hc=>hq c (by simp[hc])]
theorem Te{m:Mc}(hl:m.rc.length≤1000000)(he:m.hd.length=m.rc.length):∀(k i:Nat),m.rc.length-i=k→i≤m.rc.length→∀acc:List Ho,acc.length≤i →
   cl AP g330L0 ⟨[(0,.aM 0 0),(3,.own (acc.map Ho.pv) 0),(4,.pv (vI i))],[],[some (m.cx 1)],[acc.length,m.rc.length,m.hd.length]⟩ =
     some (.exit 0,⟨[(0,.aM 0 0),(3,.own ((acc++shown (m.rc.drop i) (m.hd.drop i)).map Ho.pv) 0),(4,.pv (vI m.rc.length)),(11,.pv (.bool false))],[],[some (m.cx 1)],[(acc++shown (m.rc.drop i) (m.hd.drop i)).length,m.rc.length,m.hd.length]⟩)
 |0,i,hk,hi,acc,ha=>by
   have:i=m.rc.length:=by omega
   subst this;rw[List.drop_length];rw[g330L0e];simp[g330B0,Mc.cx,shown]
 |k+1,i,hk,hi,acc,ha=>by
   have hi:i<m.rc.length:=(by omega);have hi2:i<m.hd.length:=(by omega);obtain⟨h,hx⟩:=aP hi;obtain⟨b,hy⟩:=aP hi2;have hb:(acc.length+1)*104≤140737488355328:=(by omega);rw[bl hx,bl hy];cases b with
   |true=>
     have ih:=Te hl he k (i+1) (by omega) (by omega) acc (by omega);rw[g330L0e]at ih⊢;simp[Mc.cx]at ih;simp (disch:=omega) [-getElem?_pos,g330B0,Mc.cx,hi,hi2,hx,hy,aq,shown];rw[g330L0e];simp[ih]
   |false=>
     have ih:=Te hl he k (i+1) (by omega) (by omega) (acc++[h]) (by simp;omega);rw[g330L0e]at ih⊢;simp[Mc.cx]at ih;simp (disch:=omega) [-getElem?_pos,g330B0,Mc.cx,hi,hi2,hx,hy,aq,shown,hb];rw[g330L0e];simp[ih]
theorem c330{m:Mc}(hl:m.rc.length≤1000000)(he:m.hd.length=m.rc.length):(aF AP).i 330 [.aM 0 0] m.sh m.tk=some ([.own ((shown m.rc m.hd).map Ho.pv) 0],[some (m.cx 1)],[(shown m.rc m.hd).length,m.rc.length,m.hd.length]):=by
 have h:=Te hl he _ 0 rfl (by omega) [] (by simp);rw[List.drop_zero,List.drop_zero,List.nil_append]at h;generalize shown m.rc m.hd=L at *;rw[g330L0e]at h;simp[Mc.cx]at h;rw[aB (af:=g330) rfl (by simp[g330])];simp[g330,Mc.sh,Mc.tk,Mc.cells,Mc.cx,g330L0e,h]
theorem VN{m:Mc}{v:List Int}(hv:v.length≤1000000):∀(k i:Nat),v.length-i=k→i≤v.length→∀acc:List As,acc.length=i →
   cl AP g357L0 ⟨[(5,.pv (.aw (v.map vI))),(6,.own (acc.map As.pv) 0),(7,.pv (vI i))],[],[some (m.cx 1)],[acc.length,m.rc.length,m.hd.length]⟩ =
     some (.exit 0,⟨[(5,.pv (.aw (v.map vI))),(6,.own ((acc++cH i (v.drop i)).map As.pv) 0),(7,.pv (vI v.length)),(17,.pv (.bool false))],[],[some (m.cx 1)],[v.length,m.rc.length,m.hd.length]⟩)
 |0,i,hk,hi,acc,ha=>by
   have:i=v.length:=by omega
   subst this;rw[List.drop_length];rw[g357L0e];simp[g357B0,Mc.cx,cH,ha]
 |k+1,i,hk,hi,acc,ha=>by
   have hi:i<v.length:=(by omega);obtain⟨x,hx⟩:=aP hi;have ih:=VN (m:=m) hv k (i+1) (by omega) (by omega) (acc++[⟨x,aK i⟩]) (by simp;omega);have k1:=c63 (n:=i);have hb:(acc.length+1)*72≤140737488355328:=(by omega);rw[bl hx];rw[g357L0e]at ih⊢;simp[Mc.cx,aK]at ih k1;simp (disch:=omega) [-getElem?_pos,g357B0,Mc.cx,hi,hx,k1,aq,cH,hb,aK];rw[g357L0e];simp[ih]
theorem c357{m:Mc}{l:List Ty}{v:List Int}(hv:v.length≤1000000)(k:(aF AP).p 372 [m.s.pv,.aw (l.map Ty.pv)]=some [.aw (v.map vI)]):(aF AP).i 357 [.aM 0 0,.pv (.aw (l.map Ty.pv))] m.sh m.tk=some ([.own ((cH 0 v).map As.pv) 0],[some (m.cx 1)],[v.length,m.rc.length,m.hd.length]):=by
 have h:=VN (m:=m) hv _ 0 rfl (by omega) [] rfl;rw[List.drop_zero,List.nil_append]at h;have hl:=fc (i:=0) (l:=v);generalize cH 0 v=L at *;rw[g357L0e]at h;simp[Mc.cx]at h k;rw[aB (af:=g357) rfl (by simp[g357])];simp[g357,Mc.sh,Mc.tk,Mc.cells,Mc.cx,k,g357L0e,h,hl]
theorem VO{m:Mc}{cs:List Sc}{hs:List Ho}(hc:cs.length≤1000):∀(k i:Nat),cs.length-i=k→i≤cs.length→∀acc:List Ty,acc.length=i →
   cl AP g332L0 ⟨[(0,.aM 0 0),(1,.pv (.aw (cs.map As.pv))),(2,.pv (.aw (hs.map Ho.pv))),(7,.own (acc.map Ty.pv) 0),(8,.pv (vI i))],[],[some (m.cx 1)],[acc.length,m.rc.length,m.hd.length]⟩ =
     some (.exit 0,⟨[(0,.aM 0 0),(1,.pv (.aw (cs.map As.pv))),(2,.pv (.aw (hs.map Ho.pv))),(7,.own ((acc++(cs.drop i).map As.ty).map Ty.pv) 0),(8,.pv (vI cs.length)),(12,.pv (.bool false))],[],[some (m.cx 1)],[cs.length,m.rc.length,m.hd.length]⟩)
 |0,i,hk,hi,acc,ha=>by
   have:i=cs.length:=by omega
   subst this;rw[g332L0e];simp[g332B0,Mc.cx,ha]
 |k+1,i,hk,hi,acc,ha=>by
   have hi:i<cs.length:=(by omega);obtain⟨x,hx⟩:=aP hi;have ih:=VO (m:=m) (hs:=hs) hc k (i+1) (by omega) (by omega) (acc++[x.ty]) (by simp;omega);have hb:(acc.length+1)*64≤140737488355328:=(by omega);rw[bl hx];rw[g332L0e]at ih⊢;simp[Mc.cx]at ih;simp (disch:=omega) [-getElem?_pos,g332B0,Mc.cx,hi,hx,aq,hb];rw[g332L0e];simp[ih]
theorem c332{m:Mc}{cs:List Sc}{hs:List Ho}(hc:cs.length≤1000)(hl:hs.length≤100000)(hb:∀h∈hs,N1 h){v:List Int}(hv:v.length≤1000000)(k:(aF AP).p 372 [m.s.pv,.aw ((cs.map As.ty++aW hs).map Ty.pv)]=some [.aw (v.map vI)]) :
   (aF AP).i 332 [.aM 0 0,.pv (.aw (cs.map As.pv)),.pv (.aw (hs.map Ho.pv))] m.sh m.tk=some ([.own ((cH 0 v).map As.pv) 0],[some (m.cx 1)],[v.length,m.rc.length,m.hd.length]):=by
 have h:=VO (m:=m) (hs:=hs) hc _ 0 rfl (by omega) [] rfl;rw[List.drop_zero,List.nil_append]at h;have k1:=c356 hl hb;have hlen:=lO hb;have hm:hs.length*1000001≤100000*1000001:=Nat.mul_le_mul_right _ hl;have k2:=c357 hv k;have cl:=fc (i:=0) (l:=v);have bb:(cs.length+(aW hs).length)*64≤140737488355328:=by omega
 have hh:=pk.head (cs.map As.ty);rw[List.map_map]at hh;rw[g332L0e]at h;generalize cH 0 v=L at *;generalize aW hs=R at *;simp[Mc.cx]at h;simp[Mc.sh,Mc.tk,Mc.cells,Mc.cx]at k1 k2;rw[aB (af:=g332) rfl (by simp[g332])];simp[g332,Mc.sh,Mc.tk,Mc.cells,Mc.cx,k1,k2,g332L0e,h,cl,bb,hh]
structure Fs(s:de)(t u:Ty):Prop where
 e:(aF AP).p 358 [s.pv,t.pv]=some [u.pv,.bool true]
 ok:u.Ok
 n:u.nodes.length≤200
 r:J9 s.sl t u
noncomputable def B9(s:de)(t:Ty):Ty:=open Classical in if h:∃u,Fs s t u then h.choose else bC
theorem Nv{s:de}{t:Ty}(hs:Sm s.sl)(hO:∀x∈s.sl,x.ty.Ok)(ht:t.Ok)(h:∃r:Nat,r≤200∧Tr s.sl t r):Fs s t (B9 s t):=by
 obtain⟨r,hr,hT⟩:=h;obtain⟨u,e,h1,h2,h3⟩:=c358y hs hO ht hT (by omega);have hx:∃u,Fs s t u:=⟨u,e,h1,by omega,h3⟩;unfold B9;rw[dif_pos hx];exact hx.choose_spec
theorem Q'{K:Int→Prop}{s:List Sl}(hs:∀x∈s,x.ty.Kw)(hK:∀k,KS k→K k):∀{m:Nat} {t:Ty},t.Kn K→(wk s m t).Kn K
 |0,t,h=>h
 |m+1,t,h=>by
   unfold wk;split
   ·rename_i x hx;obtain⟨_,i,_,hi,_⟩:=d4 hx;exact Q' hs hK ((hs x (aQ hi)).imp hK)
   ·exact h
theorem J9.kn{K:Int→Prop}{s:List Sl}(hs:∀x∈s,x.ty.Kw)(hK:∀k,KS k→K k){t u:Ty}(h:J9 s t u):t.Kn K→u.Kn K:=by
 induction h with
 | @mk t u h1 h2 h3 h4 h5 _ ih=>
   intro hk;have w:(iE s t).Kn K:=Q' hs hK hk;refine .mk (fun q=>?_) (by rw[h2];exact w.nm) fun x hx=>?_
   ·rw[h1]at q;obtain⟨a,b⟩:=w.hd q;exact⟨by rw[h1];exact a,List.length_eq_zero_iff.1 (by rw[h5,b];rfl)⟩
   ·obtain⟨i,hi⟩:=List.getElem?_of_mem hx;have hl:=(List.getElem?_eq_some_iff.1 hi).1;obtain⟨b,hb⟩:=aP (l:=(iE s t).args) (i:=i) (by omega);exact ih i b x hb hi (w.kd b (aQ hb))
structure vz(t:Ty):Prop where
 ok:t.Ok
 kn:t.Kn KV
 n:t.nodes.length≤200
noncomputable def vA(m:Mc)(v:List Int)(t:Ty):Ty:=(B9 m.s t).sub (cH 0 v)
theorem sf{v:List Int}{i:Nat}{w:Int}{x:Ty}(h:iQ (cH i v) w=some x):∃j:Nat,x=aK (i+j:Nat)∧v[j]?=some w:=by
 induction v generalizing i with
 |nil=>simp[cH,iQ]at h
 |cons a r ih=>
   simp only[cH,iQ]at h;split at h
   ·rename_i e;cases h;exact⟨0,by simp,by simp[e]⟩
   ·obtain⟨j,e1,e2⟩:=ih h;exact⟨j+1,by rw[e1];congr 1;omega,by simpa using e2⟩
theorem Gw{v:List Int}{i:Nat}{w:Int}(h:w∈v):∃x,iQ (cH i v) w=some x:=by
 induction v generalizing i with
 |nil=>cases h
 |cons a r ih=>
   simp only[cH,iQ];split
   ·exact⟨_,rfl⟩
   · rename_i e;simp only[List.mem_cons]at h;rcases h with h|h
     ·exact absurd h.symm e
     ·exact ih h
theorem uz{m:Mc}{v:List Int}{t:Ty}(hs:∀x∈m.s.sl,x.ty.Kw)(hk:t.Kn KV)(h:Fs m.s t (B9 m.s t)):vz (vA m v t) where
 ok:=yp (by intro a ha;exact Gf a ha) h.ok
 kn:=by
   refine ue (K:=KV) (h.r.kn hs MW hk) (fun k q _=>q) ?_ (.inl (by simp));intro i x hx;obtain⟨j,e,_⟩:=sf hx;rw[e];exact .bare rfl (by simp[aK]) (by simp[aK])
 n:=Nat.le_trans (Gj (fun i x hx=>by obtain⟨j,e,_⟩:=sf hx;rw[e,Ty.aL];simp[aK]) _) h.n
theorem c333{m:Mc}{v:List Int}(hv:v.length≤1000000){t:Ty}(h:Fs m.s t (B9 m.s t)):kg 333 [.pv t.pv,.pv (.aw ((cH 0 v).map As.pv))] m [N0 (vA m v t)] m:=by
 have k1:=h.e;have k2:=c46 (s:=cH 0 v) (by unfold Sm;rw[fc];omega) h.ok;unfold kg vA;generalize cH 0 v=L at *;generalize B9 m.s t=u at *;generalize u.sub L=w at *;simp at k1 k2;rw[aB (af:=g333) rfl (by simp[g333])];simp[g333,Mc.sh,Mc.tk,Mc.cells,k1,k2,N0]
noncomputable def Ft(m:Mc)(v:List Int)(x:En):En:=⟨x.name,⟨x.sc.id,vA m v x.sc.ty⟩⟩
noncomputable def pH(m:Mc)(v:List Int)(h:Ho):Ho:=⟨h.bind,h.pos,h.ctx.map (Ft m v),vA m v h.goal⟩
def uF(h:Ho):List AV:=[.pv (vI h.bind),.pv (vI h.pos),.pv (.aw (h.ctx.map En.pv)),.pv (vI h.goal.kind),.pv (.str h.goal.name),.pv (vI h.goal.id),.pv (vI h.goal.home),.pv (.aw (h.goal.args.map Ty.pv))]
def wZ(k:Nat):List AV:=[.pv (vI 0),.pv (vI 0),.own [] k,.pv (vI 0),.pv (.str []),.pv (vI 0),.pv (vI 0),.own [] (k+1)]
theorem VP{m:Mc}{v:List Int}(hv:v.length≤1000000){h:Ho}(hl:h.ctx.length≤1000000)(hr:∀x∈h.ctx,Fs m.s x.sc.ty (B9 m.s x.sc.ty)){g:Ty}:∀(k i:Nat),h.ctx.length-i=k→i≤h.ctx.length→∀acc:List En,acc.length=i →
   cl AP g334L0 ⟨[(0,.aM 0 0),(2,.pv (.aw ((cH 0 v).map As.pv))),(4,.au 4 0),(6,.au 6 0),(7,.au 7 0),(8,.pv (vI i))],[(4,uF h),(6,wZ 0),(7,[.pv (vI h.bind),.pv (vI h.pos),.own (acc.map En.pv) 2,.pv (vI g.kind),.pv (.str g.name),.pv (vI g.id),.pv (vI g.home),.pv (.aw (g.args.map Ty.pv))])],[some (m.cx 3)],[0,0,acc.length,m.rc.length,m.hd.length]⟩ =
     some (.exit 0,⟨[(0,.aM 0 0),(2,.pv (.aw ((cH 0 v).map As.pv))),(4,.au 4 0),(6,.au 6 0),(7,.au 7 0),(8,.pv (vI h.ctx.length)),(24,.pv (.bool false))],[(4,uF h),(6,wZ 0),(7,[.pv (vI h.bind),.pv (vI h.pos),.own ((acc++(h.ctx.drop i).map (Ft m v)).map En.pv) 2,.pv (vI g.kind),.pv (.str g.name),.pv (vI g.id),.pv (vI g.home),.pv (.aw (g.args.map Ty.pv))])],[some (m.cx 3)],[0,0,h.ctx.length,m.rc.length,m.hd.length]⟩)
 |0,i,hk,hi,acc,ha=>by
   have:i=h.ctx.length:=by omega
   subst this;rw[g334L0e];simp[g334B0,uF,wZ,Mc.cx,ha]
 |k+1,i,hk,hi,acc,ha=>by
   have hi:i<h.ctx.length:=(by omega);obtain⟨x,hx⟩:=aP hi;have ih:=VP hv hl hr (g:=g) k (i+1) (by omega) (by omega) (acc++[Ft m v x]) (by simp;omega);have e:=c333 hv (hr x (aQ hx));have hb:(acc.length+1)*88≤140737488355328:=(by omega);rw[bl hx];unfold kg at e;rw[g334L0e]at ih⊢;simp[Mc.sh,Mc.tk,Mc.cells,N0]at e;simp[uF,wZ,Mc.cx,Ft]at ih;generalize cH 0 v=L at *;simp (disch:=omega) [-getElem?_pos,g334B0,uF,wZ,Mc.cx,hi,hx,e,aq,hb,Ft];rw[g334L0e];simp[ih]
theorem c334{m:Mc}{v:List Int}(hv:v.length≤1000000){h:Ho}(hl:h.ctx.length≤1000000)(hr:∀x∈h.ctx,Fs m.s x.sc.ty (B9 m.s x.sc.ty))(hg:Fs m.s h.goal (B9 m.s h.goal)):kg 334 [.pv h.pv,.pv (.aw ((cH 0 v).map As.pv))] m [.agg (uF (pH m v h))] m:=by
 have e:=c333 hv hg;have L:=VP hv hl hr (g:=vA m v h.goal) _ 0 rfl (by omega) [] rfl;rw[List.drop_zero,List.nil_append]at L;unfold kg pH at *;rw[g334L0e]at L;generalize h.ctx.map (Ft m v)=E at *;generalize cH 0 v=N at *;generalize vA m v h.goal=w at *;simp[Mc.sh,Mc.tk,Mc.cells,N0]at e;simp[uF,wZ,Mc.cx]at L;rw[aB (af:=g334) rfl (by simp[g334])];simp[g334,Mc.sh,Mc.tk,Mc.cells,Mc.cx,e,g334L0e,L,uF]
end Go.Ab.Lw
