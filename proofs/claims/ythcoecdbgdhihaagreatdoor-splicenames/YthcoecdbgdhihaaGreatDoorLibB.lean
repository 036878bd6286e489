import Derived.Test.YthcoecdbgdhihaaGreatDoorLibA
/-
  The maker of programs: does an expression have a part of a kind?
  The search's reference: canonical variables.
  The search's reference: a scheme under a substitution; the beginning of a store.
  The search's reference: the beginning of a store, new variables.
  The search's reference: the beginning of a store.
  The search's reference: an element, its new variables.
  The reference's store: kinds of resolved types; a variable becomes an arrow.
  The search's reference: an element, its arguments.
  The search's reference: an element, its resolved types.
  Matching, by the program.
  Instances, by the program.
  Instances, by the reference.
  Matching, by the reference.
  Both matchings are one.
  When a closed type is general.
  The reference's Instance; the law SchemeInstances.
  The search's reference: an element.
  The search's reference: heads.
  The search's reference: the schemes of constructors; the list of heads.
  The search's reference: the list of heads, the walk.
  A tape anywhere in shared memory: the makers of types and of raw expressions.
  The law ScopeVisible.
  The maker of typed expressions: what it gives; leaves.
  The maker of typed expressions: leaves, functions, applications, annotations, held ones.
  The maker of programs: the scheme of a let is closed.
  The maker of typed expressions: lets.
  The maker of typed expressions: heads with arguments.
  The maker of typed expressions: cases.
  The maker of typed expressions: cases; all depths.
  The maker of programs: signatures.
  The maker of programs: bindings.
  The maker of programs: one binding.
  The maker of programs: the first binding; all bindings.
  The maker of programs.
  A part of an expression is replaced.
  A program is changed in one place: the walk down.
  A program is changed in one place.
  **Some**: programs, well typed or not.
  Texts of programs: declarations, and the reference's loops.
  The holes of a program: how many, and where.
  Where a hole of a program is.
  The names at a hole.
  The law ScopeVisible: all of it.
  The names at a hole: the same by both.
  The names at a hole, by the reference.
  The laws SpliceFinds and SpliceNames.
  Chapter 12's first example.
  The laws SpliceFinds and SpliceNames: the loops.
  The law SpliceNames.
-/
set_option linter.unusedVariables false
set_option linter.unusedSimpArgs false
set_option linter.unnecessarySimpa false
set_option maxRecDepth 100000
set_option maxHeartbeats 8000000
namespace Go.Ab.Lw
open Ev
theorem PL {l:List Ex} (hl:l.length≤2000) {k:Int} (IH:∀x∈l,∃b,(aP AP).p 307 [x.pv,vI k]=some [.bool b]):∀(n i:Nat),l.length-i=n→i≤l.length →
   cl AP g307L0 ⟨[(1,.pv (vI k)),(5,.pv (.aI (l.map Ex.pv))),(6,.pv (vI i))],[],[],[]⟩=some (.ret,⟨[(4,.pv (.bool true))],[],[],[]⟩) ∨
   cl AP g307L0 ⟨[(1,.pv (vI k)),(5,.pv (.aI (l.map Ex.pv))),(6,.pv (vI i))],[],[],[]⟩=some (.exit 0,⟨[(1,.pv (vI k)),(5,.pv (.aI (l.map Ex.pv))),(6,.pv (vI l.length)),(16,.pv (.bool false))],[],[],[]⟩)
 | 0,i,hn,hi=>by
   have:i=l.length:=by omega
   subst this;refine .inr ?_;rw [g307L0e];simp [g307B0]
 | n+1,i,hn,hi=>by
   have hi:i<l.length:=(by omega);obtain ⟨x,hx⟩:=bD hi;obtain ⟨b,c⟩:=IH x (bt hx);have he:=IK.len x;have ho:=IK.of x;cases b with
   | true=>
     refine .inl ?_;simp at c he ho;rw [g307L0e];simp (disch:=omega) [-getElem?_pos,g307B0,hx,hi,c,he,ho]
   | false=>
     have ih:=PL hl IH n (i+1) (by omega) (by omega)
     have e1:cl AP g307L0 ⟨[(1,.pv (vI k)),(5,.pv (.aI (l.map Ex.pv))),(6,.pv (vI i))],[],[],[]⟩=cl AP g307L0 ⟨[(1,.pv (vI k)),(5,.pv (.aI (l.map Ex.pv))),(6,.pv (vI (i+1:Nat)))],[],[],[]⟩:=by
       conv=>lhs;rw [g307L0e]
       simp at c he ho;simp (disch:=omega) [-getElem?_pos,g307B0,hx,hi,c,az,he,ho]
     rw [e1];exact ih
theorem c307 {e:Ex} (h:e.Ok) (k:Int):∃b,(aP AP).p 307 [e.pv,vI k]=some [.bool b]:=by
 induction h with
 | @mk e hk ha hv ht hc ih=>
   have k1:=c145 (Ex.Ok.mk hk ha hv ht hc);have hl:e.ch.length≤2000:=(by rw [Ex.iI];omega);have L:=PL hl ih _ 0 rfl (by omega);rw [g307L0e] at L;simp at L k1;by_cases q:e.kind=k
   · refine ⟨true,?_⟩;rw [aw (af:=g307) rfl rfl (by decide)];simp [g307,q]
   · rcases L with L | L
     · refine ⟨true,?_⟩;rw [aw (af:=g307) rfl rfl (by decide)];simp [g307,q,k1,g307L0e,L]
     · refine ⟨false,?_⟩;rw [aw (af:=g307) rfl rfl (by decide)];simp [g307,q,k1,g307L0e,L]
def gX (i:Nat):List Int→List As
 | []=>[]
 | v::r=>⟨v,cv i⟩::gX (i+1) r
theorem Je {i:Nat} {l:List Int}:(gX i l).length=l.length:=by
 induction l generalizing i with
 | nil=>rfl
 | cons a r ih=>simp [gX,ih]
theorem L2 {l:List Ty} {vs:List Int} (hv:Sm vs):∀(n i:Nat),vs.length-i=n→i≤vs.length→∀acc:List As,acc.length≤i →
   cl AP g395L0 ⟨[(0,.pv (.aI (l.map Ty.pv))),(3,.pv (.aI (vs.map vI))),(4,.own (acc.map As.pv) 0),(5,.pv (vI i))],[],[],[acc.length]⟩ =
     some (.exit 0,⟨[(0,.pv (.aI (l.map Ty.pv))),(3,.pv (.aI (vs.map vI))),(4,.own ((acc++gX i (vs.drop i)).map As.pv) 0),(5,.pv (vI vs.length)),(13,.pv (.bool false))],[],[],[(acc++gX i (vs.drop i)).length]⟩)
 | 0,i,hn,hi,acc,ha=>by
   have:i=vs.length:=by omega
   subst this;rw [g395L0e];simp [g395B0,gX]
 | n+1,i,hn,hi,acc,ha=>by
   have hi:i<vs.length:=(by omega);obtain ⟨x,hx⟩:=bD hi;unfold Sm at hv;have hb:(acc.length+1)*72≤140737488355328:=(by omega);have k:=c63 (n:=i);have ih:=L2 (l:=l) hv n (i+1) (by omega) (by omega) (acc++[As.mk x (cv i)]) (by simp;omega);rw [g395L0e] at ih ⊢;rw [cp hx];simp [cv] at ih k;simp (disch:=omega) [-getElem?_pos,g395B0,hx,hi,k,az,hb,gX,cv];rw [g395L0e];simp [ih]
theorem L3 {l:List Ty} (hl:Sm l) (hO:∀t∈l,t.Ok) {s:List As} (hs:Sm s):∀(n i:Nat),l.length-i=n→i≤l.length→∀acc:List Ty,acc.length≤i →
   cl AP g395L1 ⟨[(0,.pv (.aI (l.map Ty.pv))),(4,.own (s.map As.pv) 0),(6,.own (acc.map Ty.pv) 1),(7,.pv (vI i))],[],[],[s.length,acc.length]⟩ =
     some (.exit 2,⟨[(0,.pv (.aI (l.map Ty.pv))),(4,.own (s.map As.pv) 0),(6,.own ((acc++(l.drop i).map (Ty.sub s)).map Ty.pv) 1),(7,.pv (vI l.length)),(29,.pv (.bool false))],[],[],[s.length,(acc++(l.drop i).map (Ty.sub s)).length]⟩)
 | 0,i,hn,hi,acc,ha=>by
   have:i=l.length:=by omega
   subst this;rw [g395L1e];simp [g395B1]
 | n+1,i,hn,hi,acc,ha=>by
   have hi:i<l.length:=(by omega);obtain ⟨x,hx⟩:=bD hi;have hl':=hl;unfold Sm at hl;have hb:(acc.length+1)*64≤140737488355328:=(by omega);have k:=c46 hs (hO x (bt hx));have ih:=L3 hl' hO hs n (i+1) (by omega) (by omega) (acc++[x.sub s]) (by simp;omega);rw [g395L1e] at ih ⊢;rw [cp hx];simp at ih k;simp (disch:=omega) [-getElem?_pos,g395B1,hx,hi,k,az,hb];rw [g395L1e];simp [ih]
theorem c395i {S:List Ty} (hf:S.length<1099511627776) (hSo:∀x∈S,x.Ok) {l:List Ty} (hl:Sm l) (hG:∀t∈l,Good S t):(aP AP).i 395 [.pv (.aI (l.map Ty.pv))] [] []=some ([.own ((l.map (Ty.sub (gX 0 (vars l)))).map Ty.pv) 0],[],[l.length]):=by
 have k1:=Cb hf hSo hl hG;have hv:=zm hf hG;have h1:=L2 (l:=l) hv _ 0 rfl (by omega) [] (by simp);have hs:Sm (gX 0 (vars l)):=by unfold Sm at *;rw [Je];exact hv
 have h2:=L3 hl (fun t ht=>(hG t ht).ok) hs _ 0 rfl (by omega) [] (by simp);generalize vars l=vs at *;rw [g395L0e] at h1;rw [g395L1e] at h2;simp at h1 h2 k1;generalize gX 0 vs=s at *;rw [aR (af:=g395) rfl (by simp [g395])];simp [g395,k1,g395L0e,h1,g395L1e,h2]
theorem c377 {s:List As} (hs:Sm s) {c:Sc} (hO:c.ty.Ok):(aP AP).p 377 [.aI (s.map As.pv),c.pv]=some [(As.mk c.id (c.ty.sub s)).pv]:=by
 have k:=c22 hs hO;generalize c.ty.sub s=u at *;simp at k;rw [aw (af:=g377) rfl rfl (by decide)];simp [g377,k]
theorem L4 {l:List En} (hl:Sm l) {g:Ty} {b:PV}:∀(n i:Nat),l.length-i=n→i≤l.length→∀acc:List Ty,acc.length≤i →
   cl AP g376L0 ⟨[(2,.pv b),(3,.aG 3 0),(6,.aG 6 0),(8,.own (acc.map Ty.pv) 0),(9,.pv (.aI (l.map En.pv))),(10,.pv (vI i))],[(3,tC g),(6,[.own [] 1,.own [] 2])],[],[acc.length,0,0]⟩ =
     some (.exit 0,⟨[(2,.pv b),(3,.aG 3 0),(6,.aG 6 0),(8,.own ((acc++(l.drop i).map fun x=>x.sc.ty).map Ty.pv) 0),(9,.pv (.aI (l.map En.pv))),(10,.pv (vI l.length)),(21,.pv (.bool false))],[(3,tC g),(6,[.own [] 1,.own [] 2])],[],[(acc++(l.drop i).map fun x=>x.sc.ty).length,0,0]⟩)
 | 0,i,hn,hi,acc,ha=>by
   have:i=l.length:=by omega
   subst this;rw [g376L0e];simp [g376B0,tC]
 | n+1,i,hn,hi,acc,ha=>by
   have hi:i<l.length:=(by omega);obtain ⟨x,hx⟩:=bD hi;unfold Sm at hl;have hb:(acc.length+1)*64≤140737488355328:=(by omega);have ih:=L4 (g:=g) (b:=b) hl n (i+1) (by omega) (by omega) (acc++[x.sc.ty]) (by simp;omega);rw [g376L0e] at ih ⊢;rw [cp hx];simp [tC] at ih;simp (disch:=omega) [-getElem?_pos,g376B0,tC,hx,hi,az,hb];rw [g376L0e];simp [ih]
def tM:Nat→d8
 | 0=>⟨[],[]⟩
 | i+1=>dB (tM i) 1000000 false
theorem Jf:∀i,ub (tM i).sl=i
 | 0=>rfl
 | i+1=>by
   have:=Jf i;simp only [ub] at this;simp [tM,dB,ub,List.countP_append,this]
theorem wD:∀i,Inv i (i*i+4*i) (eK i) (tM i)
 | 0=>⟨rfl,by simp [tM,ub],by simp [tM],by simp [tM],⟨fun _=>0,by rintro i v ⟨k,x,_,h,_⟩;simp [tM] at h⟩,by simp [tM]⟩
 | i+1=>by
   have I:=wD i;refine uF I 1000000 false ?_;rw [Jf];have:(i+1)*(i+1)=i*i+2*i+1:=(by rw [Nat.add_mul,Nat.mul_add];omega);omega
theorem L5 {vs:List Int} (hv:vs.length≤5000):∀(n i:Nat),vs.length-i=n→i≤vs.length→∀acc:List As,acc.length≤i →
   cl AP g376L1 ⟨[(2,.pv (.aI [])),(6,.aG 6 0),(11,.pv (.aI (vs.map vI))),(12,.aG 12 0),(13,.own (acc.map As.pv) 0),(14,.pv (vI i))],[(6,[.own [] 1,.own [] 2]),(12,sC (tM i))],[],[acc.length,0,0]⟩ =
     some (.exit 2,⟨[(2,.pv (.aI [])),(6,.aG 6 0),(11,.pv (.aI (vs.map vI))),(12,.aG 12 0),(13,.own ((acc++gX i (vs.drop i)).map As.pv) 0),(14,.pv (vI vs.length)),(42,.pv (.bool false))],[(6,[.own [] 1,.own [] 2]),(12,sC (tM vs.length))],[],[(acc++gX i (vs.drop i)).length,0,0]⟩)
 | 0,i,hn,hi,acc,ha=>by
   have:i=vs.length:=by omega
   subst this;rw [g376L1e];simp [g376B1,sC,gX]
 | n+1,i,hn,hi,acc,ha=>by
   have hi:i<vs.length:=(by omega);obtain ⟨x,hx⟩:=bD hi;have hb:(acc.length+1)*72≤140737488355328:=(by omega);have k0:=c95 (s:=[]) (by simp [Sm]) (y:=x);have I:=wD i;have hq:i*i≤5000*5000:=Nat.mul_le_mul (by omega) (by omega);have k:=c381 I.JC (by omega) (by omega) 1000000 false;rw [I.len] at k;have ih:=L5 hv n (i+1) (by omega) (by omega) (acc++[As.mk x (cv i)]) (by simp;omega);simp only [tM] at ih;generalize dB (tM i) 1000000 false=s1 at *;generalize tM i=s0 at *;rw [g376L1e] at ih ⊢;rw [cp hx];simp [cv] at k;simp [sC,cv] at ih;simp at k0;simp (disch:=omega) [-getElem?_pos,g376B1,sC,hx,hi,k,k0,az,hb,gX,cv];rw [g376L1e];simp [ih]
theorem c376 {S:List Ty} (hf:S.length≤5000) (hSo:∀x∈S,x.Ok) {g:Ty} (hg:Good S g) {l:List En} (hl:Sm l) (hl2:l.length<1000000) (hG:∀x∈l,Good S x.sc.ty):∃vs:List Int,vs=vars (g::(dM l).map fun x=>x.sc.ty)∧vs.length≤5000 ∧
   (aP AP).p 376 [g.pv,.aI (l.map En.pv),.aI []]=some [(tM vs.length).pv,.aI ((gX 0 vs).map As.pv)]:=by
 have hsl:=sD l;have k1:=c201 hl
 have hG2:∀t∈(g::(dM l).map fun x=>x.sc.ty),Good S t:=by
   intro t ht;simp only [List.mem_cons,List.mem_map] at ht;rcases ht with rfl | ⟨x,hx,rfl⟩
   · exact hg
   · exact hG x (lO l x hx)
 have hs:Sm (dM l):=by unfold Sm at *;omega
 have h1:=L4 hs (g:=g) (b:=.aI []) _ 0 rfl (by omega) [] (by simp);have k2:=Cb (by omega) hSo (l:=g::(dM l).map fun x=>x.sc.ty) (by unfold Sm at *;simp;omega) hG2
 have hv:(vars (g::(dM l).map fun x=>x.sc.ty)).length≤5000:=by
   have c0:kX (S.map Ty.id) []:=sA (by simp;omega)
   have c1:=c0.fold (l:=(g::(dM l).map fun x=>x.sc.ty).flatMap Ty.nodes) (by
     intro x hx hk;simp only [List.mem_flatMap] at hx;obtain ⟨t,ht,hx⟩:=hx;exact List.mem_map_of_mem ((hG2 t ht).sub x (uD (hG2 t ht).wf x hx hk)))
   have:=gH c1.nodup c1.sub;rw [List.length_map] at this;unfold vars;omega
 refine ⟨_,rfl,hv,?_⟩;generalize vars (g::(dM l).map fun x=>x.sc.ty)=vs at *;have h2:=L5 hv _ 0 rfl (by omega) [] (by simp);have k3:=c388;have hb:(1+(dM l).length)*64≤140737488355328:=by omega
 rw [g376L0e] at h1;rw [g376L1e] at h2;generalize tM vs.length=s2 at *;simp [tC] at h1;simp [tM,sC] at h2;have hh:=CU.head ((dM l).map fun x=>x.sc.ty);generalize dM l=E at *;simp at k1 k2 k3 hh;rw [aw (af:=g376) rfl rfl (by decide)];by_cases hE:E=[]
 · subst hE;simp at h1 k1 k2;simp (disch:=omega) [g376,k1,g376L0e,h1,hb,hh,k2,k3,g376L1e,h2]
 · simp (disch:=omega) [g376,k1,g376L0e,h1,hb,hh,hE,k2,k3,g376L1e,h2]
def oo (s:d8):Nat→d8
 | 0=>s
 | i+1=>dB (oo s i) 1000000 false
theorem L6 {s:List Sl}:ub s≤s.length:=List.countP_le_length
theorem mu {n M:Nat} {s:d8} (I:Inv n M (eK n) s):∀i,Inv (n+i) (M+i*(2*(n+i)+4)) (eK (n+i)) (oo s i)
 | 0=>by simpa [oo] using I
 | i+1=>by
   have J:=mu I i;have hu:ub (oo s i).sl≤n+i:=by have:=L6 (s:=(oo s i).sl);rw [J.len] at this;exact this
   refine uF J 1000000 false ?_
   have:(i+1)*(2*(n+(i+1))+4)=i*(2*(n+i)+4)+i*2+(2*(n+(i+1))+4):=by
     rw [Nat.add_mul,Nat.one_mul,show 2*(n+(i+1))+4=(2*(n+i)+4)+2 by omega,Nat.mul_add]
   omega
def zo (c:Sc):List AV:=[.pv (vI c.id),.pv (vI c.ty.kind),.pv (.str c.ty.name),.pv (vI c.ty.id),.pv (vI c.ty.home),.pv (.aI (c.ty.args.map Ty.pv))]
theorem L7 {n M:Nat} {s:d8} (I:Inv n M (eK n) s) {c:Sc} {K:Nat} (hc:c.id=K) (hN:n+K≤10000) (hM:M≤1000000) {g:Ty} {p3:PV} {p4:PV}:∀(k i:Nat),K-i=k→i≤K→∀acc:List Ty,acc.length=i →
   cl AP g389L0 ⟨[(3,.pv p3),(4,.pv p4),(5,.aG 5 0),(6,.aG 6 0),(7,.aG 7 0),(13,.own (acc.map Ty.pv) 0),(14,.pv (vI i))],[(5,sC (oo s i)),(6,zo c),(7,tC g)],[],[acc.length]⟩ =
     some (.exit 0,⟨[(3,.pv p3),(4,.pv p4),(5,.aG 5 0),(6,.aG 6 0),(7,.aG 7 0),(13,.own ((acc++(List.range' i (K-i)).map fun j=>cv (n+j:Nat)).map Ty.pv) 0),(14,.pv (vI K)),(39,.pv (.bool false))],[(5,sC (oo s K)),(6,zo c),(7,tC g)],[],[K]⟩)
 | 0,i,hk,hi,acc,ha=>by
   have:i=K:=by omega
   subst this;rw [g389L0e];simp [g389B0,sC,zo,tC,hc,ha]
 | k+1,i,hk,hi,acc,ha=>by
   have hi:i<K:=(by omega);have J:=mu I i;have hq:i*(2*(n+i)+4)≤10000*20004:=Nat.mul_le_mul (by omega) (by omega);have c1:=c381 J.JC (by omega) (by omega) 1000000 false;rw [J.len] at c1;have ih:=L7 I hc hN hM (g:=g) (p3:=p3) (p4:=p4) k (i+1) (by omega) (by omega) (acc++[cv (n+i:Nat)]) (by simp;omega)
   have hr:List.range' i (K-i)=i::List.range' (i+1) (K-(i+1)):=by
     rw [show K-i=(K-(i+1))+1 by omega,List.range'_succ]
   have hb:(acc.length+1)*64≤140737488355328:=(by omega);simp only [oo] at ih;rw [hr];generalize dB (oo s i) 1000000 false=s1 at *;generalize oo s i=s0 at *;rw [g389L0e] at ih ⊢;simp [cv] at c1;simp [sC,zo,tC,cv,hc] at ih;simp (disch:=omega) [-getElem?_pos,g389B0,sC,zo,tC,hc,hi,c1,az,hb,cv];rw [g389L0e];simp [ih]
def zp (t:Ty):Prop:=t.Ok∧t.Kw
theorem L8 {s:d8} {x:Ty} (hx:x.Ok) {ns:List Nat} (hns:ns.length=x.args.length) (IH:∀(i:Nat) a n,x.args[i]?=some a→ns[i]?=some n→∃u:Ty,(aP AP).p 373 [s.pv,a.pv]=some [u.pv]∧zp u∧u.nodes.length=n):∀(k i:Nat),x.args.length-i=k→i≤x.args.length→∀acc:List Ty,acc.length=i→(∀u∈acc,zp u)→(acc.flatMap Ty.nodes).length=(ns.take i).sum→∃us:List Ty,
   cl AP g373L0 ⟨[(2,.aG 2 0),(3,.aG 3 0),(4,.aG 4 0),(5,.aG 5 0),(6,.pv (vI i))],[(2,sC s),(3,tC x),(4,zC 0),(5,uC x acc 1)],[],[0,acc.length]⟩ =
     some (.exit 0,⟨[(2,.aG 2 0),(3,.aG 3 0),(4,.aG 4 0),(5,.aG 5 0),(6,.pv (vI x.args.length)),(16,.pv (.bool false))],[(2,sC s),(3,tC x),(4,zC 0),(5,uC x us 1)],[],[0,us.length]⟩)∧us.length=x.args.length∧(∀u∈us,zp u)∧(us.flatMap Ty.nodes).length=ns.sum
 | 0,i,hk,hi,acc,ha,hu,hc=>by
   have:i=x.args.length:=by omega
   subst this;refine ⟨acc,?_,ha,hu,by rw [hc,←hns,List.take_length]⟩;rw [g373L0e];simp [g373B0,sC,tC,zC,uC]
 | k+1,i,hk,hi,acc,ha,hu,hc=>by
   have hi:i<x.args.length:=(by omega);obtain ⟨a,hax⟩:=bD hi;obtain ⟨n,hn⟩:=bD (l:=ns) (i:=i) (by omega);have hsm:=hx.sm;unfold Sm at hsm;obtain ⟨u,e,hO,hnn⟩:=IH i a n hax hn
   obtain ⟨us,e',h1,h2,h3⟩:=L8 hx hns IH k (i+1) (by omega) (by omega) (acc++[u]) (by simp;omega) (by
     intro y hy;simp at hy;rcases hy with hy | rfl
     · exact hu y hy
     · exact hO) (by rw [List.take_add_one,hn,List.flatMap_append,List.length_append,hc];simp [hnn])
   refine ⟨us,?_,h1,h2,h3⟩;have hb:(acc.length+1)*64≤140737488355328:=by omega
   rw [g373L0e] at e' ⊢;simp at e;simp [sC,tC,zC,uC] at e';simp (disch:=omega) [-getElem?_pos,g373B0,sC,tC,zC,uC,hi,hax,az,e,hb];rw [g373L0e];simp [e']
theorem c373k {s:d8} (hs:Sm s.sl) (hO:∀x∈s.sl,x.ty.Ok) (hW:∀x∈s.sl,x.ty.Kw) (r:Nat):∀t:Ty,Tr s.sl t r→zp t→∃u:Ty,(aP AP).p 373 [s.pv,t.pv]=some [u.pv]∧zp u∧u.nodes.length=r:=by
 induction r using Nat.strongRecOn with
 | ind r ih=>
   intro t ht hto;have k:=c386 hs (t:=t);have hw:(wk s.sl (s.sl.length+1) t).Ok:=lS hO hto.1;have hk:(wk s.sl (s.sl.length+1) t).Kw:=oj hW hto.2;obtain ⟨ns,hn,hr⟩:=ht.inv;unfold kE at hn
   obtain ⟨us,e,h1,h2,h3⟩:=L8 (s:=s) hw hn.1 (fun i a n hi hni=>by
     have:=wx hni;exact ih n (by omega) a (hn.2 i a n hi hni) ⟨hw.g_ a (bt hi),hk.g_ a (bt hi)⟩) _ 0 rfl (by omega) [] rfl (by simp) rfl
   refine ⟨⟨(wk s.sl (s.sl.length+1) t).kind,(wk s.sl (s.sl.length+1) t).name,(wk s.sl (s.sl.length+1) t).id,(wk s.sl (s.sl.length+1) t).home,us⟩,?_,⟨⟨by have:=hw.sm;unfold Sm at *;simp only;omega,fun y hy=>(h2 y hy).1⟩,.mk (fun q=>?_) hk.nm fun y hy=>(h2 y hy).2⟩,by rw [Ty.bh];simp only [List.length_cons];omega⟩
   · rw [aw (af:=g373) rfl rfl (by decide)];rw [g373L0e] at e;generalize wk s.sl (s.sl.length+1) t=x at *;simp at k;simp [sC,tC,zC,uC] at e;simp [g373,k,g373L0e,e]
   · have:=hk.hd q;refine ⟨this.1,?_⟩;rw [this.2] at h1;exact List.length_eq_zero_iff.1 h1
theorem Nw:bW.Kw:=.bare rfl (by simp [bW]) (by simp [bW])
theorem c358k {s:d8} (hs:Sm s.sl) (hO:∀x∈s.sl,x.ty.Ok) (hW:∀x∈s.sl,x.ty.Kw) {t:Ty} (ht:zp t):∃(u:Ty) (b:Bool),(aP AP).p 358 [s.pv,t.pv]=some [u.pv,.bool b]∧zp u∧u.nodes.length≤4000:=by
 obtain ⟨r,e,h1,h2,h3⟩:=c355 hs hO (m:=4000) (by omega) ht.1;simp at e;by_cases hr:r≤4000
 · obtain ⟨u,e2,hu,hnu⟩:=c373k hs hO hW r t (h3 hr) ht;refine ⟨u,true,?_,hu,by omega⟩;simp at e2;have hr':¬(4000:Int)<r:=by omega
   rw [aw (af:=g358) rfl rfl (by decide)];simp [g358,e,hr',e2]
 · refine ⟨bW,false,?_,⟨da rfl,Nw⟩,by rw [Ty.bh];simp [bW]⟩;have hr':(4000:Int)<r:=by omega
   rw [aw (af:=g358) rfl rfl (by decide)];simp [g358,e,hr',bW]
def mD (n:Nat):Ty:=⟨4,[45,62],0,0,[cv n,cv (n+1:Nat)]⟩
theorem sT {n:Int}:(cv n).Kw:=.bare rfl (by simp [cv]) (by simp [cv])
theorem oq {S:List Int} {n:Int} (h:n∈S):Fit S (cv n):=⟨da rfl,sT,fun w ho=>by rw [jC (t:=cv n) rfl ho];exact h⟩
theorem sU {n:Nat}:Fit (eK (n+2)) (mD n) where
 ok:=⟨by simp [mD,Sm],by intro x hx;simp [mD] at hx;rcases hx with rfl | rfl<;>exact da rfl⟩
 wf:=.mk (by simp [mD]) (by simp [mD]) (by intro x hx;simp [mD] at hx;rcases hx with rfl | rfl<;>exact sT)
 mq:=by
   intro w ho;cases ho with
   | var q=>simp [mD] at q
   | arg _ ha ho=>
     simp [mD] at ha;rcases ha with rfl | rfl
     · exact (oq (S:=eK (n+2)) (eN.2 (by omega))).mq w ho
     · exact (oq (S:=eK (n+2)) (eN.2 (by omega))).mq w ho
theorem wE {s:d8} {i:Nat} {v:Sl} (h:s.sl[i]?=some v):∀k,(oo s k).sl[i]?=some v
 | 0=>h
 | k+1=>by
   have ih:=wE h k;have hl:i<(oo s k).sl.length:=by obtain ⟨h,_⟩:=List.getElem?_eq_some_iff.1 ih;exact h
   simp only [oo,dB];rw [List.getElem?_append_left hl];exact ih
theorem Cj {s:d8} {v:Int}:∀{k:Nat},o5 (oo s k).sl v→o5 s.sl v
 | 0,h=>h
 | k+1,h=>by
   obtain ⟨j,x,e,hx,hb⟩:=h;simp only [oo,dB] at hx;by_cases hl:j<(oo s k).sl.length
   · rw [List.getElem?_append_left hl] at hx;exact Cj (k:=k) ⟨j,x,e,hx,hb⟩
   · rw [List.getElem?_append_right (by omega)] at hx
     have:j-(oo s k).sl.length=0:=by
       have:=(List.getElem?_eq_some_iff.1 hx).1;simpa using this
     rw [this] at hx;simp at hx;subst hx;cases hb
theorem Nx {s:List Sl} {v:Int} (h:o5 s v):v<s.length:=by
 obtain ⟨k,x,e,hx,_⟩:=h;have:=(List.getElem?_eq_some_iff.1 hx).1;omega
theorem K4 {n M:Nat} {s:d8} (I:Inv n M (eK n) s) {i:Nat} {v:Sl} (hv:s.sl[i]?=some v) (hf:¬o5 s.sl (i:Int)) :
   Inv (n+2) (M+2*(2*(n+2)+4)) (eK (n+2)) (gV (oo s 2) i v ⟨true,mD n,v.home,v.base⟩):=by
 have J:=mu I 2;have h1:=wE hv 2;have fi:¬o5 (oo s 2).sl (i:Int):=fun h=>hf (Cj h)
 have hi:i<n:=by have:=(List.getElem?_eq_some_iff.1 hv).1;rw [I.len] at this;exact this
 refine (zg J (t:=mD n) h1 fi Kp.refl (by omega) h1 sU.ok sU.wf sU.mq ?_ rfl rfl).1
 rintro ⟨w,ho,hr⟩
 have hw:n≤w:=by
   cases ho with
   | var q=>simp [mD] at q
   | arg _ ha ho=>
     simp [mD] at ha;rcases ha with rfl | rfl
     · rw [jC (t:=cv n) rfl ho];simp [cv]
     · have:=jC (t:=cv ((n:Int)+1)) rfl ho;simp [cv] at this;omega
 have hnb:¬o5 (oo s 2).sl w:=fun h=>by
   have:=Nx (Cj h);rw [I.len] at this;omega
 have:=sP hr hnb;omega
theorem Fit.gW {S S':List Int} {t:Ty} (h:Fit S t) (hS:∀w∈S,w∈S'):Fit S' t:=⟨h.ok,h.wf,fun w ho=>hS w (h.mq w ho)⟩
theorem uJ {n m:Nat} (h:n≤m):∀w∈eK n,w∈eK m:=fun w hw=>by have:=eN.1 hw;exact eN.2 (by omega)
structure PM (m M:Nat) (s:d8) (t w g:Ty) (args:List Ty) (vs:List As):Prop where
 inv:Inv m M (eK m) s
 t:Fit (eK m) t
 w:Fit (eK m) w
 g:Fit (eK m) g
 args:∀a∈args,Fit (eK m) a
 vs:∀x∈vs,Fit (eK m) x.ty
theorem Fit.wk {m M:Nat} {s:d8} (I:Inv m M (eK m) s) {t:Ty} (h:Fit (eK m) t):Fit (eK m) (kE s.sl t):=⟨lS I.ok h.ok,oj I.wf h.wf,kF I.mq h.mq⟩
theorem c194a {a b:Ty}:(aP AP).p 194 [(Ty.mk 4 [45,62] 0 0 [a,b]).pv]=some [a.pv,b.pv,.bool true]:=by
 rw [aw (af:=g194) rfl rfl (by decide)];simp [g194]
theorem c194f {S:List Int} {t:Ty} (ht:Fit S t):∃(a b:Ty) (c:Bool),(aP AP).p 194 [t.pv]=some [a.pv,b.pv,.bool c]∧(c=true→t.kind=4∧Fit S a∧Fit S b):=by
 obtain ⟨a,b,c,e,_,_,h⟩:=c194g ht.ok;refine ⟨a,b,c,e,?_⟩;intro hc;have q:=h hc;have hk:t.kind=4:=by rw [q]
 have ha:a∈t.args:=by rw [q];simp
 have hb:b∈t.args:=by rw [q];simp
 have hn:t.kind≠1:=by rw [hk];decide
 exact ⟨hk,⟨ht.ok.g_ a ha,ht.wf.g_ a ha,fun w ho=>ht.mq w (.arg hn ha ho)⟩,⟨ht.ok.g_ b hb,ht.wf.g_ b hb,fun w ho=>ht.mq w (.arg hn hb ho)⟩⟩
def lY (q:aN):Option (bH×St):=some (.ret,⟨[(10,.bM []),(11,.bM []),(12,.pv (.bool false))],[],[],q⟩)
def kR (vs:List As) (N:Nat) (s:d8) (g w t:Ty) (args:List Ty):St:=⟨[(3,.pv (.aI (vs.map As.pv))),(4,.pv (vI N)),(5,.aG 5 0),(7,.aG 7 0),(16,.aG 16 0),(17,.aG 17 0),(18,.own (args.map Ty.pv) 0)],[(5,sC s),(7,tC g),(16,tC w),(17,tC t)],[],[args.length]⟩
theorem PN {m M:Nat} {s:d8} {t w g:Ty} {args:List Ty} {vs:List As} (E:PM m M s t w g args vs) (hm:m≤30000) (hM:M≤10000000) {N:Nat} (hl:args.length<N) (hN:N≤1000) :
   (∃q,cl AP g389L1 (kR vs N s g w t args)=lY q)∨∃m' M' s' t' args',m≤m'∧m'≤m+2∧M'≤M+200000∧args'.length=args.length+1∧PM m' M' s' t' w g args' vs∧cl AP g389L1 (kR vs N s g w t args)=cl AP g389L1 (kR vs N s' g w t' args'):=by
 have hsl:=E.inv.len;have hsm:Sm s.sl:=by unfold Sm;omega
 have k1:=c386 hsm (t:=t);have F:=E.t.wk E.inv;have fr:=sR E.inv.I9 (t:=t)
 change (aP AP).p 386 [s.pv,t.pv]=some [(kE s.sl t).pv] at k1
 generalize kE s.sl t=x at *;have hb:(args.length+1)*64≤140737488355328:=by omega
 have hlN:(args.length:Int)<N:=by omega
 have wk2:∀w∈eK m,w∈eK (m+2):=uJ (by omega);by_cases hk:x.kind=1
 · have Cx:=eN.1 (F.mq _ (.var hk));obtain ⟨i,hi⟩:∃i:Nat,x.id=i:=⟨x.id.toNat,by omega⟩;have him:i<m:=(by omega);have his:i<s.sl.length:=(by omega);obtain ⟨o,ho⟩:=bD his;have fi:¬o5 s.sl (i:Int):=(by rw [←hi];exact jl hk fr);cases hbs:o.base with
   | true=>
     left;obtain ⟨a,b,c,k2,h2⟩:=c194f F
     have hc:c=false:=by
       cases c with
       | false=>rfl
       | true=>have:=(h2 rfl).1;omega
     subst hc;simp [hk,hi] at k1 k2;rw [g389L1e];simp (disch:=omega) [-getElem?_pos,g389B1,kR,lY,sC,tC,hlN,k1,hk,hi,his,ho,hbs,k2]
   | false=>
     right;have J:=mu E.inv 1;have hu:ub (oo s 1).sl≤m+1:=by have:=L6 (s:=(oo s 1).sl);rw [J.len] at this;exact this
     have c1:=c381 E.inv.JC (by omega) (by omega) 1000000 false;have c2:=c381 J.JC (by omega) (by omega) 1000000 false;have J2:=mu E.inv 2;have h2:=wE ho 2;have c4:=c393 J2.JC (by omega) (by omega) h2 ⟨true,mD m,o.home,o.base⟩;have c3:=c69 (a:=cv m) (b:=cv (m+1:Nat));have c5:=c194a (a:=cv m) (b:=cv (m+1:Nat));have I:=K4 E.inv ho fi;have e1:oo s 1=dB s 1000000 false:=rfl;have e2:oo s 2=dB (dB s 1000000 false) 1000000 false:=rfl;have hl2:(oo s 2).sl.length=m+2:=J2.len;rw [hsl] at c1;rw [J.len,e1] at c2;refine ⟨m+2,M+200000,gV (oo s 2) i o ⟨true,mD m,o.home,o.base⟩,cv (m+1:Nat),args++[cv m],by omega,by omega,by omega,by simp,⟨I.gW (by omega) (fun _ h=>h),oq (eN.2 (by omega)),E.w.gW wk2,E.g.gW wk2,?_,fun x hx=>(E.vs x hx).gW wk2⟩,?_⟩
     · intro a ha;simp at ha;rcases ha with ha | rfl
       · exact (E.args a ha).gW wk2
       · exact oq (eN.2 (by omega))
     · rw [e2] at c4 h2 hl2 ⊢;generalize gV (dB (dB s 1000000 false) 1000000 false) i o ⟨true,mD m,o.home,o.base⟩=s3 at *;generalize dB (dB s 1000000 false) 1000000 false=s2 at *;generalize dB s 1000000 false=s1 at *;have hi2:i<s2.sl.length:=by omega
       simp [hk,hi] at k1;simp [cv,hbs] at c1 c2 c3 c4 c5;simp [mD,cv] at c4;conv=>lhs;rw [g389L1e]
       simp (disch:=omega) [-getElem?_pos,g389B1,kR,sC,tC,hlN,k1,hk,hi,his,ho,hbs,c1,c2,h2,hi2,c3,c4,c5,cv,hb]
 · obtain ⟨a,b,c,k2,h2⟩:=c194f F;simp at k1 k2;cases c with
   | false=>
     left;rw [g389L1e];simp (disch:=omega) [-getElem?_pos,g389B1,kR,lY,sC,tC,hlN,k1,hk,k2]
   | true=>
     right;obtain ⟨_,fa,fb⟩:=h2 rfl;refine ⟨m,M,s,b,args++[a],by omega,by omega,by omega,by simp,⟨E.inv,fb,E.w,E.g,?_,E.vs⟩,?_⟩
     · intro y hy;simp at hy;rcases hy with hy | rfl
       · exact E.args y hy
       · exact fa
     · conv=>lhs;rw [g389L1e]
       simp (disch:=omega) [-getElem?_pos,g389B1,kR,sC,tC,hlN,k1,hk,k2,hb]
theorem L9 {vs:List As} {N:Nat} (hN:N≤1000) {w g:Ty}:∀(k m M:Nat) (s:d8) (t:Ty) (args:List Ty),N-args.length=k→args.length≤N→PM m M s t w g args vs→m+2*k≤30000→M+200000*k≤10000000 →
   (∃q,cl AP g389L1 (kR vs N s g w t args)=lY q)∨∃m' M' s' t' args',m'≤30000∧M'≤10000000∧args'.length=N∧PM m' M' s' t' w g args' vs∧cl AP g389L1 (kR vs N s g w t args)=some (.exit 2,⟨[(3,.pv (.aI (vs.map As.pv))),(4,.pv (vI N)),(5,.aG 5 0),(7,.aG 7 0),(16,.aG 16 0),(17,.aG 17 0),(18,.own (args'.map Ty.pv) 0),(59,.pv (.bool false))],[(5,sC s'),(7,tC g),(16,tC w),(17,tC t')],[],[args'.length]⟩)
 | 0,m,M,s,t,args,hk,ha,E,h1,h2=>by
   have hl:args.length=N:=(by omega);refine .inr ⟨m,M,s,t,args,by omega,by omega,hl,E,?_⟩;rw [g389L1e];simp [g389B1,kR,sC,tC,hl]
 | k+1,m,M,s,t,args,hk,ha,E,h1,h2=>by
   rcases PN E (by omega) (by omega) (N:=N) (by omega) hN with h | ⟨m',M',s',t',args',a1,a2,a3,a4,E',e⟩
   · exact .inl h
   · rw [e];exact L9 hN k m' M' s' t' args' (by omega) (by omega) E' (by omega) (by omega)
def Gd (u:Ty):Prop:=zp u∧u.nodes.length≤4000
theorem L_ {m M:Nat} {s:d8} (I:Inv m M (eK m) s) (hm:m≤1000000) {vs:List As} (hv:vs.length≤100000) (hF:∀x∈vs,Fit (eK m) x.ty) {args:List Ty}:∀(k i:Nat),vs.length-i=k→i≤vs.length→∀acc:List Ty,acc.length=i→(∀u∈acc,Gd u) →
   (∃q,cl AP g389L2 ⟨[(3,.pv (.aI (vs.map As.pv))),(5,.aG 5 0),(18,.own (args.map Ty.pv) 0),(29,.own (acc.map Ty.pv) 1),(30,.pv (vI i))],[(5,sC s)],[],[args.length,acc.length]⟩=lY q) ∨
   ∃us:List Ty,us.length=vs.length∧(∀u∈us,Gd u)∧cl AP g389L2 ⟨[(3,.pv (.aI (vs.map As.pv))),(5,.aG 5 0),(18,.own (args.map Ty.pv) 0),(29,.own (acc.map Ty.pv) 1),(30,.pv (vI i))],[(5,sC s)],[],[args.length,acc.length]⟩ =
     some (.exit 4,⟨[(3,.pv (.aI (vs.map As.pv))),(5,.aG 5 0),(18,.own (args.map Ty.pv) 0),(29,.own (us.map Ty.pv) 1),(30,.pv (vI vs.length)),(153,.pv (.bool false))],[(5,sC s)],[],[args.length,us.length]⟩)
 | 0,i,hk,hi,acc,ha,hu=>by
   have:i=vs.length:=by omega
   subst this;refine .inr ⟨acc,ha,hu,?_⟩;rw [g389L2e];simp [g389B2,sC]
 | k+1,i,hk,hi,acc,ha,hu=>by
   have hi:i<vs.length:=(by omega);obtain ⟨x,hx⟩:=bD hi;have fx:=hF x (bt hx);have hsm:Sm s.sl:=(by unfold Sm;rw [I.len];omega);obtain ⟨r,k1,_,_,_⟩:=c355 hsm I.ok (m:=200) (by omega) fx.ok;have hb:(acc.length+1)*64≤140737488355328:=(by omega);by_cases hr:(200:Int)<r
   · left;simp at k1;rw [g389L2e];simp (disch:=omega) [-getElem?_pos,g389B2,lY,sC,hx,hi,k1,hr]
   · obtain ⟨u,b,k2,hu1,hu2⟩:=c358k hsm I.ok I.wf ⟨fx.ok,fx.wf⟩
     have ih:=L_ I hm hv hF (args:=args) k (i+1) (by omega) (by omega) (acc++[u]) (by simp;omega) (by
       intro y hy;simp at hy;rcases hy with hy | rfl
       · exact hu y hy
       · exact ⟨hu1,hu2⟩)
     have e1:cl AP g389L2 ⟨[(3,.pv (.aI (vs.map As.pv))),(5,.aG 5 0),(18,.own (args.map Ty.pv) 0),(29,.own (acc.map Ty.pv) 1),(30,.pv (vI i))],[(5,sC s)],[],[args.length,acc.length]⟩=cl AP g389L2 ⟨[(3,.pv (.aI (vs.map As.pv))),(5,.aG 5 0),(18,.own (args.map Ty.pv) 0),(29,.own ((acc++[u]).map Ty.pv) 1),(30,.pv (vI (i+1:Nat)))],[(5,sC s)],[],[args.length,(acc++[u]).length]⟩:=by
       simp at k1 k2;conv=>lhs;rw [g389L2e]
       simp (disch:=omega) [-getElem?_pos,g389B2,sC,hx,hi,k1,hr,k2,hb,az]
     rw [e1];exact ih
theorem L' {m M:Nat} {s:d8} (I:Inv m M (eK m) s) (hm:m≤1000000) {p3:PV} {args:List Ty} (hv:args.length≤100000) (hF:∀x∈args,Fit (eK m) x) {V:Nat}:∀(k i:Nat),args.length-i=k→i≤args.length→∀acc:List Ty,acc.length≤V+i→V≤100000→(∀u∈acc,Gd u) →
   ∃us:List Ty,us.length≤V+args.length∧(∀u∈us,Gd u)∧acc.length≤us.length∧cl AP g389L3 ⟨[(3,.pv p3),(5,.aG 5 0),(18,.own (args.map Ty.pv) 0),(29,.own (acc.map Ty.pv) 1),(33,.pv (vI i))],[(5,sC s)],[],[args.length,acc.length]⟩ =
     some (.exit 6,⟨[(3,.pv p3),(5,.aG 5 0),(18,.own (args.map Ty.pv) 0),(29,.own (us.map Ty.pv) 1),(33,.pv (vI args.length)),(181,.pv (.bool false))],[(5,sC s)],[],[args.length,us.length]⟩)
 | 0,i,hk,hi,acc,ha,hV,hu=>by
   have:i=args.length:=by omega
   subst this;refine ⟨acc,ha,hu,Nat.le_refl _,?_⟩;rw [g389L3e];simp [g389B3,sC]
 | k+1,i,hk,hi,acc,ha,hV,hu=>by
   have hi:i<args.length:=(by omega);obtain ⟨x,hx⟩:=bD hi;have fx:=hF x (bt hx);have hsm:Sm s.sl:=(by unfold Sm;rw [I.len];omega);have hb:(acc.length+1)*64≤140737488355328:=(by omega);obtain ⟨u,b,k2,hu1,hu2⟩:=c358k hsm I.ok I.wf ⟨fx.ok,fx.wf⟩
   obtain ⟨us,q1,q2,q3,e⟩:=L' I hm hv hF (p3:=p3) (V:=V) k (i+1) (by omega) (by omega) (acc++[u]) (by simp;omega) hV (by
       intro y hy;simp at hy;rcases hy with hy | rfl
       · exact hu y hy
       · exact ⟨hu1,hu2⟩)
   refine ⟨us,q1,q2,by simp at q3;omega,?_⟩;rw [g389L3e] at e ⊢;simp [sC] at e;simp at k2;simp (disch:=omega) [-getElem?_pos,g389B3,sC,hx,hi,k2,hb,az];rw [g389L3e];simp [e]
theorem K5 {l:List Ty} {t:Ty}:∀w,iq (t.ml l) w→iq t w∨∃x∈l,iq x w:=by
 refine Ty.eU (p:=fun t=>∀w,iq (t.ml l) w→iq t w∨∃x∈l,iq x w) ?_ t;intro t ih w h;rw [Ty.lR] at h;cases e:IQ l t with
 | some x=>
   rw [e] at h;obtain ⟨_,_,_,hx⟩:=lQ e;exact .inr ⟨x,bt hx,h⟩
 | none=>
   rw [e] at h;simp only [Option.getD_none] at h;generalize hy:(Ty.mk t.kind t.name t.id t.home (t.args.map (Ty.ml l)))=y at h;cases h with
   | var q=>subst hy;exact .inl (.var q)
   | arg q ha ho=>
     subst hy;simp only [List.mem_map] at ha;obtain ⟨a,ha,rfl⟩:=ha;rcases ih a ha _ ho with h | h
     · exact .inl (.arg q ha h)
     · exact .inr h
theorem Ma {sz τ:Nat} {l:List PV} {k:IntKind} {h:Int} (h0:0≤h) (h1:h≤l.length) (hs:bC sz l=true):cO false sz true false false [.own l τ,.pv (.int k h)]=some (.pv (.aI (l.drop h.toNat))):=by
 simp [cO,cR,dZ,h0,h1,hs]
abbrev Mt:=List (Int×Ty)
def kH:Mt→Int→Option Ty
 | [],_=>none
 | (j,x)::r,i=>if i=j then some x else kH r i
def o_:Mt→Int→Ty→Mt
 | [],i,t=>[(i,t)]
 | (j,x)::r,i,t=>if i=j then (i,t)::r else (j,x)::o_ r i t
def mp (m:Mt):List (PV×PV):=m.map fun a=>(vI a.1,a.2.pv)
theorem qG {i j:Int} {t:Ty}:∀{m:Mt},kH (o_ m i t) j=if j=i then some t else kH m j
 | []=>by simp [o_,kH]
 | (k,x)::r=>by
   have ih:=qG (i:=i) (j:=j) (t:=t) (m:=r);simp only [o_,kH];by_cases e:i=k
   · subst e;by_cases e2:j=i<;>simp [kH,e2]
   · by_cases e2:j=i
     · subst e2;simp [kH,e,ih]
     · have e':¬k=i:=fun h=>e h.symm
       by_cases e3:j=k<;>simp [kH,e,e',e2,e3,ih]
def Ck (m:Mt):Prop:=∀i x,kH m i=some x→x.Ok
theorem Ck.put {m:Mt} (h:Ck m) {t:Ty} (ht:t.Ok) {i:Int}:Ck (o_ m i t):=by
 intro j x hx;rw [qG] at hx;split at hx
 · cases hx;exact ht
 · exact h j x hx
def PO (p t:Ty):Bool:=decide (p.kind=t.kind) && decide (p.name=t.name) && decide (p.id=t.id) && decide (p.home=t.home) && decide (p.args.length=t.args.length)
def Q5:Ty:=⟨0,[],0,0,[]⟩
def gS (m:Mt) (n:Nat):List Ty:=(List.range n).map fun i:Nat=>(kH m i).getD Q5
theorem iW {m:Mt} {n:Nat}:(gS m n).length=n:=by simp [gS]
def rI:Option (List Ty)→List PV
 | some l=>[.aI (l.map Ty.pv),.bool true]
 | none=>[.aI [],.bool false]
def Mb (m:Mt) (n:Nat):List Bool:=(List.range n).map fun i:Nat=>(kH m i).isSome
theorem qH {m:Mt} {n:Nat}:(Mb m n).length=n:=by simp [Mb]
theorem pa {m:Mt} {n i:Nat} (h:i<n):(gS m n)[i]?=some ((kH m i).getD Q5):=by simp [gS,h]
theorem wF {m:Mt} {n i:Nat} (h:i<n):(Mb m n)[i]?=some (kH m i).isSome:=by simp [Mb,h]
theorem Ge {m:Mt} {n i:Nat} {t:Ty}:gS (o_ m i t) n=(gS m n).set i t:=by
 apply List.ext_getElem?
 intro j;by_cases hj:j<n
 · rw [pa hj,List.getElem?_set,qG];by_cases e:i=j
   · subst e;simp [iW,hj]
   · have e':¬(j:Int)=i:=(by omega);simp [e,e',pa hj]
 · rw [List.getElem?_eq_none (by rw [iW];omega),List.getElem?_eq_none (by simp [iW];omega)]
theorem K6 {m:Mt} {n i:Nat} {t:Ty}:Mb (o_ m i t) n=(Mb m n).set i true:=by
 apply List.ext_getElem?
 intro j;by_cases hj:j<n
 · rw [wF hj,List.getElem?_set,qG];by_cases e:i=j
   · subst e;simp [qH,hj]
   · have e':¬(j:Int)=i:=(by omega);simp [e,e',wF hj]
 · rw [List.getElem?_eq_none (by rw [qH];omega),List.getElem?_eq_none (by simp [qH];omega)]
theorem uK:∀{l:List Ty} {i:Nat},i≤l.length→(l.flatMap Ty.cl).take (i*5)=(l.take i).flatMap Ty.cl
 | _,0,_=>by simp
 | [],i+1,h=>by simp at h
 | a::r,i+1,h=>by
   have ih:=uK (l:=r) (i:=i) (by simp at h;omega);have e:(i+1)*5=a.cl.length+i*5:=(by simp [Ty.cl];omega);rw [List.flatMap_cons,List.take_succ_cons,List.flatMap_cons,e,List.take_length_add_append,ih]
theorem pb:∀{l:List Ty} {i:Nat},i≤l.length→(l.flatMap Ty.cl).drop (i*5)=(l.drop i).flatMap Ty.cl
 | _,0,_=>by simp
 | [],i+1,h=>by simp at h
 | a::r,i+1,h=>by
   have ih:=pb (l:=r) (i:=i) (by simp at h;omega);have e:(i+1)*5=a.cl.length+i*5:=(by simp [Ty.cl];omega);rw [List.flatMap_cons,List.drop_succ_cons,e,List.drop_length_add_append,ih]
theorem K7 {l:List Ty} {i:Nat} {t:Ty} (h:i<l.length):bn (jH l 0) (i*5) t.cl=jH (l.set i t) 0:=by
 have e0:∀l:List Ty,jH l 0=l.flatMap Ty.cl:=fun l=>by simp [jH]
 rw [aK,e0,e0,uK (by omega)];have e1:i*5+t.cl.length=(i+1)*5:=by simp [Ty.cl];omega
 rw [e1,pb (by omega),List.set_eq_take_append_cons_drop,if_pos h];simp
theorem K8 {l:List Ty} {i:Nat} {x:Ty} (h:l[i]?=some x):((jH l 0).drop (i*5)).take 5=x.cl:=by
 have hi:i<l.length:=(List.getElem?_eq_some_iff.1 h).1;have e0:jH l 0=l.flatMap Ty.cl:=by simp [jH]
 rw [e0,pb (by omega),cp h,List.flatMap_cons];have:(5:Nat)=x.cl.length:=by simp [Ty.cl]
 rw [this,List.take_left]
mutual
noncomputable def Ty.rt (t:Ty) (m:Mt):Ty→Bool×Mt
 | ⟨k,n,i,h,as⟩=>if k=2 then (match kH m i with | some x=>(decide (x=t),m) | none=>(true,o_ m i t)) else if PO ⟨k,n,i,h,as⟩ t=true then Ty.Dc t.args m as else (false,m)
noncomputable def Ty.Dc (ts:List Ty) (m:Mt):List Ty→Bool×Mt
 | []=>(true,m)
 | p::ps=>match ts with
   | []=>(true,m)
   | t::ts=>if (Ty.rt t m p).1=true then Ty.Dc ts (Ty.rt t m p).2 ps else (false,(Ty.rt t m p).2)
end
theorem Ty.Mc (t:Ty) (m:Mt) (p:Ty):Ty.rt t m p=if p.kind=2 then (match kH m p.id with | some x=>(decide (x=t),m) | none=>(true,o_ m p.id t)) else if PO p t=true then Ty.Dc t.args m p.args else (false,m):=by
 cases p;simp only [Ty.rt]
def zH (m:Mt) (n:Nat):List AV:=(Mb m n).map fun b=>.pv (.bool b)
theorem wG {m:Mt} {n:Nat}:(zH m n).length=n:=by simp [zH,qH]
theorem K9 {m:Mt} {n i:Nat} (h:i<n):(zH m n)[i]?=some (.pv (.bool (kH m i).isSome)):=by simp [zH,wF h]
theorem Cl {m:Mt} {n:Nat}:∀v∈zH m n,∃p,v=AV.pv p:=by
 intro v hv;simp only [zH,List.mem_map] at hv;obtain ⟨b,_,rfl⟩:=hv;exact ⟨_,rfl⟩
theorem zq {m:Mt} {n:Nat}:dr (zH m n)=false:=dw Cl
theorem K_ {m:Mt} {n i:Nat} {t:Ty} (h:i<n):bn (zH m n) (i*1) [.pv (.bool true)]=zH (o_ m i t) n:=by
 have hl:i<(zH m n).length:=by rw [wG];exact h
 rw [aK]
 have e:zH (o_ m i t) n=(zH m n).set i (.pv (.bool true)):=by
   unfold zH;rw [K6,List.map_set]
 rw [e,List.set_eq_take_append_cons_drop,if_pos hl];simp
theorem La {m:Mt} {n i:Nat} {t:Ty} (h:i<n):bn (jH (gS m n) 0) (i*5) t.cl=jH (gS (o_ m i t) n) 0:=by
 rw [Ge];exact K7 (by rw [iW];exact h)
def mV (m:Mt) (n:Nat):Sh:=[some (jH (gS m n) 0),some (zH m n)]
theorem eC {m:Mt} {n:Nat}:bA (mV m n):=bA.app (bA.one wh) (bA.one Cl)
theorem zt {m m':Mt} {n n':Nat}:(mV m' n').take (mV m n).length=mV m' n':=rfl
def Lb (n:Nat) (p:Ty):Prop:=∀x∈p.nodes,x.kind=2→0≤x.id∧x.id<n
theorem Lb.g_ {n:Nat} {p:Ty} (h:Lb n p):∀y∈p.args,Lb n y:=by
 intro y hy x hx;refine h x ?_;rw [Ty.bh p];simp only [List.mem_cons,List.mem_flatMap];exact .inr ⟨y,hy,hx⟩
theorem Jg:∀{ps ts:List Ty} {m:Mt},(∀p∈ps,∀t∈ts,∀m,Ck m→Ck (Ty.rt t m p).2)→Ck m→Ck (Ty.Dc ts m ps).2
 | [],ts,m,_,h=>by simpa [Ty.Dc] using h
 | p::ps,[],m,_,h=>by simpa [Ty.Dc] using h
 | p::ps,t::ts,m,hp,h=>by
   have h1:=hp p (by simp) t (by simp) m h;simp only [Ty.Dc];split
   · exact Jg (fun q hq u hu=>hp q (by simp [hq]) u (by simp [hu])) h1
   · exact h1
theorem PQ {p:Ty}:∀{t:Ty},t.Ok→∀m,Ck m→Ck (Ty.rt t m p).2:=by
 refine Ty.eU (p:=fun p=>∀{t:Ty},t.Ok→∀m,Ck m→Ck (Ty.rt t m p).2) ?_ p;intro p ih t ht m hm;rw [Ty.Mc];split
 · split
   · exact hm
   · exact hm.put ht
 · split
   · exact Jg (fun q hq u hu m hm=>ih q hq (ht.g_ u hu) m hm) hm
   · exact hm
theorem PR {N:Nat} {p t:Ty} (hS:Sm t.args) (hl:p.args.length=t.args.length) (h:∀x∈p.args,∀y∈t.args,∀m,Ck m→(aP AP).i 240 [.pv x.pv,.pv y.pv,.bE 0 5 N true,.bE 1 1 N false] (mV m N) []=some ([.pv (.bool (Ty.rt y m x).1)],mV (Ty.rt y m x).2 N,[]))
   (hO:t.Ok):∀(n i:Nat),t.args.length-i=n→i≤t.args.length→∀m,Ck m →
   cl AP g240L0 ⟨[(2,.bE 0 5 N true),(3,.bE 1 1 N false),(4,.aG 4 0),(5,.aG 5 0),(9,.pv (vI i))],[(4,[.pv (vI p.kind),.pv (.str p.name),.pv (vI p.id),.pv (vI p.home),.pv (.aI (p.args.map Ty.pv))]),(5,[.pv (vI t.kind),.pv (.str t.name),.pv (vI t.id),.pv (vI t.home),.pv (.aI (t.args.map Ty.pv))])],mV m N,[]⟩ =
     if (Ty.Dc (t.args.drop i) m (p.args.drop i)).1=true then some (.exit 0,⟨[(2,.bE 0 5 N true),(3,.bE 1 1 N false),(4,.aG 4 0),(5,.aG 5 0),(9,.pv (vI t.args.length)),(80,.pv (.bool false))],[(4,[.pv (vI p.kind),.pv (.str p.name),.pv (vI p.id),.pv (vI p.home),.pv (.aI (p.args.map Ty.pv))]),(5,[.pv (vI t.kind),.pv (.str t.name),.pv (vI t.id),.pv (vI t.home),.pv (.aI (t.args.map Ty.pv))])],mV (Ty.Dc (t.args.drop i) m (p.args.drop i)).2 N,[]⟩)
     else some (.ret,⟨[(8,.pv (.bool false))],[],mV (Ty.Dc (t.args.drop i) m (p.args.drop i)).2 N,[]⟩)
 | 0,i,hn,hi,m,hm=>by
   have:i=t.args.length:=by omega
   subst this;have e1:p.args.drop t.args.length=[]:=by rw [←hl];simp
   have h1:=(eC (m:=m) (n:=N)).norm;rw [g240L0e,e1];simp [g240B0,Ty.Dc,h1,hl]
 | n+1,i,hn,hi,m,hm=>by
   have hi:i<t.args.length:=(by omega);obtain ⟨y,hy⟩:=bD hi;obtain ⟨x,hx⟩:=bD (l:=p.args) (i:=i) (by omega);have hix:i<p.args.length:=(by omega);unfold Sm at hS;have h1:=(eC (m:=m) (n:=N)).norm;have h2:=(eC (m:=(Ty.rt y m x).2) (n:=N)).norm;have h3:=(eC (m:=(Ty.rt y m x).2) (n:=N)).shift;have k:=h x (bt hx) y (bt hy) m hm;have ih:=PR hS hl h hO n (i+1) (by omega) (by omega) (Ty.rt y m x).2 (PQ (hO.g_ y (bt hy)) m hm);rw [g240L0e] at ih ⊢;rw [cp hx,cp hy];simp only [Ty.Dc];simp [h2] at k ih;by_cases e:(Ty.rt y m x).1=true
   · rw [e] at k;simp only [if_pos e];simp (disch:=omega) [-getElem?_pos,g240B0,hx,hy,hi,hix,k,az,h1,h2,h3];rw [g240L0e];simp [ih,h2]
   · have e':(Ty.rt y m x).1=false:=(by simpa using e);rw [e'] at k;simp only [if_neg e];simp (disch:=omega) [-getElem?_pos,g240B0,hx,hy,hi,hix,k,az,h1,h2,h3]
theorem c240 {N:Nat} (hN:N<1099511627776) {p:Ty}:∀{t:Ty},t.Ok→Lb N p→∀m,Ck m→(aP AP).i 240 [.pv p.pv,.pv t.pv,.bE 0 5 N true,.bE 1 1 N false] (mV m N) []=some ([.pv (.bool (Ty.rt t m p).1)],mV (Ty.rt t m p).2 N,[]):=by
 refine Ty.eU (p:=fun p=>∀{t:Ty},t.Ok→Lb N p→∀m,Ck m→(aP AP).i 240 [.pv p.pv,.pv t.pv,.bE 0 5 N true,.bE 1 1 N false] (mV m N) []=some ([.pv (.bool (Ty.rt t m p).1)],mV (Ty.rt t m p).2 N,[])) ?_ p;intro p ih t ht hR m hm;have h1:=(eC (m:=m) (n:=N)).norm;have h2:=(eC (m:=m) (n:=N)).shift;rw [aR (af:=g240) rfl (by simp [g240]),Ty.Mc];by_cases e2:p.kind=2
 · obtain ⟨i0,i1⟩:=hR p (by rw [Ty.bh];simp) e2;obtain ⟨k,hk,hkN⟩:=kW i0 i1;have kl:=K9 (m:=m) hkN;have kl2:=wG (m:=m) (n:=N);have al:=yZ (d:=gS m N) (m:=0);rw [iW] at al;have fl:=pa (m:=m) hkN;have gl:=K8 fl;have hlen:k*5+5≤(jH (gS m N) 0).length:=by omega
   have hk1:k+1≤N:=hkN;rw [if_pos e2,hk];cases hf:kH m k with
   | none=>
     rw [hf] at kl;have s1:=La (m:=m) (t:=t) hkN;have s2:=K_ (m:=m) (t:=t) hkN;have h3:=(eC (m:=o_ m k t) (n:=N)).norm;simp [mV,Ty.cl] at h1 h2 h3 kl s1 s2;simp (disch:=omega) [-getElem?_pos,g240,e2,hk,hkN,hk1,mV,h1,h2,h3,kl,kl2,zq,s1,s2,hlen]
   | some x=>
     rw [hf] at kl gl;have q:=c20 (a:=x) (b:=t) (hm _ _ hf);simp [mV,Ty.cl] at h1 h2 kl gl q;simp (disch:=omega) [-getElem?_pos,g240,e2,hk,hkN,hk1,mV,h1,h2,kl,kl2,zq,gl,hlen,q]
 · rw [if_neg e2];by_cases e:PO p t=true
   · rw [if_pos e];simp [PO] at e;obtain ⟨⟨⟨⟨e1,e2'⟩,e3⟩,e4⟩,e5⟩:=e;have h:=PR (N:=N) (p:=p) (t:=t) ht.sm e5 (fun x hx y hy m hm=>ih x hx (ht.g_ y hy) (hR.g_ x hx) m hm) ht _ 0 rfl (by omega) m hm;have h3:=(eC (m:=(Ty.Dc t.args m p.args).2) (n:=N)).norm;rw [g240L0e] at h;have e2t:¬t.kind=2:=by rw [←e1];exact e2
     simp [h1,e1,e2',e3,e4] at h;cases e6:(Ty.Dc t.args m p.args).1 with
     | true=>simp [e6] at h;simp [g240,e2t,e1,e2',e3,e4,e5,h1,h2,h3,zt,g240L0e,h]
     | false=>simp [e6] at h;simp [g240,e2t,e1,e2',e3,e4,e5,h1,h2,h3,zt,g240L0e,h]
   · rw [if_neg e]
     have:¬(p.kind=t.kind∧p.name=t.name∧p.id=t.id∧p.home=t.home∧p.args.length=t.args.length):=by
       rintro ⟨h1,h2,h3,h4,h5⟩;apply e;simp [PO,h1,h2,h3,h4,h5]
     by_cases q1:p.kind=t.kind
     · have e2':¬t.kind=2:=(by rw [←q1];exact e2);by_cases q2:p.name=t.name
       · by_cases q3:p.id=t.id
         · by_cases q4:p.home=t.home
           · have h5:¬p.args.length=t.args.length:=fun h5=>this ⟨q1,q2,q3,q4,h5⟩
             have h5':¬(p.args.length:Int)=t.args.length:=(by omega);simp [g240,e2',q1,q2,q3,q4,h5',h1,h2]
           · simp [g240,e2',q1,q2,q3,q4,h1,h2]
         · simp [g240,e2',q1,q2,q3,h1,h2]
       · simp [g240,e2',q1,q2,h1,h2]
     · simp [g240,e2,q1,h1,h2]
theorem Md {n:Nat}:jH (gS [] n) 0=(List.replicate n [.pv (vI 0),.pv (.str []),.pv (vI 0),.pv (vI 0),.pv (.aI [])]).flatten:=by
 have e:gS [] n=List.replicate n Q5:=by
   exact List.eq_replicate_iff.2 ⟨by simp [gS],by intro b hb;simp [gS,kH] at hb;exact hb.2.symm⟩
 rw [e];simp only [jH,List.replicate_zero,List.flatten_nil,List.append_nil,List.flatMap_def,List.map_replicate];rfl
theorem Ri {n:Nat}:zH [] n=List.replicate n (.pv (.bool false)):=List.eq_replicate_iff.2 ⟨wG,by intro b hb;simp [zH,Mb,kH] at hb;exact hb.2.symm⟩
theorem tN {s:List As} (hs:∀a∈s,a.ty.args=[]) {t:Ty} (hW:t.Wf):(t.sub s).nodes.length=t.nodes.length:=by
 revert hW
 refine Ty.eU (p:=fun t=>t.Wf→(t.sub s).nodes.length=t.nodes.length) ?_ t;intro t ih hW;rw [Ty.sub_eq];by_cases e:t.kind=1
 · rw [if_pos e];have ea:=hW.var e;cases hf:kA s t.id with
   | none=>rfl
   | some u=>
     obtain ⟨a,ha,rfl⟩:=mh hf;rw [Option.getD_some,Ty.bh,Ty.bh t,hs a ha,ea];simp
 · rw [if_neg e,Ty.bh,Ty.bh t];simp only [List.length_cons,List.flatMap_map]
   have key:∀(l:List Ty),(∀y∈l,y∈t.args)→(l.flatMap fun y=>(y.sub s).nodes).length=(l.flatMap Ty.nodes).length:=by
     intro l;induction l with
     | nil=>intro _;rfl
     | cons a r ihr=>
       intro hl;simp only [List.flatMap_cons,List.length_append];rw [ih a (hl a (by simp)) (hW.g_ a (hl a (by simp))),ihr (fun y hy=>hl y (by simp [hy]))]
   rw [key t.args (fun _ h=>h)]
noncomputable def Jh (N:Nat) (p t:Ty):Option (List Ty):=if (Ty.rt t [] p).1=true then some (gS (Ty.rt t [] p).2 N) else none
theorem c238 {N:Nat} (hN:N<1000000) {p t:Ty} (ht:t.Ok) (hR:Lb N p):(aP AP).p 238 [(As.mk N p).pv,t.pv]=some (rI (Jh N p t)):=by
 have k:=c240 (N:=N) (by omega) ht hR [] (by intro i x h;cases h);rw [aw (af:=g238) rfl rfl (by decide)];unfold Jh;generalize hm:(Ty.rt t [] p).2=m at k ⊢;have hfr:=Iw (d:=gS m N);have hle:=yZ (d:=gS m N) (m:=0);rw [iW] at hfr hle;have h1:=(eC (m:=[]) (n:=N)).norm;have h2:=(eC (m:=m) (n:=N)).norm;have h3:=(eC (m:=m) (n:=N)).shift;have h4:=(bA.one (wh (d:=gS [] N) (m:=0))).norm;have b1:(N:Int)≤9223372036854775807:=by omega
 have b2:(N:Int)*64≤140737488355328:=by omega
 have b3:(N:Int)≤140737488355328:=by omega
 have e0:mV [] N=[some ((List.replicate N [.pv (vI 0),.pv (.str []),.pv (vI 0),.pv (vI 0),.pv (.aI [])]).flatten),some (List.replicate N (.pv (.bool false)))]:=by unfold mV;rw [Md,Ri]
 rw [e0] at k h1;rw [Md] at h4;have h5:=(bA.one (Cl (m:=[]) (n:=N))).norm;rw [Ri] at h5;simp [mV] at hfr hle k h1 h2 h3 h4 h5;cases e:(Ty.rt t [] p).1 with
 | true=>
   rw [e] at k;simp (disch:=omega) [g238,b1,b2,b3,h1,h2,h3,h4,h5,k,hfr,hle,rI]
 | false=>
   rw [e] at k;simp (disch:=omega) [g238,b1,b2,b3,h1,h2,h3,h4,h5,k,rI]
theorem Dd:∀{l:List Int} {i:Nat} {v:Int} {x:Ty},kA (gX i l) v=some x→∃k:Nat,x=cv k
 | [],i,v,x,h=>by simp [gX,kA] at h
 | a::r,i,v,x,h=>by
   simp only [gX,kA] at h;split at h
   · cases h;exact ⟨i,rfl⟩
   · exact Dd h
theorem uL {l:List Int} {i:Nat}:∀a∈gX i l,a.ty.args=[]:=by
 induction l generalizing i with
 | nil=>simp [gX]
 | cons v r ih=>
   intro a ha;simp only [gX,List.mem_cons] at ha;rcases ha with rfl | ha
   · rfl
   · exact ih a ha
theorem Lc {l:List Int} {i:Nat}:∀a∈gX i l,a.ty.Ok:=fun a ha=>da (uL a ha)
theorem Ld {l:List Int} {u:Ty} (h:Gd u):Gd (u.sub (gX 0 l)):=by
 refine ⟨⟨B7 Lc h.1.1,?_⟩,?_⟩
 · refine Cc (K:=KS) h.1.2 (fun k q _=>q) ?_ (.inl (by simp));intro i x hx;obtain ⟨k,rfl⟩:=Dd hx;exact sT
 · rw [tN uL h.1.2.wf];exact h.2
theorem Ji {l:List Ty} {k:Int} (h:∀u∈l,Gd u):(l.flatMap (Ty.fe k)).length≤l.length*4000:=by
 induction l with
 | nil=>simp
 | cons a r ih=>
   have h1:=(h a (by simp)).2;have h2:=oi (k:=k) (t:=a);have h3:=ih fun u hu=>h u (by simp [hu])
   simp only [List.flatMap_cons,List.length_append,List.length_cons];omega
theorem c395k {l:List Ty} (hl:l.length≤1000000) (h:∀u∈l,Gd u):(aP AP).i 395 [.pv (.aI (l.map Ty.pv))] [] []=some ([.own ((l.map (Ty.sub (gX 0 (vars l)))).map Ty.pv) 0],[],[l.length]):=by
 have hlen:=Ji (k:=1) h;refine c395i (S:=l.flatMap (Ty.fe 1)) (by omega) ?_ (by unfold Sm;omega) ?_
 · intro x hx;simp only [List.mem_flatMap] at hx;obtain ⟨u,_,hx⟩:=hx;exact da (lV x hx)
 · intro t ht;refine ⟨(h t ht).1.1,(h t ht).1.2.wf,?_⟩;intro x hx;simp only [List.mem_flatMap];exact ⟨t,ht,hx⟩
structure Qz (n M:Nat) (s:d8) (c:Sc) (K:Nat) (g:Ty) (vs:List As):Prop where
 inv:Inv n M (eK n) s
 hn:n≤6000
 hm:M≤1000000
 id:c.id=K
 k:K≤100
 ok:c.ty.Ok
 kn:c.ty.Kn KV
 PS:Lb K c.ty
 mq:∀w,iq c.ty w→w∈eK n
 g:Fit (eK n) g
 Ry:∀x∈vs,Fit (eK n) x.ty
 vl:vs.length≤5000
theorem c389 {n M:Nat} {s:d8} {c:Sc} {K:Nat} {g:Ty} {vs:List As} (E:Qz n M s c K g vs) {N:Nat} (hN:N≤10):∃(l1 l2:List Ty) (b:Bool),
   (aP AP).p 389 [s.pv,c.pv,g.pv,.aI (vs.map As.pv),vI N]=some [.aI (l1.map Ty.pv),.aI (l2.map Ty.pv),.bool b]∧(∀u∈l1++l2,Gd u)∧l1.length≤6000∧l2.length≤10:=by
 have h0:=L7 E.inv E.id (by have:=E.hn;have:=E.k;omega) (by have:=E.hm;omega) (g:=g) (p3:=.aI (vs.map As.pv)) (p4:=vI N) K 0 (by omega) (by omega) [] rfl;have I1:=mu E.inv K;have hnk:n+K≤6100:=by have:=E.hn;have:=E.k;omega
 have hM1:M+K*(2*(n+K)+4)≤5000000:=by
   have:K*(2*(n+K)+4)≤100*12204:=Nat.mul_le_mul E.k (by omega);have:=E.hm;omega
 have e0:oo s 0=s:=rfl;rw [e0] at h0;have hin:([]++(List.range' 0 (K-0)).map fun j=>cv (n+j:Nat))=(List.range K).map fun j=>cv (n+j:Nat):=by rw [List.nil_append,Nat.sub_zero,List.range_eq_range']
 rw [hin] at h0
 have hiv:∀x∈(List.range K).map (fun j=>cv (n+j:Nat)),∃j:Nat,j<K∧x=cv (n+j:Nat):=by
   intro x hx;simp only [List.mem_map,List.mem_range] at hx;obtain ⟨j,hj,rfl⟩:=hx;exact ⟨j,hj,rfl⟩
 have hil:((List.range K).map (fun j=>cv (n+j:Nat))).length=K:=by simp
 generalize (List.range K).map (fun j=>cv (n+j:Nat))=ins at *
 have hii:∀x∈ins,Fit (eK (n+K)) x:=by
   intro x hx;obtain ⟨j,hj,rfl⟩:=hiv x hx;exact oq (eN.2 (by omega))
 have k1:=c48 (s:=ins) (by unfold Sm;omega) E.ok;have mono:=uJ (n:=n) (m:=n+K) (by omega)
 have W:Fit (eK (n+K)) (c.ty.ml ins):=by
   refine ⟨IT (fun x hx=>(hii x hx).ok) E.ok,IU E.kn (by simp only [KV,KS];omega) (fun x hx=>(hii x hx).wf) (fun y hy hk=>by have:=E.PS y hy hk;omega),?_⟩;intro w ho;rcases K5 w ho with h | ⟨x,hx,h⟩
   · exact mono w (E.mq w h)
   · exact (hii x hx).mq w h
 have X:PM (n+K) (M+K*(2*(n+K)+4)) (oo s K) (c.ty.ml ins) (c.ty.ml ins) g [] vs:=⟨I1,W,W,E.g.gW mono,by simp,fun x hx=>(E.Ry x hx).gW mono⟩;generalize c.ty.ml ins=w at *;generalize oo s K=s1 at *;have hpv:c.pv=.agg [vI c.id,vI c.ty.kind,.str c.ty.name,vI c.ty.id,vI c.ty.home,.aI (c.ty.args.map Ty.pv)]:=rfl;have hK:=E.id;rw [g389L0e] at h0;simp [sC,zo,tC,hK] at h0 k1
 have bad:∀r,(aP AP).p 389 [s.pv,c.pv,g.pv,.aI (vs.map As.pv),vI N]=some [.aI [],.aI [],.bool false]→r=r→∃(l1 l2:List Ty) (b:Bool),
     (aP AP).p 389 [s.pv,c.pv,g.pv,.aI (vs.map As.pv),vI N]=some [.aI (l1.map Ty.pv),.aI (l2.map Ty.pv),.bool b]∧(∀u∈l1++l2,Gd u)∧l1.length≤6000∧l2.length≤10:=fun (_:Nat) h _=>⟨[],[],false,h,by simp,by simp,by simp⟩
 rcases L9 (vs:=vs) (N:=N) (by omega) N (n+K) _ s1 w [] (by simp) (by simp) X (by omega) (by omega) with ⟨q,h1⟩ | ⟨m,M',s2,t2,args,hm,hM,KN,E2,h1⟩
 · refine bad 0 ?_ rfl;rw [g389L1e] at h1;simp [kR,lY,sC,tC] at h1;rw [aw (af:=g389) rfl rfl (by decide)];simp [g389,hK,g389L0e,h0,k1,g389L1e,h1]
 · have hsl:=E2.inv.len;have hsm:Sm s2.sl:=(by unfold Sm;omega);have k2:=c386 hsm (t:=t2);have F:=E2.t.wk E2.inv
   change (aP AP).p 386 [s2.pv,t2.pv]=some [(kE s2.sl t2).pv] at k2
   generalize kE s2.sl t2=x at *;obtain ⟨a,b,cc,k3,_⟩:=c194f F;rw [g389L1e] at h1;simp [kR,sC,tC] at h1 k2 k3;cases cc with
   | true=>
     refine bad 0 ?_ rfl;rw [aw (af:=g389) rfl rfl (by decide)];simp [g389,hK,g389L0e,h0,k1,g389L1e,h1,k2,k3]
   | false=>
     have nl:∀w∈eK m,w<m:=fun w h=>(eN.1 h).2
     obtain ⟨s3,k4,I3⟩:=c394 (Nv (by omega) (by omega)) nl E2.inv F;obtain ⟨s4,k5,I4⟩:=c394 (Nv (by omega) (by omega)) nl I3 E2.g;obtain ⟨s5,e,k6,I5⟩:=c385 (Nv (by omega) (by omega)) I4 F E2.g;have hsm5:Sm s5.sl:=by unfold Sm;rw [I5.len];omega
     obtain ⟨r,k7,_,_,_⟩:=c355 hsm5 I5.ok (m:=200) (by omega) E2.w.ok;simp at k4 k5 k6 k7;by_cases he:e=0
     · subst he;by_cases hr:(200:Int)<r
       · refine bad 0 ?_ rfl;rw [aw (af:=g389) rfl rfl (by decide)];simp [g389,hK,g389L0e,h0,k1,g389L1e,h1,k2,k3,k4,k5,k6,k7,hr]
       · rcases L_ I5 (by omega) (vs:=vs) (by have:=E.vl;omega) E2.vs (args:=args) _ 0 rfl (by omega) [] rfl (by simp) with ⟨q,h2⟩ | ⟨us,hul,huo,h2⟩
         · refine bad 0 ?_ rfl;rw [g389L2e] at h2;simp [lY,sC] at h2;rw [aw (af:=g389) rfl rfl (by decide)];simp [g389,hK,g389L0e,h0,k1,g389L1e,h1,k2,k3,k4,k5,k6,k7,hr,g389L2e,h2]
         · obtain ⟨vs2,g1,g2,g3,h3⟩:=L' I5 (by omega) (p3:=.aI (vs.map As.pv)) (args:=args) (by omega) E2.args (V:=vs.length) _ 0 rfl (by omega) us (by omega) (by have:=E.vl;omega) huo;have hvl:=E.vl;have k8:=c395k (l:=vs2) (by omega) g2;have hl3:(vs2.map (Ty.sub (gX 0 (vars vs2)))).length=vs2.length:=by simp
           have ho3:∀u∈vs2.map (Ty.sub (gX 0 (vars vs2))),Gd u:=by
             intro u hu;simp only [List.mem_map] at hu;obtain ⟨y,hy,rfl⟩:=hu;exact Ld (g2 y hy)
           generalize vs2.map (Ty.sub (gX 0 (vars vs2)))=l at *;refine ⟨l.take vs.length,l.drop vs.length,true,?_,by rw [List.take_append_drop];exact ho3,by simp;omega,by simp;omega⟩;have q1:=Pr (sz:=5) (τ:=2) (l:=l.map Ty.pv) (k:=.i64) (h:=(vs.length:Int)) (by omega) (by simp;omega);have q2:=Ma (sz:=5) (τ:=2) (l:=l.map Ty.pv) (k:=.i64) (h:=(vs.length:Int)) (by omega) (by simp;omega) (CU.head l);rw [g389L2e] at h2;rw [g389L3e] at h3;simp [sC] at h2 h3;simp at k8 q1 q2;rw [aw (af:=g389) rfl rfl (by decide)];simp [g389,hK,g389L0e,h0,k1,g389L1e,h1,k2,k3,k4,k5,k6,k7,hr,g389L2e,h2,g389L3e,h3,k8,q1,q2]
     · refine bad 0 ?_ rfl;rw [aw (af:=g389) rfl rfl (by decide)];simp [g389,hK,g389L0e,h0,k1,g389L1e,h1,k2,k3,k4,k5,k6,he]
structure Hd where
 name:cS
 iV:Bool
 args:List Ty
 types:List Ty
def Hd.pv (h:Hd):PV:=.agg [.str h.name,.bool h.iV,.aI (h.args.map Ty.pv),.aI (h.types.map Ty.pv)]
@[simp] theorem Hd.lI (h:Hd):h.pv=.agg [.str h.name,.bool h.iV,.aI (h.args.map Ty.pv),.aI (h.types.map Ty.pv)]:=rfl
theorem Jj:El Hd.pv 4 true:=⟨fun _=>rfl,fun _=>rfl⟩
@[simp] theorem N7 {l:List Hd}:bC 4 (l.map Hd.pv)=true:=Jj.head l
def sV (h:Hd):Prop:=h.args.length≤10∧(∀u∈h.args,Gd u)∧h.name.length≤100
def hC (nm:cS) (cn:Bool):List AV:=[.pv (.str nm),.pv (.bool cn),.pv (.aI []),.pv (.aI [])]
theorem Ny {n M:Nat} {s:d8} {c:Sc} {K:Nat} {g:Ty} {vs:List As} (E:Qz n M s c K g vs) {nm:cS} (hnm:nm.length≤100) {cn:Bool}:∀(k i:Nat),4-i=k→i≤4→∀acc:List Hd,acc.length≤i→(∀h∈acc,sV h) →
   ∃hs:List Hd,hs.length≤4∧(∀h∈hs,sV h)∧cl AP g378L0 ⟨[(3,.pv (.aI (vs.map As.pv))),(4,.pv (vI 3)),(6,.aG 6 0),(7,.aG 7 0),(8,.aG 8 0),(11,.aG 11 0),(13,.own (acc.map Hd.pv) 0),(14,.pv (vI i))],[(6,sC s),(7,zo c),(8,tC g),(11,hC nm cn)],[],[acc.length]⟩ =
     some (.exit 0,⟨[(3,.pv (.aI (vs.map As.pv))),(4,.pv (vI 3)),(6,.aG 6 0),(7,.aG 7 0),(8,.aG 8 0),(11,.aG 11 0),(13,.own (hs.map Hd.pv) 0),(14,.pv (vI 4)),(21,.pv (.bool false))],[(6,sC s),(7,zo c),(8,tC g),(11,hC nm cn)],[],[hs.length]⟩)
 | 0,i,hk,hi,acc,ha,ho=>by
   have:i=4:=by omega
   subst this;refine ⟨acc,ha,ho,?_⟩;rw [g378L0e];simp [g378B0,sC,zo,tC,hC]
 | k+1,i,hk,hi,acc,ha,ho=>by
   have hi:i<4:=(by omega);have hi3:(i:Int)≤3:=(by omega);obtain ⟨l1,l2,b,e,hO,n1,n2⟩:=c389 E (N:=i) (by omega);simp at e;cases b with
   | false=>
     obtain ⟨hs,h1,h2,e'⟩:=Ny E (nm:=nm) hnm (cn:=cn) k (i+1) (by omega) (by omega) acc (by omega) ho;refine ⟨hs,h1,h2,?_⟩;rw [g378L0e] at e' ⊢;simp [sC,zo,tC,hC] at e';simp (disch:=omega) [-getElem?_pos,g378B0,sC,zo,tC,hC,hi3,e,az];rw [g378L0e];simp [e']
   | true=>
     have hb1:l1.length*64≤140737488355328:=(by omega);have hb2:l2.length*64≤140737488355328:=(by omega);have hb3:(acc.length+1)*72≤140737488355328:=(by omega);have hh1:=CU.head l1;have hh2:=CU.head l2
     obtain ⟨hs,h1,h2,e'⟩:=Ny E (nm:=nm) hnm (cn:=cn) k (i+1) (by omega) (by omega) (acc++[⟨nm,cn,l2,l1⟩]) (by simp;omega) (by
       intro h hh;simp at hh;rcases hh with hh | rfl
       · exact ho h hh
       · exact ⟨n2,fun u hu=>hO u (by simp [hu]),hnm⟩)
     refine ⟨hs,h1,h2,?_⟩;rw [g378L0e] at e' ⊢;simp [sC,zo,tC,hC] at e';by_cases z1:l1=[]
     · by_cases z2:l2=[]
       · subst z1;subst z2;simp at e e';simp (disch:=omega) [-getElem?_pos,g378B0,sC,zo,tC,hC,hi3,e,az,hb3];rw [g378L0e];simp [e']
       · subst z1;simp at e e';simp (disch:=omega) [-getElem?_pos,g378B0,sC,zo,tC,hC,hi3,e,az,hb2,hb3,hh2,z2];rw [g378L0e];simp [e']
     · by_cases z2:l2=[]
       · subst z2;simp at e e';simp (disch:=omega) [-getElem?_pos,g378B0,sC,zo,tC,hC,hi3,e,az,hb1,hb3,hh1,z1];rw [g378L0e];simp [e']
       · simp (disch:=omega) [-getElem?_pos,g378B0,sC,zo,tC,hC,hi3,e,az,hb1,hb2,hb3,hh1,hh2,z1,z2];rw [g378L0e];simp [e']
theorem c378 {n M:Nat} {s:d8} {c:Sc} {K:Nat} {g:Ty} {vs:List As} (E:Qz n M s c K g vs) {nm:cS} (hnm:nm.length≤100) {cn:Bool}:∃hs:List Hd,hs.length≤4∧(∀h∈hs,sV h) ∧
   (aP AP).p 378 [s.pv,c.pv,g.pv,.aI (vs.map As.pv),vI 3,.agg [.str nm,.bool cn,.aI [],.aI []]]=some [.aI (hs.map Hd.pv)]:=by
 obtain ⟨hs,h1,h2,e⟩:=Ny E (nm:=nm) hnm (cn:=cn) _ 0 rfl (by omega) [] (by simp) (by simp);refine ⟨hs,h1,h2,?_⟩;rw [aw (af:=g378) rfl rfl (by decide)];rw [g378L0e] at e;simp [sC,zo,tC,hC] at e;simp [g378,g378L0e,e]
theorem Gf {t:Ty}:∀y∈t.args,∀v∈y.nodes,v∈t.nodes:=by
 intro y hy v hv;rw [Ty.bh];simp only [List.mem_cons,List.mem_flatMap];exact .inr ⟨y,hy,hv⟩
theorem Kn.zu {K:Int→Prop} (t:Ty):(∀y∈t.nodes,(y.kind≠4→K y.kind∧y.args=[])∧y.name.length≤100)→t.Kn K:=by
 refine Ty.eU (p:=fun t=>(∀y∈t.nodes,(y.kind≠4→K y.kind∧y.args=[])∧y.name.length≤100)→t.Kn K) ?_ t;intro t ih h;refine .mk (h t (by rw [Ty.bh];simp)).1 (h t (by rw [Ty.bh];simp)).2 fun x hx=>ih x hx fun y hy=>h y (Gf x hx y hy)
theorem p_ (t:Ty):(∀y∈t.nodes,y.args.length≤100)→t.Ok:=by
 refine Ty.eU (p:=fun t=>(∀y∈t.nodes,y.args.length≤100)→t.Ok) ?_ t;intro t ih h;refine .mk (by have:=h t (by rw [Ty.bh];simp);unfold Sm;omega) fun x hx=>ih x hx fun y hy=>h y (Gf x hx y hy)
theorem Jk {K:Int→Prop} {t:Ty} {w:Int} (h:iq t w):t.Kn K→¬K 1→False:=by
 induction h with
 | @var t q=>intro hk h1;have:=(hk.hd (by rw [q];decide)).1;rw [q] at this;exact h1 this
 | arg _ ha _ ih=>intro hk h1;exact ih (hk.kd _ ha) h1
structure cx (t:Ty):Prop where
 ok:t.Ok
 kn:t.Kn KG
structure kZ (c:Sc):Prop where
 ok:c.ty.Ok
 kn:c.ty.Kn KC
 PS:∃K:Nat,c.id=K∧K≤100∧Lb K c.ty
theorem cx.fit {S:List Int} {t:Ty} (h:cx t):Fit S t:=⟨h.ok,h.kn.imp LM,fun _ ho=>(Jk ho h.kn (by simp)).elim⟩
theorem cx.g_ {t:Ty} (h:cx t):∀x∈t.args,cx x:=fun x hx=>⟨h.ok.g_ x hx,h.kn.kd x hx⟩
theorem kZ.Rj {c:Sc} (h:kZ c) {g:Ty} (hg:cx g):∃K,Qz 0 0 (tM 0) c K g []:=by
 obtain ⟨K,h1,h2,h3⟩:=h.PS;exact ⟨K,⟨wD 0,by omega,by omega,h1,h2,h.ok,h.kn.imp Pf,h3,fun _ ho=>(Jk ho h.kn (by simp)).elim,hg.fit,by simp,by simp⟩⟩
theorem cx.mono {t:Ty} (h:cx t):kZ ⟨0,t⟩:=⟨h.ok,h.kn.imp Pe,0,rfl,by omega,fun y hy hk=>by have:=(h.kn.nodes y hy (by rw [hk];decide)).1;rw [hk] at this;simp at this⟩
theorem qI:cx bB:=⟨da rfl,.bare rfl (by simp [bB]) (by simp [bB])⟩
def Le (c:Sc):Bool:=c.ty.nodes.all fun y=>(decide (y.args.length≤100) && decide (y.name.length≤100)) && (decide (y.kind=4) || (decide (y.kind=0) || decide (y.kind=2) || decide (y.kind=3)) && decide (y.args.length=0)) && (decide (y.kind≠2) || decide (0≤y.id) && decide (y.id<c.id))
theorem De {c:Sc} {K:Nat} (hc:c.id=K) (hK:K≤100) (h:Le c=true):kZ c:=by
 simp only [Le,List.all_eq_true,Bool.and_eq_true,Bool.or_eq_true,decide_eq_true_eq] at h;refine ⟨p_ _ fun y hy=>(h y hy).1.1.1,Kn.zu _ fun y hy=>⟨fun hk=>?_,(h y hy).1.1.2⟩,K,hc,hK,fun y hy hk=>?_⟩
 · rcases (h y hy).1.2 with q | ⟨q,q2⟩
   · exact absurd q hk
   · exact ⟨by simp only [KC];omega,List.length_eq_zero_iff.1 q2⟩
 · rcases (h y hy).2 with q | q
   · exact absurd hk q
   · omega
theorem Lf:∀d∈cI,d.params.length≤100∧∀c∈d.cons,Le ⟨d.params.length,Cg d.params c.fields (Jd d)⟩=true:=by decide +kernel
theorem Gg {ds:List Dt} (hD:∀d∈ds,d∈cI) {s:cS}:kZ ((p9 ds s).getD lL):=by
 cases e:p9 ds s with
 | none=>exact ⟨da rfl,.bare rfl (by simp [lL]) (by simp [lL]),0,rfl,by omega,by intro y hy hk;simp [lL,Ty.bh] at hy;rw [hy] at hk;simp at hk⟩
 | some sc=>
   simp only [p9,Option.bind_eq_some_iff,Option.map_eq_some_iff] at e;obtain ⟨q,_,d,hd,c,hc,rfl⟩:=e;obtain ⟨h1,h2⟩:=Lf d (hD d (bt hd));exact De (K:=d.params.length) rfl h1 (h2 c (bt hc))
theorem eh:∀d∈cI,d.params.length≤8∧d.cons.length≤8∧∀c∈d.cons,c.fields.length≤8∧∀x∈c.fields,x.nodes.all (fun y=>(decide (y.args.length≤100) && decide (y.name.length≤100)) && (decide (y.kind=4) || decide (y.kind=5) && decide (y.args.length=0)))=true:=by decide +kernel
theorem Df {d:Dt} (hd:d∈cI):∀c∈d.cons,Sm c.fields∧(∀x∈c.fields,x.Ok)∧∀x∈c.fields,x.Kn (·=5):=by
 intro c hc;obtain ⟨_,_,h⟩:=eh d hd;obtain ⟨h1,h2⟩:=h c hc;simp only [List.all_eq_true,Bool.and_eq_true,Bool.or_eq_true,decide_eq_true_eq] at h2;refine ⟨by unfold Sm;omega,fun x hx=>p_ _ fun y hy=>(h2 x hx y hy).1.1,fun x hx=>Kn.zu _ fun y hy=>⟨fun hk=>?_,(h2 x hx y hy).1.2⟩⟩;rcases (h2 x hx y hy).2 with q | ⟨q,q2⟩
 · exact absurd q hk
 · exact ⟨q,List.length_eq_zero_iff.1 q2⟩
theorem kI:∀d∈cI,d.name.length≤100∧∀c∈d.cons,c.name.length≤100:=by decide +kernel
structure tO (ds:List Dt):Prop where
 all:∀d∈ds,d∈cI
 len:ds.length≤8
theorem tO.c193 {ds:List Dt} (h:tO ds) {s:cS}:(aP AP).p 193 [.aI (ds.map Dt.pv),.str s]=some (KR (p9 ds s)):=
 Lw.c193 (by have:=h.len;unfold Sm;omega) (fun d hd=>by have:=(eh d (h.all d hd)).2.1;unfold Sm;omega) (fun d hd=>by have:=(eh d (h.all d hd)).1;unfold Sm;omega) (fun d hd c hc=>by
   obtain ⟨a,b,c2⟩:=Df (h.all d hd) c hc;exact ⟨a,b,fun x hx=>(c2 x hx).cw⟩)
theorem Lg {l:List Ty} (h:∀t∈l,∃K:Int→Prop,t.Kn K∧¬K 1):vars l=[]:=by
 have:∀y∈l.flatMap Ty.nodes,y.kind≠1:=by
   intro y hy hk;simp only [List.mem_flatMap] at hy;obtain ⟨t,ht,hy⟩:=hy;obtain ⟨K,hK,h1⟩:=h t ht;have:=(hK.nodes y hy (by rw [hk];decide)).1;rw [hk] at this;exact h1 this
 unfold vars;generalize l.flatMap Ty.nodes=m at *;induction m with
 | nil=>rfl
 | cons a r ih=>
   have:eH [] a=[]:=by simp [eH,this a (by simp)]
   rw [List.foldl_cons,this];exact ih fun y hy=>by rename_i h2;exact h2 y (by simp [hy])
theorem Jl {k:Int} {t:Ty}:∀y∈t.fe k,y∈t.nodes∧y.kind=k:=by
 refine Ty.eU (p:=fun t=>∀y∈t.fe k,y∈t.nodes∧y.kind=k) ?_ t;intro t ih y hy;rw [Ty.lN] at hy;rw [Ty.bh];split at hy
 · rename_i q;simp at hy;subst hy;exact ⟨by simp,q.1⟩
 · simp only [List.mem_flatMap] at hy;obtain ⟨a,ha,hy⟩:=hy;have:=ih a ha y hy;exact ⟨by simp only [List.mem_cons,List.mem_flatMap];exact .inr ⟨a,ha,this.1⟩,this.2⟩
theorem Dg {K:Int→Prop} {t:Ty} (h:t.Kn K) (h1:¬K 1) (hO:t.Ok):Good [] t:=⟨hO,h.wf,by
 intro y hy;obtain ⟨a,b⟩:=Jl y hy;have:=(h.nodes y a (by rw [b];decide)).1;rw [b] at this;exact absurd this h1⟩
theorem zw (t:Ty):t.sub []=t:=by
 refine Ty.eU (p:=fun t=>t.sub []=t) ?_ t;intro t ih;rw [Ty.sub_eq];split
 · simp [kA]
 · have:t.args.map (Ty.sub [])=t.args:=by
     conv=>rhs;rw [←List.map_id t.args]
     exact List.map_congr_left fun x hx=>by simpa using ih x hx
   rw [this];cases t;rfl
def wL:List AV:=[.pv (.aI []),.pv (.aI [])]
theorem Me {g:Ty} (hg:cx g) {ds:List Dt} {E:List En} (hE:Sm E) (hc:∀x∈E,kZ x.sc) (hnm:∀x∈E,x.name.length≤100) {T:Nat} (hT:T≤1000000):∀(n i:Nat),E.length-i=n→i≤E.length→∀acc:List Hd,acc.length+4*n≤T→(∀h∈acc,sV h) →
   ∃hs:List Hd,hs.length≤T∧(∀h∈hs,sV h)∧cl AP g362L0 ⟨[(0,.pv (.aI (ds.map Dt.pv))),(4,.pv (vI 3)),(14,.aG 14 0),(15,.pv (.aI [])),(16,.aG 16 0),(17,.own (acc.map Hd.pv) 0),(18,.pv (.aI (E.map En.pv))),(19,.pv (vI i))],[(14,wL),(16,tC g)],[],[acc.length]⟩ =
     some (.exit 0,⟨[(0,.pv (.aI (ds.map Dt.pv))),(4,.pv (vI 3)),(14,.aG 14 0),(15,.pv (.aI [])),(16,.aG 16 0),(17,.own (hs.map Hd.pv) 0),(18,.pv (.aI (E.map En.pv))),(19,.pv (vI E.length)),(51,.pv (.bool false))],[(14,wL),(16,tC g)],[],[hs.length]⟩)
 | 0,i,hn,hi,acc,ha,ho=>by
   have:i=E.length:=by omega
   subst this;refine ⟨acc,by omega,ho,?_⟩;rw [g362L0e];simp [g362B0,wL,tC]
 | n+1,i,hn,hi,acc,ha,ho=>by
   have hi:i<E.length:=(by omega);obtain ⟨x,hx⟩:=bD hi;have hs:=hc x (bt hx);obtain ⟨K,El⟩:=hs.Rj hg;obtain ⟨l,q1,q2,k2⟩:=c378 El (nm:=x.name) (hnm x (bt hx)) (cn:=false);have k1:=c377 (s:=[]) (by simp [Sm]) hs.ok;rw [zw] at k1
   obtain ⟨hs,h1,h2,e'⟩:=Me hg (ds:=ds) hE hc hnm hT n (i+1) (by omega) (by omega) (acc++l) (by simp;omega) (by
     intro h hh;simp at hh;rcases hh with hh | hh
     · exact ho h hh
     · exact q2 h hh)
   refine ⟨hs,h1,h2,?_⟩;unfold Sm at hE;have hb:(acc.length+l.length)*72≤140737488355328:=by omega
   have hb0:acc.length*72≤140737488355328:=(by omega);have hh:=Jj.head l;rw [g362L0e] at e' ⊢;simp [wL,tC] at e';simp [tM] at k1 k2 hh;by_cases z:l=[]
   · subst z;simp at k2 e';simp (disch:=omega) [-getElem?_pos,g362B0,wL,tC,hx,hi,k1,k2,hb0,az];rw [g362L0e];simp [e']
   · simp (disch:=omega) [-getElem?_pos,g362B0,wL,tC,hx,hi,k1,k2,hb,hh,z,az];rw [g362L0e];simp [e']
theorem Mf {g:Ty} (hg:cx g) {ds:List Dt} (hD:tO ds) {I:Nat} {d:Dt} (hd:ds[I]?=some d) {T:Nat} (hT:T≤1000000):∀(n i:Nat),d.cons.length-i=n→i≤d.cons.length→∀acc:List Hd,acc.length+4*n≤T→(∀h∈acc,sV h) →
   ∃hs:List Hd,hs.length≤T∧(∀h∈hs,sV h)∧cl AP g362L2 ⟨[(0,.pv (.aI (ds.map Dt.pv))),(4,.pv (vI 3)),(14,.aG 14 0),(15,.pv (.aI [])),(16,.aG 16 0),(17,.own (acc.map Hd.pv) 0),(21,.pv (vI I)),(22,.pv (vI i))],[(14,wL),(16,tC g)],[],[acc.length]⟩ =
     some (.exit 4,⟨[(0,.pv (.aI (ds.map Dt.pv))),(4,.pv (vI 3)),(14,.aG 14 0),(15,.pv (.aI [])),(16,.aG 16 0),(17,.own (hs.map Hd.pv) 0),(21,.pv (vI I)),(22,.pv (vI d.cons.length)),(88,.pv (.bool false))],[(14,wL),(16,tC g)],[],[hs.length]⟩)
 | 0,i,hn,hi,acc,ha,ho=>by
   have:i=d.cons.length:=by omega
   subst this;refine ⟨acc,by omega,ho,?_⟩;have hI:=(List.getElem?_eq_some_iff.1 hd).1;rw [g362L2e];simp [-getElem?_pos,g362B2,wL,tC,hd,hI]
 | n+1,i,hn,hi,acc,ha,ho=>by
   have hi:i<d.cons.length:=(by omega);have hI:=(List.getElem?_eq_some_iff.1 hd).1;obtain ⟨c,hc⟩:=bD hi;have k1:=hD.c193 (s:=c.name);have hs:=Gg hD.all (s:=c.name);have hc8:=(eh d (hD.all d (bt hd))).2.1;generalize hsc:(p9 ds c.name).getD lL=sc at *;obtain ⟨K,El⟩:=hs.Rj hg;obtain ⟨l,q1,q2,k2⟩:=c378 El (nm:=c.name) ((kI d (hD.all d (bt hd))).2 c (bt hc)) (cn:=true)
   obtain ⟨hs,h1,h2,e'⟩:=Mf hg hD hd hT n (i+1) (by omega) (by omega) (acc++l) (by simp;omega) (by
     intro h hh;simp at hh;rcases hh with hh | hh
     · exact ho h hh
     · exact q2 h hh)
   refine ⟨hs,h1,h2,?_⟩;have hb:(acc.length+l.length)*72≤140737488355328:=by omega
   have hb0:acc.length*72≤140737488355328:=(by omega);have hh:=Jj.head l;rw [g362L2e] at e' ⊢;simp [wL,tC] at e';simp [tM] at k2 hh;simp [KR,hsc] at k1;by_cases z:l=[]
   · subst z;simp at k2 e';simp (disch:=omega) [-getElem?_pos,g362B2,wL,tC,hd,hI,hc,hi,k1,k2,hb0,az];rw [g362L2e];simp [e']
   · simp (disch:=omega) [-getElem?_pos,g362B2,wL,tC,hd,hI,hc,hi,k1,k2,hb,hh,z,az];rw [g362L2e];simp [e']
theorem Mg {g:Ty} (hg:cx g) {ds:List Dt} (hD:tO ds) {T:Nat} (hT:T≤1000000):∀(n i:Nat),ds.length-i=n→i≤ds.length→∀acc:List Hd,acc.length+32*n≤T→(∀h∈acc,sV h) →
   ∃hs:List Hd,hs.length≤T∧(∀h∈hs,sV h)∧cl AP g362L1 ⟨[(0,.pv (.aI (ds.map Dt.pv))),(4,.pv (vI 3)),(14,.aG 14 0),(15,.pv (.aI [])),(16,.aG 16 0),(17,.own (acc.map Hd.pv) 0),(21,.pv (vI i))],[(14,wL),(16,tC g)],[],[acc.length]⟩ =
     some (.exit 2,⟨[(0,.pv (.aI (ds.map Dt.pv))),(4,.pv (vI 3)),(14,.aG 14 0),(15,.pv (.aI [])),(16,.aG 16 0),(17,.own (hs.map Hd.pv) 0),(21,.pv (vI ds.length)),(78,.pv (.bool false))],[(14,wL),(16,tC g)],[],[hs.length]⟩)
 | 0,i,hn,hi,acc,ha,ho=>by
   have:i=ds.length:=by omega
   subst this;refine ⟨acc,by omega,ho,?_⟩;rw [g362L1e];simp [g362B1,wL,tC]
 | n+1,i,hn,hi,acc,ha,ho=>by
   have hi:i<ds.length:=(by omega);obtain ⟨d,hd⟩:=bD hi;have hc8:=(eh d (hD.all d (bt hd))).2.1;obtain ⟨l,q1,q2,e⟩:=Mf hg hD hd (T:=acc.length+32) (by omega) _ 0 rfl (by omega) acc (by omega) ho;obtain ⟨hs,h1,h2,e'⟩:=Mg hg hD hT n (i+1) (by omega) (by omega) l (by omega) q2;refine ⟨hs,h1,h2,?_⟩;have hl:=hD.len;rw [g362L1e] at e' ⊢;rw [g362L2e] at e;simp [wL,tC] at e' e;simp (disch:=omega) [-getElem?_pos,g362B1,wL,tC,hd,hi,az];rw [g362L2e];simp (disch:=omega) [e,az];rw [g362L1e];simp [e']
theorem c362 {g:Ty} (hg:cx g) {ds:List Dt} (hD:tO ds) {l:List En} (hl:l.length≤10000) (hc:∀x∈l,kZ x.sc) (hnm:∀x∈l,x.name.length≤100):∃hs:List Hd,hs.length≤100000∧(∀h∈hs,sV h) ∧
   (aP AP).p 362 [.aI (ds.map Dt.pv),.aI (l.map En.pv),g.pv,.aI [],vI 3]=some [.aI (hs.map Hd.pv)]:=by
 obtain ⟨a,b,c,k1,_⟩:=c194g hg.ok;have hdl:=hD.len;cases c with
 | true=>
   refine ⟨[],by simp,by simp,?_⟩;simp at k1;rw [aw (af:=g362) rfl rfl (by decide)];simp [g362,k1]
 | false=>
   have hsub:∀x∈dM l,kZ x.sc:=fun x hx=>hc x (lO l x hx)
   have hsl:=sD l;obtain ⟨vs,hv,_,k2⟩:=c376 (S:=[]) (by simp) (by simp) (Dg hg.kn (by simp) hg.ok) (l:=l) (by unfold Sm;omega) (by omega) (fun x hx=>Dg (hc x hx).kn (by simp) (hc x hx).ok)
   have hv0:vs=[]:=by
     rw [hv];refine Lg ?_;intro t ht;simp only [List.mem_cons,List.mem_map] at ht;rcases ht with rfl | ⟨x,hx,rfl⟩
     · exact ⟨KG,hg.kn,by simp⟩
     · exact ⟨KC,(hsub x hx).kn,by simp⟩
   subst hv0;have k3:=c46 (s:=[]) (by simp [Sm]) hg.ok;rw [zw] at k3;have k4:=c201 (l:=l) (by unfold Sm;omega);obtain ⟨o1,a1,a2,h1⟩:=Me hg (ds:=ds) (E:=dM l) (by unfold Sm;omega) hsub (fun x hx=>hnm x (lO l x hx)) (T:=40000) (by omega) _ 0 rfl (by omega) [] (by simp;omega) (by simp);obtain ⟨o2,b1,b2,h2⟩:=Mg hg hD (T:=100000) (by omega) _ 0 rfl (by omega) o1 (by omega) a2;refine ⟨o2,b1,b2,?_⟩;rw [g362L0e] at h1;rw [g362L1e] at h2;generalize dM l=E at *;simp [wL,tC] at h1 h2;simp at k1 k3 k4;simp [tM,gX] at k2;rw [aw (af:=g362) rfl rfl (by decide)];simp [g362,k1,k2,k3,k4,g362L0e,h1,g362L1e,h2]
structure Tape (L:List Int) (tm:Nat) (TP:Int→Sh):Prop where
 get:∀i,(TP i)[tm]?=some (some [.pv (.aI (L.map vI)),.pv (vI i)])
 set:∀i j,(TP i).set tm (some [.pv (.aI (L.map vI)),.pv (vI j)])=TP j
 quiet:∀i,bA (TP i)
theorem Tape.norm {L:List Int} {tm:Nat} {TP:Int→Sh} (h:Tape L tm TP):∀i aY ts,bV aY ts (TP i)=(TP i,aY,ts):=fun i=>(h.quiet i).norm
theorem Tape.shift {L:List Int} {tm:Nat} {TP:Int→Sh} (h:Tape L tm TP):∀i n,fp n (TP i)=TP i:=fun i=>(h.quiet i).shift
theorem Tape.take {L:List Int} {tm:Nat} {TP:Int→Sh} (h:Tape L tm TP):∀i j,(TP j).take (TP i).length=TP j:=by
 intro i j;refine List.take_of_length_le ?_;rw [←h.set i j,List.length_set];exact Nat.le_refl _
theorem Dh {L:List Int} {A B:Sh} (hA:bA A) (hB:bA B):Tape L A.length (fun i=>A++[some [.pv (.aI (L.map vI)),.pv (vI i)]]++B) where
 get:=fun i=>by simp
 set:=fun i j=>by simp [List.set_append]
 quiet:=fun i=>(hA.app (bA.one (by intro v hv;simp at hv;rcases hv with rfl | rfl<;>exact ⟨_,rfl⟩))).app hB
theorem nj {L:List Int} {tm:Nat} {TP:Int→Sh} (hT:Tape L tm TP) (hL:Sm L) {i:Nat} (hi:i≤L.length) {n:Int} (h1:1≤n) (h2:n<4611686018427387904) :
   ∃(r:Int) (j:Nat),(aP AP).i 68 [.br tm 0,.pv (vI n)] (TP i) []=some ([.pv (vI r)],TP j,[])∧0≤r∧r<n∧j≤L.length:=by
 unfold Sm at hL;have tn:=hT.norm;have tsh:=hT.shift;have tg:=hT.get;have tset:=hT.set;have tl:=hT.take;rw [aR (af:=g68) rfl (by simp [g68])];by_cases h:i<L.length
 · obtain ⟨x,hx⟩:=bD h;obtain ⟨r,e,e1,e2⟩:=c26 (n:=x) h1 h2;refine ⟨r,i+1,?_,e1,e2,h⟩;have h':¬L.length≤i:=by omega
   simp (disch:=omega) [-getElem?_pos,g68,h',az,hx,e,tn,tsh,tg,tset,tl]
 · have h':L.length≤i:=(by omega);refine ⟨0,i,?_,by omega,by omega,hi⟩;simp [-getElem?_pos,g68,h',tn,tsh,tg,tset,tl]
theorem Gi {L:List Int} {tm:Nat} {TP:Int→Sh} (hT:Tape L tm TP) (hL:Sm L) {i:Nat} (hi:i≤L.length):∃(s:List UInt8) (j:Nat),(aP AP).i 175 [.br tm 0] (TP i) []=some ([.pv (.str s)],TP j,[])∧s∈varNames∧j≤L.length:=by
 have tn:=hT.norm;have tsh:=hT.shift;have tl:=hT.take;obtain ⟨k,j,e,k0,k8,hj⟩:=nj hT hL hi (n:=8) (by omega) (by omega);obtain ⟨m,rfl,hm⟩:=kW (n:=varNames.length) k0 (by simpa [varNames] using k8);obtain ⟨s,hs⟩:=bD hm;refine ⟨s,j,?_,bt hs,hj⟩
 try simp [tn,tsh,tl] at e
 rw [aR (af:=g175) rfl (by simp [tn,tsh,tl,g175])]
 have hs':([PV.str [120],.str [121],.str [122],.str [102],.str [103],.str [118,49],.str [118,50],.str [105,100]]:List PV)[m]?=some (.str s):=by
   have:([PV.str [120],.str [121],.str [122],.str [102],.str [103],.str [118,49],.str [118,50],.str [105,100]]:List PV)=varNames.map PV.str:=rfl;rw [this];simp [tn,tsh,tl,hs]
 simp [tn,tsh,tl,-getElem?_pos,g175,e,hs']
def ot (L:List Int) (tm:Nat) (TP:Int→Sh) (ds:List Dt) (lv:List Ty) (dep:Nat):Prop:=∀i:Nat,i≤L.length→∃(t:Ty) (j:Nat),
 (aP AP).i 27 [.br tm 0,.pv (.aI (ds.map Dt.pv)),.pv (.aI (lv.map Ty.pv)),.pv (vI dep)] (TP i) []=some ([t.av],TP j,[])∧gR (·∈ds) lv dep t∧j≤L.length
theorem PT {L:List Int} {tm:Nat} {TP:Int→Sh} (hT:Tape L tm TP) {ds:List Dt} {lv:List Ty} {dep:Nat} (hdep:dep<1000) (hg:ot L tm TP ds lv dep) {d:Dt} (hS:Sm d.params):∀(n k:Nat),d.params.length-k=n→k≤d.params.length→∀(acc:List Ty) (i:Nat),acc.length=k→(∀x∈acc,gR (·∈ds) lv dep x)→i≤L.length →
   ∃(r:List Ty) (j:Nat),cl AP g27L0 ⟨[(0,.br tm 0),(1,.pv (.aI (ds.map Dt.pv))),(2,.pv (.aI (lv.map Ty.pv))),(3,.pv (vI (dep+1))),(8,.aG 8 0),(10,.aG 10 0),(11,.own (acc.map Ty.pv) 0),(12,.pv (vI k))],
     [(8,[.pv (vI 0),.pv (.str []),.pv (vI 0),.pv (vI 0),.own [] 1]),(10,[.pv (vI d.pos),.pv (.str d.name),.pv (.aI (d.params.map .str)),.pv (.aI (d.cons.map p7.pv))])],TP i,[acc.length,0]⟩ =
     some (.exit 1,⟨[(0,.br tm 0),(1,.pv (.aI (ds.map Dt.pv))),(2,.pv (.aI (lv.map Ty.pv))),(3,.pv (vI (dep+1))),(8,.aG 8 0),(10,.aG 10 0),(11,.own (r.map Ty.pv) 0),(12,.pv (vI d.params.length)),(65,.pv (.bool false))],
     [(8,[.pv (vI 0),.pv (.str []),.pv (vI 0),.pv (vI 0),.own [] 1]),(10,[.pv (vI d.pos),.pv (.str d.name),.pv (.aI (d.params.map .str)),.pv (.aI (d.cons.map p7.pv))])],TP j,[r.length,0]⟩) ∧
     r.length=d.params.length∧(∀x∈r,gR (·∈ds) lv dep x)∧j≤L.length
 | 0,k,hn,hk,acc,i,ha,hm,hi=>by
   have tn:=hT.norm;have tsh:=hT.shift;have tl:=hT.take;have:k=d.params.length:=(by omega);subst this;refine ⟨acc,i,?_,ha,hm,hi⟩;rw [g27L0e];simp [tn,tsh,tl,g27B0]
 | n+1,k,hn,hk,acc,i,ha,hm,hi=>by
   have tn:=hT.norm;have tsh:=hT.shift;have tl:=hT.take;unfold Sm at hS;have hk:k<d.params.length:=(by omega);have hb:(acc.length+1)*64≤140737488355328:=(by omega);obtain ⟨t,j,e,mt,hj⟩:=hg i hi
   try simp [tn,tsh,tl] at e
   obtain ⟨r,j',e',hr,hm',hj'⟩:=PT hT hdep hg hS n (k+1) (by omega) (by omega) (acc++[t]) j (by simp;omega) (by
     intro x hx;simp at hx;rcases hx with hx | rfl
     · exact hm x hx
     · exact mt) hj
   try simp [tn,tsh,tl] at e'
   refine ⟨r,j',?_,hr,hm',hj'⟩;rw [g27L0e];have h1:(dep:Int)+1-1=dep:=by omega
   simp (disch:=omega) [tn,tsh,tl,-getElem?_pos,g27B0,hk,az,h1,e,hb];rw [e']
theorem PU {L:List Int} {tm:Nat} {TP:Int→Sh} (hT:Tape L tm TP) (hL:Sm L) {ds:List Dt} {lv:List Ty} (hlv:Sm lv):ot L tm TP ds lv 0:=by
 have tn:=hT.norm;have tsh:=hT.shift;have tl:=hT.take;intro i hi;obtain ⟨k,j1,e1,k0,k7,hj1⟩:=nj hT hL hi (n:=7) (by omega) (by omega)
 try simp [tn,tsh,tl] at e1
 unfold Sm at hlv;by_cases h1:k<3
 · by_cases h2:lv=[]
   · subst h2;refine ⟨bB,j1,?_,.int,hj1⟩;have c:=c34
     try simp [tn,tsh,tl] at c
     rw [aR (af:=g27) rfl (by simp [tn,tsh,tl,g27])];simp [tn,tsh,tl,-getElem?_pos,g27,e1,h1,c,bB]
   · have hp:0<lv.length:=List.length_pos_iff.2 h2;obtain ⟨r,j2,e2,r0,r1,hj2⟩:=nj hT hL hj1 (n:=lv.length) (by omega) (by omega);obtain ⟨m,rfl,hm⟩:=kW r0 r1;obtain ⟨x,hx⟩:=bD hm
     try simp [tn,tsh,tl] at e2
     refine ⟨x,j2,?_,.leaf (bt hx),hj2⟩;rw [aR (af:=g27) rfl (by simp [tn,tsh,tl,g27])];simp [tn,tsh,tl,-getElem?_pos,g27,e1,h1,hp,e2,hx]
 · refine ⟨bB,j1,?_,.int,hj1⟩;have c:=c34
   try simp [tn,tsh,tl] at c
   rw [aR (af:=g27) rfl (by simp [tn,tsh,tl,g27])];simp [tn,tsh,tl,-getElem?_pos,g27,e1,h1,c,bB]
theorem PW {L:List Int} {tm:Nat} {TP:Int→Sh} (hT:Tape L tm TP) (hL:Sm L) {ds:List Dt} (hds:ds.length≤20) (hda:∀d∈ds,d.params.length≤8) {lv:List Ty} (hlv:Sm lv) {dep:Nat} (hdep:dep<1000) (hg:ot L tm TP ds lv dep):ot L tm TP ds lv (dep+1):=by
 have tn:=hT.norm;have tsh:=hT.shift;have tl:=hT.take;intro i hi;obtain ⟨k,j1,e1,k0,k7,hj1⟩:=nj hT hL hi (n:=7) (by omega) (by omega)
 try simp [tn,tsh,tl] at e1
 unfold Sm at hlv;have hd1:¬((dep:Int)+1<1):=by omega
 have hd2:(dep:Int)+1-1=dep:=by omega
 have leafCase:∀h1:k<3,∀h2:¬lv=[],∃(t:Ty) (j:Nat),(aP AP).i 27 [.br tm 0,.pv (.aI (ds.map Dt.pv)),.pv (.aI (lv.map Ty.pv)),.pv (vI ((dep+1:Nat):Int))] (TP i) []=some ([t.av],TP j,[])∧gR (·∈ds) lv (dep+1) t∧j≤L.length:=by
   intro h1 h2;have hp:0<lv.length:=List.length_pos_iff.2 h2;obtain ⟨r,j2,e2,r0,r1,hj2⟩:=nj hT hL hj1 (n:=lv.length) (by omega) (by omega);obtain ⟨m,rfl,hm⟩:=kW r0 r1;obtain ⟨x,hx⟩:=bD hm
   try simp [tn,tsh,tl] at e2
   refine ⟨x,j2,?_,.leaf (bt hx),hj2⟩;rw [aR (af:=g27) rfl (by simp [tn,tsh,tl,g27])];simp [tn,tsh,tl,-getElem?_pos,g27,e1,h1,hp,e2,hx]
 by_cases h1:k<3∧¬lv=[]
 · exact leafCase h1.1 h1.2
 · have h1':¬k<3∨lv=[]:=by
     by_cases h:k<3
     · right;by_cases h':lv=[]
       · exact h'
       · exact absurd ⟨h,h'⟩ h1
     · exact .inl h
   by_cases h2:k<4
   · refine ⟨bB,j1,?_,.int,hj1⟩;have c:=c34
     try simp [tn,tsh,tl] at c
     rw [aR (af:=g27) rfl (by simp [tn,tsh,tl,g27])];rcases h1' with h | h
     · simp [tn,tsh,tl,-getElem?_pos,g27,e1,h,h2,c,bB]
     · subst h;simp [tn,tsh,tl,-getElem?_pos,g27,e1,h2,c,bB]
   · have h3:¬k<3:=(by omega);by_cases h4:(k=4∨k=5)∧¬ds=[]
     · obtain ⟨h4,h5⟩:=h4;have hp:0<ds.length:=List.length_pos_iff.2 h5;obtain ⟨r,j2,e2,r0,r1,hj2⟩:=nj hT hL hj1 (n:=ds.length) (by omega) (by omega);obtain ⟨m,rfl,hm⟩:=kW r0 r1;obtain ⟨d,hx⟩:=bD hm
       try simp [tn,tsh,tl] at e2
       have hdm:=bt hx
       have hps:Sm d.params:=by
         unfold Sm;have:=hda d hdm;omega
       obtain ⟨as,j3,e3,ha,hm3,hj3⟩:=PT hT hdep hg hps d.params.length 0 rfl (by omega) [] j2 rfl (by simp) hj2;rw [g27L0e] at e3
       try simp [tn,tsh,tl] at e3
       have hsa:Sm as:=(by unfold Sm at hps ⊢;omega);have c:=c62 (s:=d.name) (l:=as) hsa
       try simp [tn,tsh,tl] at c
       refine ⟨⟨4,d.name,0,0,as⟩,j3,?_,.iV hdm ha hm3,hj3⟩;rw [aR (af:=g27) rfl (by simp [tn,tsh,tl,g27])];rcases h4 with rfl | rfl
       · simp [tn,tsh,tl,-getElem?_pos,g27,e1,hp,hd1,e2,hx,g27L0e,e3,c]
       · simp [tn,tsh,tl,-getElem?_pos,g27,e1,hp,hd1,e2,hx,g27L0e,e3,c]
     · obtain ⟨a,j2,ea,ma,hj2⟩:=hg j1 hj1;obtain ⟨b,j3,eb,mb,hj3⟩:=hg j2 hj2
       try simp [tn,tsh,tl] at ea eb
       have c:=c69 (a:=a) (b:=b)
       try simp [tn,tsh,tl] at c
       refine ⟨⟨4,[45,62],0,0,[a,b]⟩,j3,?_,.arrow ma mb,hj3⟩;rw [aR (af:=g27) rfl (by simp [tn,tsh,tl,g27])];by_cases h5:ds=[]
       · subst h5
         try simp [tn,tsh,tl] at ea eb
         simp (disch:=omega) [tn,tsh,tl,-getElem?_pos,g27,e1,h2,h3,hd1,hd2,az,ea,eb,c]
       · have h6:¬k=4∧¬k=5:=by
           constructor
           · intro h;exact h4 ⟨.inl h,h5⟩
           · intro h;exact h4 ⟨.inr h,h5⟩
         simp (disch:=omega) [tn,tsh,tl,-getElem?_pos,g27,e1,h2,h3,h6.1,h6.2,hd1,hd2,az,ea,eb,c]
theorem Nz {L:List Int} {tm:Nat} {TP:Int→Sh} (hT:Tape L tm TP) (hL:Sm L) {ds:List Dt} (hds:ds.length≤20) (hda:∀d∈ds,d.params.length≤8) {lv:List Ty} (hlv:Sm lv):∀dep:Nat,dep<1000→ot L tm TP ds lv dep
 | 0,_=>PU hT hL hlv
 | dep+1,h=>PW hT hL hds hda hlv (by omega) (Nz hT hL hds hda hlv dep (by omega))
def qJ (L:List Int) (tm:Nat) (TP:Int→Sh) (ds:List Dt) (dep:Nat):Prop:=∀i:Nat,i≤L.length→∃(e:Ex) (fk fa fg:Bool) (j:Nat),
 (aP AP).i 247 [.br tm 0,.pv (.aI (ds.map Dt.pv)),.pv (vI dep)] (TP i) []=some ([.agg (eo fk fa fg e)],TP j,[])∧gp ds dep e∧j≤L.length
theorem uM {L:List Int} {tm:Nat} {TP:Int→Sh} (hT:Tape L tm TP) (hL:Sm L) {ds:List Dt} (hds:ds.length≤8) (hD:∀d∈ds,D8 d) {dep:Nat} {i j1:Nat} {k:Int} (hj1:j1≤L.length)
   (e1:(aP AP).i 68 [.br tm 0,.pv (vI 14)] (TP i) []=some ([.pv (vI k)],TP j1,[])) (k0:0≤k) (hk:if dep=0 then True else k<5) :
   ∃(e:Ex) (fk fa fg:Bool) (j:Nat),(aP AP).i 247 [.br tm 0,.pv (.aI (ds.map Dt.pv)),.pv (vI dep)] (TP i) []=some ([.agg (eo fk fa fg e)],TP j,[])∧gp ds dep e∧j≤L.length:=by
 have tn:=hT.norm;have tsh:=hT.shift;have tl:=hT.take
 try simp [tn,tsh,tl] at e1
 obtain ⟨r,hr,hr0,hr1⟩:∃r:Int,(if dep=0 then k.tmod 5 else k)=r∧0≤r∧r<5:=by
   by_cases h:dep=0
   · refine ⟨k.tmod 5,by simp [tn,tsh,tl,h],?_,?_⟩
     · exact Int.tmod_nonneg 5 k0
     · exact Int.tmod_lt_of_pos k (by omega)
   · simp [tn,tsh,tl,h] at hk;exact ⟨k,by simp [tn,tsh,tl,h],k0,hk⟩
 have hcase:r=0∨r=1∨r=2∨r=3∨r=4:=by omega
 have hd:dep=0∧k.tmod 5=r∨¬((dep:Int)<1)∧k=r:=by
   by_cases h:dep=0
   · simp [tn,tsh,tl,h] at hr;exact .inl ⟨h,hr⟩
   · simp [tn,tsh,tl,h] at hr;exact .inr ⟨by omega,hr⟩
 clear hr
 have hvar:r=0∨r=1→∃(e:Ex) (fk fa fg:Bool) (j:Nat),(aP AP).i 247 [.br tm 0,.pv (.aI (ds.map Dt.pv)),.pv (vI dep)] (TP i) []=some ([.agg (eo fk fa fg e)],TP j,[])∧gp ds dep e∧j≤L.length:=by
   intro h;obtain ⟨s,j,e2,hs,hj⟩:=Gi hT hL hj1
   try simp [tn,tsh,tl] at e2
   refine ⟨⟨1,0,s,0,[],[],bW⟩,true,true,true,j,?_,.var hs,hj⟩;rw [aR (af:=g247) rfl (by simp [tn,tsh,tl,g247])];rcases h with rfl | rfl<;>rcases hd with ⟨rfl,h2⟩ | ⟨h1,rfl⟩
   · simp [tn,tsh,tl,g247,e1,h2,e2,eo,gI,bW]
   · simp [tn,tsh,tl,g247,e1,h1,e2,eo,gI,bW]
   · simp [tn,tsh,tl,g247,e1,h2,e2,eo,gI,bW]
   · simp [tn,tsh,tl,g247,e1,h1,e2,eo,gI,bW]
 rcases hcase with rfl | rfl | rfl | rfl | rfl
 · exact hvar (.inl rfl)
 · exact hvar (.inr rfl)
 · obtain ⟨m,j,e2,m0,m4,hj⟩:=nj hT hL hj1 (n:=4) (by omega) (by omega)
   try simp [tn,tsh,tl] at e2
   refine ⟨⟨3,0,[],m,[],[],bW⟩,true,true,true,j,?_,.int m0 m4,hj⟩;rw [aR (af:=g247) rfl (by simp [tn,tsh,tl,g247])];rcases hd with ⟨rfl,h2⟩ | ⟨h1,rfl⟩
   · simp [tn,tsh,tl,g247,e1,h2,e2,eo,gI,bW]
   · simp [tn,tsh,tl,g247,e1,h1,e2,eo,gI,bW]
 · by_cases h0:ds=[]
   · subst h0;refine ⟨⟨2,0,[71,111,110,101],0,[],[],bW⟩,true,true,true,j1,?_,.gone,hj1⟩;rw [aR (af:=g247) rfl (by simp [tn,tsh,tl,g247])];rcases hd with ⟨rfl,h2⟩ | ⟨h1,rfl⟩
     · simp [tn,tsh,tl,g247,e1,h2,eo,gI,bW]
     · simp [tn,tsh,tl,g247,e1,h1,eo,gI,bW]
   · have hp:0<ds.length:=List.length_pos_iff.2 h0;obtain ⟨n,j2,e2,n0,n1,hj2⟩:=nj hT hL hj1 (n:=ds.length) (by omega) (by omega);obtain ⟨m,rfl,hm⟩:=kW n0 n1;obtain ⟨d,hx⟩:=bD hm;obtain ⟨_,hc0,hc8,_⟩:=hD d (bt hx);obtain ⟨n',j3,e3,n0',n1',hj3⟩:=nj hT hL hj2 (n:=d.cons.length) (by omega) (by omega);obtain ⟨m',rfl,hm'⟩:=kW n0' n1';obtain ⟨c,hy⟩:=bD hm'
     try simp [tn,tsh,tl] at e2 e3
     refine ⟨⟨2,0,c.name,0,[],[],bW⟩,true,true,true,j3,?_,.iV (bt hx) (bt hy),hj3⟩;rw [aR (af:=g247) rfl (by simp [tn,tsh,tl,g247])];rcases hd with ⟨rfl,h2⟩ | ⟨h1,rfl⟩
     · simp [tn,tsh,tl,-getElem?_pos,g247,e1,h2,e2,e3,hp,hx,hy,eo,gI,bW]
     · simp [tn,tsh,tl,-getElem?_pos,g247,e1,h1,e2,e3,hp,hx,hy,eo,gI,bW]
 · refine ⟨⟨10,0,[],0,[],[],bW⟩,true,true,true,j1,?_,.hole,hj1⟩;rw [aR (af:=g247) rfl (by simp [tn,tsh,tl,g247])];rcases hd with ⟨rfl,h2⟩ | ⟨h1,rfl⟩
   · simp [tn,tsh,tl,g247,e1,h2,eo,gI,bW]
   · simp [tn,tsh,tl,g247,e1,h1,eo,gI,bW]
theorem Gj {L:List Int} {tm:Nat} {TP:Int→Sh} (hT:Tape L tm TP) (hL:Sm L) {ds:List Dt} (hds:ds.length≤8) (hD:∀d∈ds,D8 d) {dep:Nat} (hdep:dep<1000) (hg:qJ L tm TP ds dep) {i j1:Nat} {k:Int} (hj1:j1≤L.length)
   (e1:(aP AP).i 68 [.br tm 0,.pv (vI 14)] (TP i) []=some ([.pv (vI k)],TP j1,[])) (k5:5≤k) (k12:k≤12) :
   ∃(e:Ex) (fk fa fg:Bool) (j:Nat),(aP AP).i 247 [.br tm 0,.pv (.aI (ds.map Dt.pv)),.pv (vI (dep+1:Nat))] (TP i) []=some ([.agg (eo fk fa fg e)],TP j,[])∧gp ds (dep+1) e∧j≤L.length:=by
 have tn:=hT.norm;have tsh:=hT.shift;have tl:=hT.take
 try simp [tn,tsh,tl] at e1
 have h1:¬((dep:Int)+1<1):=by omega
 have h2:(dep:Int)+1-1=dep:=by omega
 have hc:k=5∨k=6∨k=7∨k=8∨k=9∨k=10∨k=11∨k=12:=by omega
 have hlam:k=5∨k=6→∃(e:Ex) (fk fa fg:Bool) (j:Nat),(aP AP).i 247 [.br tm 0,.pv (.aI (ds.map Dt.pv)),.pv (vI (dep+1:Nat))] (TP i) []=some ([.agg (eo fk fa fg e)],TP j,[])∧gp ds (dep+1) e∧j≤L.length:=by
   intro h;obtain ⟨s,j2,e2,hs,hj2⟩:=Gi hT hL hj1;obtain ⟨a,f1,f2,f3,j3,e3,ha,hj3⟩:=hg j2 hj2;have hA:=ek f1 f2 f3 a;generalize eo f1 f2 f3 a=A at e3 hA
   try simp [tn,tsh,tl] at e2 e3
   refine ⟨⟨4,0,s,0,[a],[],bW⟩,true,true,true,j3,?_,.lam hs ha,hj3⟩;rw [aR (af:=g247) rfl (by simp [tn,tsh,tl,g247])];have ac:=Ex.bS a;rcases h with rfl | rfl<;>simp (disch:=omega) [tn,tsh,tl,g247,e1,h1,h2,az,e2,e3,hA.dR,hA.flat,hA.iC,hA.len,hA.leaf,ac,eo,gI,bW]
 have happ:k=7∨k=8∨k=9→∃(e:Ex) (fk fa fg:Bool) (j:Nat),(aP AP).i 247 [.br tm 0,.pv (.aI (ds.map Dt.pv)),.pv (vI (dep+1:Nat))] (TP i) []=some ([.agg (eo fk fa fg e)],TP j,[])∧gp ds (dep+1) e∧j≤L.length:=by
   intro h;obtain ⟨a,f1,f2,f3,j2,e2,ha,hj2⟩:=hg j1 hj1;obtain ⟨b,f4,f5,f6,j3,e3,hb,hj3⟩:=hg j2 hj2;have hA:=ek f1 f2 f3 a;generalize eo f1 f2 f3 a=A at e2 hA;have hB:=ek f4 f5 f6 b;generalize eo f4 f5 f6 b=B at e3 hB
   try simp [tn,tsh,tl] at e2 e3
   refine ⟨⟨5,0,[],0,[a,b],[],bW⟩,true,true,true,j3,?_,.app ha hb,hj3⟩;rw [aR (af:=g247) rfl (by simp [tn,tsh,tl,g247])];have ac:=Ex.bS a;have bc:=Ex.bS b;have tA:A.take 11=A:=List.take_of_length_le (by rw [hA.len];omega);rcases h with rfl | rfl | rfl<;>simp (disch:=omega) [tn,tsh,tl,g247,e1,h1,h2,az,e2,e3,hA.dR,hA.flat,hA.iC,hA.len,hA.leaf,hB.dR,hB.flat,hB.iC,hB.len,hB.leaf,tA,ac,bc,aK,eo,gI,bW]
 rcases hc with h | h | h | h | h | rfl | rfl | rfl
 · exact hlam (.inl h)
 · exact hlam (.inr h)
 · exact happ (.inl h)
 · exact happ (.inr (.inl h))
 · exact happ (.inr (.inr h))
 · obtain ⟨r,j2,e2,r0,r1,hj2⟩:=nj hT hL hj1 (n:=2) (by omega) (by omega);obtain ⟨s,j3,e3,hs,hj3⟩:=Gi hT hL hj2;obtain ⟨a,f1,f2,f3,j4,e4,ha,hj4⟩:=hg j3 hj3;obtain ⟨b,f4,f5,f6,j5,e5,hb,hj5⟩:=hg j4 hj4;have hA:=ek f1 f2 f3 a;generalize eo f1 f2 f3 a=A at e4 hA;have hB:=ek f4 f5 f6 b;generalize eo f4 f5 f6 b=B at e5 hB
   try simp [tn,tsh,tl] at e2 e3 e4 e5
   have ac:=Ex.bS a;have bc:=Ex.bS b;have tA:A.take 11=A:=List.take_of_length_le (by rw [hA.len];omega);have hk:6+r=6∨6+r=7:=(by omega);refine ⟨⟨6+r,0,s,0,[a,b],[],bW⟩,true,true,true,j5,?_,.y7 hk hs ha hb,hj5⟩;rw [aR (af:=g247) rfl (by simp [tn,tsh,tl,g247])];simp (disch:=omega) [tn,tsh,tl,g247,e1,h1,h2,az,e2,e3,e4,e5,hA.dR,hA.flat,hA.iC,hA.len,hA.leaf,hB.dR,hB.flat,hB.iC,hB.len,hB.leaf,tA,ac,bc,aK,eo,gI,bW]
 · obtain ⟨a,f1,f2,f3,j2,e2,ha,hj2⟩:=hg j1 hj1;have hA:=ek f1 f2 f3 a;generalize eo f1 f2 f3 a=A at e2 hA;obtain ⟨t,j3,e3,ht,hj3⟩:=Nz hT hL (ds:=ds) (by omega) (fun d hd=>(hD d hd).1) (lv:=[]) (by simp [tn,tsh,tl,Sm]) 2 (by omega) j2 hj2;simp [tn,tsh,tl,Ty.av] at e2 e3;have ac:=Ex.bS a;refine ⟨⟨9,0,[],0,[a],[],t⟩,true,true,false,j3,?_,.LN ha ht,hj3⟩;rw [aR (af:=g247) rfl (by simp [tn,tsh,tl,g247])];simp (disch:=omega) [tn,tsh,tl,g247,e1,h1,h2,az,e2,e3,hA.dR,hA.flat,hA.iC,hA.len,hA.leaf,ac,eo,gI,bW]
 · obtain ⟨a,f1,f2,f3,j2,e2,ha,hj2⟩:=hg j1 hj1;have hA:=ek f1 f2 f3 a;generalize eo f1 f2 f3 a=A at e2 hA
   try simp [tn,tsh,tl] at e2
   have ac:=Ex.bS a;refine ⟨⟨11,0,[],0,[a],[],bW⟩,true,true,true,j2,?_,.held ha,hj2⟩;rw [aR (af:=g247) rfl (by simp [tn,tsh,tl,g247])];simp (disch:=omega) [tn,tsh,tl,g247,e1,h1,h2,az,e2,hA.dR,hA.flat,hA.iC,hA.len,hA.leaf,ac,eo,gI,bW]
theorem Jm {L:List Int} {tm:Nat} {TP:Int→Sh} (hT:Tape L tm TP) (hL:Sm L) {ds:List Dt} {dep:Nat} {d:Dt} {a:Ex} {as:List Ar} {ci:Nat} {c:p7} (hc:d.cons[ci]?=some c) (h8:c.fields.length≤8):∀(n k:Nat),c.fields.length-k=n→k≤c.fields.length→∀(vs:List cS) (i:Nat),vs.length=k→(∀v∈vs,v∈nf)→i≤L.length →
   ∃(r:List cS) (j:Nat),cl AP g247L1 ⟨[(0,.br tm 0),(1,.pv (.aI (ds.map Dt.pv))),(2,.pv (vI (dep+1))),(6,.aG 6 0),(13,.aG 13 0),(14,.aG 14 0),(15,.pv (vI ci)),(16,.aG 16 0),(17,.pv (vI k))],
     [(6,m6),(13,qD d),(14,K0 a as),(16,Pm c vs)],TP i,[0,0,0,1,as.length,0,vs.length,0,0,0]⟩ =
     some (.exit 3,⟨[(0,.br tm 0),(1,.pv (.aI (ds.map Dt.pv))),(2,.pv (vI (dep+1))),(6,.aG 6 0),(13,.aG 13 0),(14,.aG 14 0),(15,.pv (vI ci)),(16,.aG 16 0),(17,.pv (vI c.fields.length)),(179,.pv (.bool false))],
     [(6,m6),(13,qD d),(14,K0 a as),(16,Pm c r)],TP j,[0,0,0,1,as.length,0,r.length,0,0,0]⟩) ∧
     r.length=c.fields.length∧(∀v∈r,v∈nf)∧j≤L.length
 | 0,k,hn,hk,vs,i,hv,hm,hi=>by
   have tn:=hT.norm;have tsh:=hT.shift;have tl:=hT.take;have:k=c.fields.length:=(by omega);subst this;refine ⟨vs,i,?_,hv,hm,hi⟩;have hcl:=(List.getElem?_eq_some_iff.1 hc).1;rw [g247L1e];simp [tn,tsh,tl,-getElem?_pos,g247B1,m6,qD,K0,Pm,hc,hcl]
 | n+1,k,hn,hk,vs,i,hv,hm,hi=>by
   have tn:=hT.norm;have tsh:=hT.shift;have tl:=hT.take;have hk:k<c.fields.length:=(by omega);have hcl:=(List.getElem?_eq_some_iff.1 hc).1;have hb:(vs.length+1)*16≤140737488355328:=(by omega);obtain ⟨s,j,e,hs,hj⟩:=Gi hT hL hi
   try simp [tn,tsh,tl] at e
   obtain ⟨r,j',e',hr,hm',hj'⟩:=Jm hT hL hc h8 (a:=a) (as:=as) (ds:=ds) (dep:=dep) n (k+1) (by omega) (by omega) (vs++[s]) j (by simp;omega) (by
     intro x hx;simp at hx;rcases hx with hx | rfl
     · exact hm x hx
     · exact hs) hj
   refine ⟨r,j',?_,hr,hm',hj'⟩;simp [tn,tsh,tl,m6,qD,K0,Pm] at e' ⊢;rw [g247L1e];simp (disch:=omega) [tn,tsh,tl,-getElem?_pos,g247B1,hc,hcl,hk,az,e,hb,aK];exact e'
theorem Jn {L:List Int} {tm:Nat} {TP:Int→Sh} (hT:Tape L tm TP) (hL:Sm L) {ds:List Dt} {dep:Nat} (hdep:dep<1000) (hg:qJ L tm TP ds dep) {d:Dt} (hD:D8 d) {a:Ex}:∀(n k:Nat),d.cons.length-k=n→k≤d.cons.length→∀(as:List Ar) (i:Nat),as.length=k→Cd ds dep d as→i≤L.length →
   ∃(r:List Ar) (j:Nat),cl AP g247L0 ⟨[(0,.br tm 0),(1,.pv (.aI (ds.map Dt.pv))),(2,.pv (vI (dep+1))),(6,.aG 6 0),(13,.aG 13 0),(14,.aG 14 0),(15,.pv (vI k))],
     [(6,m6),(13,qD d),(14,K0 a as)],TP i,[0,0,0,1,as.length,0]⟩ =
     some (.exit 1,⟨[(0,.br tm 0),(1,.pv (.aI (ds.map Dt.pv))),(2,.pv (vI (dep+1))),(6,.aG 6 0),(13,.aG 13 0),(14,.aG 14 0),(15,.pv (vI d.cons.length)),(161,.pv (.bool false))],
     [(6,m6),(13,qD d),(14,K0 a r)],TP j,[0,0,0,1,r.length,0]⟩) ∧
     r.length=d.cons.length∧Cd ds dep d r∧j≤L.length
 | 0,k,hn,hk,as,i,ha,hm,hi=>by
   have tn:=hT.norm;have tsh:=hT.shift;have tl:=hT.take;have:k=d.cons.length:=(by omega);subst this;refine ⟨as,i,?_,ha,hm,hi⟩;rw [g247L0e];simp [tn,tsh,tl,g247B0,m6,qD,K0]
 | n+1,k,hn,hk,as,i,ha,hm,hi=>by
   have tn:=hT.norm;have tsh:=hT.shift;have tl:=hT.take;have hk:k<d.cons.length:=(by omega);obtain ⟨c,hc⟩:=bD hk;obtain ⟨_,_,h8,hf⟩:=hD;obtain ⟨vs,j,e,hv,hvm,hj⟩:=Jm hT hL (ds:=ds) (dep:=dep) (a:=a) (as:=as) hc (hf c (bt hc)) _ 0 rfl (by omega) [] i rfl (by simp) hi;obtain ⟨b,f1,f2,f3,j2,e2,hb,hj2⟩:=hg j hj;have hB:=ek f1 f2 f3 b;generalize eo f1 f2 f3 b=B at e2 hB;have bc:=Ex.bS b;have tB:B.take 11=B:=List.take_of_length_le (by rw [hB.len];omega);have hbb:(as.length+1)*200≤140737488355328:=by omega
   have hm2:Cd ds dep d (as++[⟨0,c.name,vs,b⟩]):=by
     refine ⟨?_,?_,?_⟩
     · intro x hx
       try simp [tn,tsh,tl] at hx
       rcases hx with hx | rfl
       · exact hm.1 x hx
       · exact hb
     · intro x hx
       try simp [tn,tsh,tl] at hx
       rcases hx with hx | rfl
       · exact hm.2.1 x hx
       · exact ⟨rfl,hvm⟩
     · intro i c' x h1 h2;by_cases hlt:i<as.length
       · rw [List.getElem?_append_left hlt] at h2;exact hm.2.2 i c' x h1 h2
       · rw [List.getElem?_append_right (by omega)] at h2
         have:i-as.length=0:=by
           have:=(List.getElem?_eq_some_iff.1 h2).1;simpa using this
         have hik:i=k:=(by omega);subst hik;rw [hc] at h1;cases h1;rw [this] at h2
         try simp [tn,tsh,tl] at h2
         subst h2;exact ⟨rfl,hv⟩
   obtain ⟨r,j',e',hr,hm',hj'⟩:=Jn hT hL hdep hg ⟨by assumption,by assumption,h8,hf⟩ (a:=a) n (k+1) (by omega) (by omega) (as++[⟨0,c.name,vs,b⟩]) j2 (by simp;omega) hm2 hj2;refine ⟨r,j',?_,hr,hm',hj'⟩;have hd1:(dep:Int)+1-1=dep:=by omega
   rw [g247L1e] at e;rw [g247L0e] at e';simp [tn,tsh,tl,m6,qD,K0,Pm] at e e' e2 ⊢;rw [g247L0e];simp (disch:=omega) [tn,tsh,tl,-getElem?_pos,g247B0,hc,hk,az,hd1,g247L1e,e,e2,hbb,aK,hB.dR,hB.flat,hB.iC,hB.len,hB.leaf,tB,bc];rw [g247L0e];simp [tn,tsh,tl,e']
theorem Gk {L:List Int} {tm:Nat} {TP:Int→Sh} (hT:Tape L tm TP) (hL:Sm L) {ds:List Dt} (hds:ds.length≤8) (hD:∀d∈ds,D8 d) {dep:Nat} (hdep:dep<1000) (hg:qJ L tm TP ds dep) {i j1:Nat} {k:Int} (hj1:j1≤L.length)
   (e1:(aP AP).i 68 [.br tm 0,.pv (vI 14)] (TP i) []=some ([.pv (vI k)],TP j1,[])) (k13:k=13) :
   ∃(e:Ex) (fk fa fg:Bool) (j:Nat),(aP AP).i 247 [.br tm 0,.pv (.aI (ds.map Dt.pv)),.pv (vI (dep+1:Nat))] (TP i) []=some ([.agg (eo fk fa fg e)],TP j,[])∧gp ds (dep+1) e∧j≤L.length:=by
 have tn:=hT.norm;have tsh:=hT.shift;have tl:=hT.take;subst k13
 try simp [tn,tsh,tl] at e1
 have h1:¬((dep:Int)+1<1):=by omega
 have h2:(dep:Int)+1-1=dep:=by omega
 by_cases h0:ds=[]
 · subst h0;obtain ⟨a,f1,f2,f3,j2,e2,ha,hj2⟩:=hg j1 hj1;refine ⟨a,f1,f2,f3,j2,?_,.up ha,hj2⟩;rw [aR (af:=g247) rfl (by simp [tn,tsh,tl,g247])];cases f1<;>cases f2<;>cases f3<;>simp [tn,tsh,tl,eo,gI] at e2<;>simp (disch:=omega) [tn,tsh,tl,g247,e1,h1,h2,az,e2,eo,gI,aK]
 · have hp:0<ds.length:=List.length_pos_iff.2 h0;obtain ⟨r,j2,e2,r0,r1,hj2⟩:=nj hT hL hj1 (n:=ds.length) (by omega) (by omega);obtain ⟨m,rfl,hm⟩:=kW r0 r1;obtain ⟨d,hx⟩:=bD hm;have hDd:=hD d (bt hx);obtain ⟨a,f1,f2,f3,j3,e3,ha,hj3⟩:=hg j2 hj2;have hA:=ek f1 f2 f3 a;generalize eo f1 f2 f3 a=A at e3 hA;have ac:=Ex.bS a;obtain ⟨as,j4,e4,KN,hao,hj4⟩:=Jn hT hL hdep hg hDd (a:=a) _ 0 rfl (by omega) [] j3 rfl ⟨by simp,by simp,by simp⟩ hj3
   try simp [tn,tsh,tl] at e2 e3
   refine ⟨⟨8,0,[],0,[a],as,bW⟩,false,false,false,j4,?_,.sK (bt hx) ha KN hao.1 hao.2.1 hao.2.2,hj4⟩;rw [aR (af:=g247) rfl (by simp [tn,tsh,tl,g247])];rw [g247L0e] at e4;simp [tn,tsh,tl,m6,qD,K0] at e4;simp (disch:=omega) [tn,tsh,tl,-getElem?_pos,g247,e1,h1,h2,h0,az,e2,e3,hp,hx,hA.dR,hA.flat,hA.iC,hA.len,hA.leaf,ac,g247L0e,e4,aK,eo,gI,bW]
theorem PX {L:List Int} {tm:Nat} {TP:Int→Sh} (hT:Tape L tm TP) (hL:Sm L) {ds:List Dt} (hds:ds.length≤8) (hD:∀d∈ds,D8 d):∀dep:Nat,dep<1000→qJ L tm TP ds dep
 | 0,_=>fun i hi=>by
   have tn:=hT.norm;have tsh:=hT.shift;have tl:=hT.take;obtain ⟨k,j1,e1,k0,k14,hj1⟩:=nj hT hL hi (n:=14) (by omega) (by omega);exact uM hT hL hds hD hj1 e1 k0 (by simp)
 | dep+1,h=>fun i hi=>by
   have tn:=hT.norm;have tsh:=hT.shift;have tl:=hT.take;obtain ⟨k,j1,e1,k0,k14,hj1⟩:=nj hT hL hi (n:=14) (by omega) (by omega);have hg:=PX hT hL hds hD dep (by omega);by_cases h5:k<5
   · exact uM hT hL hds hD hj1 e1 k0 (by simpa using h5)
   · by_cases h12:k≤12
     · exact Gj hT hL hds hD (by omega) hg hj1 e1 (by omega) h12
     · exact Gk hT hL hds hD (by omega) hg hj1 e1 (by omega)
theorem iJ:bW.Ok:=da rfl
structure uN (n:Nat) (e:Ex):Prop where
 sc:zd e
 h:e.zc n
 w:e.sz≤wN n
 tx:mm e
theorem jJ {n m:Nat} {e:Ex} (h:e.zc n):n≤m→e.zc m:=by
 induction h generalizing m with
 | mk _ ih=>
   intro hm;obtain ⟨k,rfl⟩:∃k,m=k+1:=⟨m-1,by omega⟩;exact .mk fun x hx=>ih x hx (by omega)
theorem uN.up {n m:Nat} {e:Ex} (h:uN n e) (hm:n≤m):uN m e:=⟨h.sc,jJ h.h hm,Nat.le_trans h.w (Pg hm),h.tx⟩
theorem iK:bW.Cw:=⟨fun _=>rfl,by simp [bW]⟩
theorem zx {m:Nat} {l:List Ex} (hl:l.length≤10) (h:∀x∈l,x.sz≤50 ^ m):1+(l.map Ex.sz).sum≤50 ^ (m+1):=by
 have h1:=sI h;have h2:l.length*50 ^ m≤10*50 ^ m:=Nat.mul_le_mul_right _ hl;have h3:1≤50 ^ m:=Nat.one_le_pow m 50 (by decide);rw [Nat.pow_succ];generalize 50 ^ m=P at *;omega
theorem fE {n:Nat} {k:Int} {s:cS} {m:Int} {l:List Ex} {t:Ty} (hk:k≠8) (hl:l.length≤10) (ht:t.Ok) (hc:t.Cw) (hx:∀x∈l,uN (12*n) x) (tx:mm ⟨k,0,s,m,l,[],t⟩):uN (12*(n+1)) ⟨k,0,s,m,l,[],t⟩ where
 sc:=⟨.mk (by simp only;omega) (by simp) (by simp) ht (by simpa [Ex.ch] using fun x h=>(hx x h).sc.ok),.mk (fun h=>absurd h hk) (by simpa [Ex.ch] using fun x h=>(hx x h).sc.one),.mk hc (by simpa [Ex.ch] using fun x h=>(hx x h).sc.cw)⟩
 h:=jJ (n:=12*n+1) (.mk (by simpa [Ex.ch] using fun x h=>(hx x h).h)) (by omega)
 w:=by
   rw [sL,Ex.p8];have e:(⟨k,0,s,m,l,[],t⟩:Ex).ch=l:=by simp [Ex.ch]
   rw [e];exact zx hl fun x h=>by have:=(hx x h).w;rwa [sL] at this
 tx:=tx
theorem eD {k:Int} {s:cS} {m:Int} (hk:(k=1∨k=2)∧s.length≤100∨k=3∧0≤m∧m<4∨k=10):uN 12 ⟨k,0,s,m,[],[],bW⟩:=fE (n:=0) (by omega) (by simp) iJ iK (by simp) (.leaf hk rfl rfl)
theorem Lh {n r:Nat} (hr:r<11) {k:Int} {s:cS} {m:Int} {ks:List Ex} {y:Ex} (hf:uN (12*n+r) ⟨k,0,s,m,ks,[],bW⟩) (hy:uN (12*n) y):uN (12*n+r+1) ⟨5,0,[],0,[⟨k,0,s,m,ks,[],bW⟩,y],[],bW⟩ where
 sc:=⟨.mk (by simp) (by simp) (by simp) iJ (by simpa [Ex.ch] using ⟨hf.sc.ok,hy.sc.ok⟩),.mk (fun h=>absurd (show (5:Int)=8 from h) (by decide)) (by simpa [Ex.ch] using ⟨hf.sc.one,hy.sc.one⟩),.mk iK (by simpa [Ex.ch] using ⟨hf.sc.cw,hy.sc.cw⟩)⟩
 h:=.mk (by simpa [Ex.ch] using ⟨hf.h,jJ hy.h (by omega)⟩)
 w:=by
   have h1:=hf.w;have h2:=hy.w;rw [sL] at h2;have h3:1≤50 ^ n:=Nat.one_le_pow n 50 (by decide);rw [Ex.p8];have e:(⟨5,0,[],0,[⟨k,0,s,m,ks,[],bW⟩,y],[],bW⟩:Ex).ch=[⟨k,0,s,m,ks,[],bW⟩,y]:=(by simp [Ex.ch]);rw [e];simp only [List.map_cons,List.map_nil,List.sum_cons,List.sum_nil];unfold wN at h1 ⊢;have e1:(12*n+r) / 12=n:=(by omega);have e2:(12*n+r) % 12=r:=(by omega);have e3:(12*n+r+1) / 12=n:=(by omega);have e4:(12*n+r+1) % 12=r+1:=(by omega);rw [e1,e2] at h1;rw [e3,e4];have e5:50 ^ n*(2*(r+1)+1)=50 ^ n*(2*r+1)+2*50 ^ n:=(by rw [show 2*(r+1)+1=(2*r+1)+2 from by omega,Nat.mul_add];omega);rw [e5];omega
 tx:=.app rfl rfl rfl hf.tx hy.tx
theorem NA {L:List Int} {tm:Nat} {TP:Int→Sh} (hT:Tape L tm TP) {I:Nat} {g:Ty} (hg:cx g) {E:List En} (hE:E.length≤10000) (hc:∀x∈E,kZ x.sc) (hnm:∀x∈E,x.name.length≤100):∀(n i:Nat),E.length-i=n→i≤E.length→∀acc:List cS,acc.length≤i→(∀s∈acc,s.length≤100) →
   ∃fs:List cS,fs.length≤E.length∧(∀s∈fs,s.length≤100)∧cl AP g348L0 ⟨[(0,.br tm 0),(7,.aG 7 0),(8,.aG 8 0),(9,.own (acc.map .str) 0),(10,.pv (.aI (E.map En.pv))),(11,.pv (vI i))],[(7,tC g),(8,oh 1)],TP I,[acc.length,0,0,0]⟩ =
     some (.exit 0,⟨[(0,.br tm 0),(7,.aG 7 0),(8,.aG 8 0),(9,.own (fs.map .str) 0),(10,.pv (.aI (E.map En.pv))),(11,.pv (vI E.length)),(19,.pv (.bool false))],[(7,tC g),(8,oh 1)],TP I,[fs.length,0,0,0]⟩)
 | 0,i,hn,hi,acc,ha,hsn=>by
   have tn:=hT.norm;have tsh:=hT.shift;have tl:=hT.take;have:i=E.length:=(by omega);subst this;refine ⟨acc,ha,hsn,?_⟩;rw [g348L0e];simp [tn,tsh,tl,g348B0,tC,oh]
 | n+1,i,hn,hi,acc,ha,hsn=>by
   have tn:=hT.norm;have tsh:=hT.shift;have tl:=hT.take;have hi:i<E.length:=(by omega);obtain ⟨x,hx⟩:=bD hi;obtain ⟨K,q1,q2,q3⟩:=(hc x (bt hx)).PS;have k:=c238 (N:=K) (by omega) (p:=x.sc.ty) hg.ok q3;have hb:(acc.length+1)*16≤140737488355328:=(by omega);cases hI:Jh K x.sc.ty g with
   | none=>
     obtain ⟨fs,h1,h1n,e'⟩:=NA hT (L:=L) (I:=I) hg hE hc hnm n (i+1) (by omega) (by omega) acc (by omega) hsn;refine ⟨fs,h1,h1n,?_⟩;rw [hI] at k;rw [g348L0e] at e' ⊢;simp [tn,tsh,tl,tC,oh] at e';simp [tn,tsh,tl,rI] at k;simp (disch:=omega) [tn,tsh,tl,-getElem?_pos,g348B0,tC,oh,hx,hi,q1,k,az];rw [g348L0e];simp [tn,tsh,tl,e']
   | some l=>
     obtain ⟨fs,h1,h1n,e'⟩:=NA hT (L:=L) (I:=I) hg hE hc hnm n (i+1) (by omega) (by omega) (acc++[x.name]) (by simp;omega) (by
       intro s hs;simp only [List.mem_append,List.mem_singleton] at hs;rcases hs with hs | rfl
       · exact hsn s hs
       · exact hnm x (bt hx))
     refine ⟨fs,h1,h1n,?_⟩;rw [hI] at k;rw [g348L0e] at e' ⊢;simp [tn,tsh,tl,tC,oh] at e';simp [tn,tsh,tl,rI] at k;simp (disch:=omega) [tn,tsh,tl,-getElem?_pos,g348B0,tC,oh,hx,hi,q1,k,hb,az];rw [g348L0e];simp [tn,tsh,tl,e']
def mw (L:List Int) (tm:Nat) (TP:Int→Sh) (n:Nat) (r:Option (List AV×Sh×aN)):Prop:=∃(e:Ex) (fk fa fg:Bool) (j:Nat),r=some ([.agg (eo fk fa fg e)],TP j,[])∧uN n e∧j≤L.length
structure Ctx (n:Nat) (l:List En):Prop where
 len:l.length≤n
 PY:∀x∈l,kZ x.sc
 nm:∀x∈l,x.name.length≤100
theorem c348 {L:List Int} {tm:Nat} {TP:Int→Sh} (hT:Tape L tm TP) (hL:Sm L) {ds:List Dt} {l:List En} (hl:Ctx 10000 l) {g:Ty} (hg:cx g) {i:Nat} (hi:i≤L.length) :
   mw L tm TP 12 ((aP AP).i 348 [.br tm 0,.pv (.aI (ds.map Dt.pv)),.pv (.aI (l.map En.pv)),.pv g.pv] (TP i) []):=by
 have tn:=hT.norm;have tsh:=hT.shift;have tl:=hT.take;have hsl:=sD l;have hll:=hl.len;have k1:=c201 (l:=l) (by unfold Sm;omega);obtain ⟨fs,hf,hfn,e⟩:=NA hT (L:=L) (I:=i) hg (E:=dM l) (by omega) (fun x hx=>hl.PY x (lO l x hx)) (fun x hx=>hl.nm x (lO l x hx)) _ 0 rfl (by omega) [] (by simp) (by simp);generalize dM l=E at *;have k2:=c20 (a:=g) (b:=bB) hg.ok;have k3:=c34;rw [g348L0e] at e;simp [tn,tsh,tl,tC,oh] at e k1 k3
 have tail:∀j,j≤L.length→(g=bB∧∃r j1,0≤r∧j1≤L.length∧(aP AP).i 68 [.br tm 0,.pv (vI 4)] (TP j) []=some ([.pv (vI r)],TP j1,[]))∨¬g=bB:=by
   intro j hj;by_cases q:g=bB
   · obtain ⟨r,j1,e1,r0,_,hj1⟩:=nj hT hL hj (n:=4) (by omega) (by omega);exact .inl ⟨q,r,j1,r0,hj1,e1⟩
   · exact .inr q
 by_cases OP:fs=[]
 · subst OP
   try simp [tn,tsh,tl] at e
   rcases tail i hi with ⟨q,r,j1,r0,hj1,e1⟩ | q
   · rw [decide_eq_true q] at k2;subst q
     try simp [tn,tsh,tl] at k2 e1
     by_cases hr:0<r
     · obtain ⟨m,j2,e2,m0,m1,hj2⟩:=nj hT hL hj1 (n:=3) (by omega) (by omega);refine ⟨⟨3,0,[],m,[],[],bW⟩,true,true,true,j2,?_,eD (.inr (.inl ⟨rfl,m0,by omega⟩)),hj2⟩
       try simp [tn,tsh,tl] at e2
       simp [tn,tsh,tl,bB] at k2 k3 e;rw [aR (af:=g348) rfl (by simp [tn,tsh,tl,g348])];simp [tn,tsh,tl,g348,k1,g348L0e,e,k3,k2,e1,hr,e2,eo,gI,bW,bB]
     · refine ⟨⟨10,0,[],0,[],[],bW⟩,true,true,true,j1,?_,eD (.inr (.inr rfl)),hj1⟩;simp [tn,tsh,tl,bB] at k2 k3 e;rw [aR (af:=g348) rfl (by simp [tn,tsh,tl,g348])];simp [tn,tsh,tl,g348,k1,g348L0e,e,k3,k2,e1,hr,eo,gI,bW,bB]
   · rw [decide_eq_false q] at k2;refine ⟨⟨10,0,[],0,[],[],bW⟩,true,true,true,i,?_,eD (.inr (.inr rfl)),hi⟩;simp [tn,tsh,tl,bB] at k2 k3;rw [aR (af:=g348) rfl (by simp [tn,tsh,tl,g348])];simp [tn,tsh,tl,g348,k1,g348L0e,e,k3,k2,eo,gI,bW,bB]
 · have hp:0<fs.length:=List.length_pos_iff.2 OP;obtain ⟨r6,j6,e6,r60,_,hj6⟩:=nj hT hL hi (n:=6) (by omega) (by omega)
   try simp [tn,tsh,tl] at e6
   by_cases h6:0<r6
   · obtain ⟨m,j7,e7,m0,m1,hj7⟩:=nj hT hL hj6 (n:=fs.length) (by omega) (by omega);obtain ⟨m,rfl,hm⟩:=kW m0 m1;obtain ⟨s,hs⟩:=bD hm;refine ⟨⟨1,0,s,0,[],[],bW⟩,true,true,true,j7,?_,eD (.inl ⟨.inl rfl,hfn s (bt hs)⟩),hj7⟩
     try simp [tn,tsh,tl] at e7
     rw [aR (af:=g348) rfl (by simp [tn,tsh,tl,g348])];simp [tn,tsh,tl,-getElem?_pos,g348,k1,g348L0e,e,hp,e6,h6,e7,hs,eo,gI,bW]
   · rcases tail j6 hj6 with ⟨q,r,j1,r0,hj1,e1⟩ | q
     · rw [decide_eq_true q] at k2;subst q
       try simp [tn,tsh,tl] at k2 e1
       by_cases hr:0<r
       · obtain ⟨m,j2,e2,m0,m1,hj2⟩:=nj hT hL hj1 (n:=3) (by omega) (by omega);refine ⟨⟨3,0,[],m,[],[],bW⟩,true,true,true,j2,?_,eD (.inr (.inl ⟨rfl,m0,by omega⟩)),hj2⟩
         try simp [tn,tsh,tl] at e2
         simp [tn,tsh,tl,bB] at k2 k3 e;rw [aR (af:=g348) rfl (by simp [tn,tsh,tl,g348])];simp [tn,tsh,tl,g348,k1,g348L0e,e,hp,e6,h6,k3,k2,e1,hr,e2,eo,gI,bW,bB]
       · refine ⟨⟨10,0,[],0,[],[],bW⟩,true,true,true,j1,?_,eD (.inr (.inr rfl)),hj1⟩;simp [tn,tsh,tl,bB] at k2 k3 e;rw [aR (af:=g348) rfl (by simp [tn,tsh,tl,g348])];simp [tn,tsh,tl,g348,k1,g348L0e,e,hp,e6,h6,k3,k2,e1,hr,eo,gI,bW,bB]
     · rw [decide_eq_false q] at k2;refine ⟨⟨10,0,[],0,[],[],bW⟩,true,true,true,j6,?_,eD (.inr (.inr rfl)),hj6⟩;simp [tn,tsh,tl,bB] at k2 k3;rw [aR (af:=g348) rfl (by simp [tn,tsh,tl,g348])];simp [tn,tsh,tl,g348,k1,g348L0e,e,hp,e6,h6,k3,k2,eo,gI,bW,bB]
def jK (L:List Int) (tm:Nat) (TP:Int→Sh) (ds:List Dt) (dep:Nat):Prop:=∀(i:Nat) (l:List En) (g:Ty),i≤L.length→Ctx (1000-20*dep) l→cx g→g.nodes.length≤6000-20*dep →
 mw L tm TP (12*(dep+1)) ((aP AP).i 326 [.br tm 0,.pv (.aI (ds.map Dt.pv)),.pv (.aI (l.map En.pv)),.pv g.pv,.pv (vI dep)] (TP i) [])
theorem Ctx.push {n m:Nat} {l:List En} (h:Ctx n l) {s:cS} {c:Sc} (hc:kZ c) (hs:s.length≤100) (hm:n+1≤m):Ctx m (l++[⟨s,c⟩]):=⟨by have:=h.len;simp;omega,by
 intro x hx;simp at hx;rcases hx with hx | rfl
 · exact h.PY x hx
 · exact hc,by
 intro x hx;simp at hx;rcases hx with hx | rfl
 · exact h.nm x hx
 · exact hs⟩
theorem Ctx.gW {n m:Nat} {l:List En} (h:Ctx n l) (hm:n≤m):Ctx m l:=⟨by have:=h.len;omega,h.PY,h.nm⟩
theorem kJ {D:Dt→Prop} (hD:∀d,D d→d.params.length≤8) (hN:∀d,D d→d.name.length≤100) {lv:List Ty} (h:∀t∈lv,t.args=[]∧t.kind=3∧t.name=[]) {n:Nat} {t:Ty} (m:gR D lv n t):cx t:=by
 refine ⟨m.ok hD (fun t ht=>(h t ht).1),?_⟩;induction m with
 | leaf hl=>exact .bare (h _ hl).1 (fun _=>by rw [(h _ hl).2.1];simp) (by rw [(h _ hl).2.2];simp)
 | int=>exact .bare rfl (by simp [bB]) (by simp [bB])
 | iV hd _ _ ih=>exact .mk (by simp) (hN _ hd) ih
 | arrow _ _ iha ihb=>exact .mk (by simp) (by simp) (by intro x hx;simp at hx;rcases hx with rfl | rfl<;>assumption)
theorem cx.arrow {a b:Ty} (ha:cx a) (hb:cx b):cx ⟨4,[45,62],0,0,[a,b]⟩:=⟨⟨by simp [Sm],by intro x hx;simp at hx;rcases hx with rfl | rfl;exact ha.ok;exact hb.ok⟩,.mk (by simp) (by simp) (by intro x hx;simp at hx;rcases hx with rfl | rfl;exact ha.kn;exact hb.kn)⟩
theorem fM:∀s∈varNames,s.length≤100:=by
 intro s hs;simp only [varNames,List.mem_cons,List.not_mem_nil,or_false] at hs;rcases hs with rfl | rfl | rfl | rfl | rfl | rfl | rfl | rfl<;>simp
theorem PZ {g:Ty} (hg:cx g) (h:g.jI 3=false):g.Kn KT:=by
 have hk:=hg.kn;clear hg;induction hk with
 | @mk t hh hn _ ih=>
   rw [Ty.Db,Bool.or_eq_false_iff,List.any_eq_false] at h;refine .mk (fun q=>?_) hn fun x hx=>ih x hx (by simpa using h.2 x hx)
   obtain ⟨a,b⟩:=hh q;refine ⟨?_,b⟩;have:=h.1;simp at a this ⊢;omega
variable {L: List Int}  {tm:Nat} {TP:Int→Sh} {ds:List Dt} {dep:Nat} {l:List En} {g:Ty} {i:Nat}
def sW (L:List Int) (tm:Nat) (TP:Int→Sh) (ds:List Dt) (dep:Nat) (l:List En) (g:Ty) (i:Nat):Prop:=
 mw L tm TP (12*(dep+1)) ((aP AP).i 326 [.br tm 0,.pv (.aI (ds.map Dt.pv)),.pv (.aI (l.map En.pv)),.pv g.pv,.pv (vI dep)] (TP i) [])
theorem Jo (hT:Tape L tm TP) (hL:Sm L) (hl:Ctx 10000 l) (hg:cx g) (hi:i≤L.length):sW L tm TP ds 0 l g i:=by
 have tn:=hT.norm;have tsh:=hT.shift;have tl:=hT.take;obtain ⟨e,f1,f2,f3,j,k,ht,hj⟩:=c348 hT hL (ds:=ds) hl hg hi;refine ⟨e,f1,f2,f3,j,?_,ht.up (by omega),hj⟩;rw [aR (af:=g326) rfl (by simp [tn,tsh,tl,g326])];cases f1<;>cases f2<;>cases f3<;>simp [tn,tsh,tl,eo,gI] at k<;>simp [tn,tsh,tl,g326,k,eo,gI,aK]
theorem Li (hT:Tape L tm TP) (hL:Sm L) (hdep:dep<100) (hl:Ctx 10000 l) (hg:cx g) {j9:Nat} (hj9:j9≤L.length) (e9:(aP AP).i 68 [.br tm 0,.pv (vI 9)] (TP i) []=some ([.pv (vI 0)],TP j9,[])):sW L tm TP ds (dep+1) l g i:=by
 have tn:=hT.norm;have tsh:=hT.shift;have tl:=hT.take;obtain ⟨e,f1,f2,f3,j,k,ht,hj⟩:=c348 hT hL (ds:=ds) hl hg hj9;refine ⟨e,f1,f2,f3,j,?_,ht.up (by omega),hj⟩;have h1:¬((dep:Int)+1<1):=by omega
 try simp [tn,tsh,tl] at e9
 rw [aR (af:=g326) rfl (by simp [tn,tsh,tl,g326])];cases f1<;>cases f2<;>cases f3<;>simp [tn,tsh,tl,eo,gI] at k<;>simp [tn,tsh,tl,g326,h1,e9,k,eo,gI,aK]
structure Jp (L:List Int) (tm:Nat) (TP:Int→Sh) (g:Ty) (i:Nat) (a b:Ty) (ar:Bool) (k r9:Int) (j9 j:Nat):Prop where
 nz:¬r9=0
 e9:(aP AP).i 68 [.br tm 0,.pv (vI 9)] (TP i) []=some ([.pv (vI r9)],TP j9,[])
 arr:(aP AP).p 194 [g.pv]=some [a.pv,b.pv,.bool ar]
 sX:(aP AP).i 68 [.br tm 0,.pv (vI 10)] (TP j9) []=some ([.pv (vI k)],TP j,[])
 hj:j≤L.length
theorem NB (hT:Tape L tm TP) (hL:Sm L) (hdep:dep<10) (hG:jK L tm TP ds dep) (hl:Ctx (1000-20*(dep+1)) l) {a b:Ty} {k r9:Int} {j9 j:Nat} (P:Jp L tm TP g i a b true k r9 j9 j) (hk:k<7) (ha:cx a) (hb:cx b) (hbn:b.nodes.length≤6000-20*dep):sW L tm TP ds (dep+1) l g i:=by
 have tn:=hT.norm;have tsh:=hT.shift;have tl:=hT.take;obtain ⟨nz,e9,arr,sX,hj⟩:=P;obtain ⟨s,j1,e1,hs,hj1⟩:=Gi hT hL hj;have hll:=hl.len;have k1:=c176 (t:=a);have k2:=c179 (l:=l) (by unfold Sm;omega) (n:=s) (c:=⟨0,a⟩);obtain ⟨e,f1,f2,f3,j2,e2,he,hj2⟩:=hG j1 (l++[⟨s,⟨0,a⟩⟩]) b hj1 (hl.push ha.mono (fM _ hs) (by omega)) hb hbn;have hA:=ek f1 f2 f3 e;generalize eo f1 f2 f3 e=A at e2 hA;have ac:=Ex.bS e;refine ⟨⟨4,0,s,0,[e],[],bW⟩,true,true,true,j2,?_,(fE (by decide) (by simp) iJ iK (by simpa using he) (.lam rfl (fM _ hs) rfl rfl he.tx)).up (by omega),hj2⟩;have h1:¬((dep:Int)+1<1):=by omega
 have h2:(dep:Int)+1-1=dep:=by omega
 try simp [tn,tsh,tl] at e9 arr sX e1 k1 k2 e2
 rw [aR (af:=g326) rfl (by simp [tn,tsh,tl,g326])];simp (disch:=omega) [tn,tsh,tl,g326,h1,h2,nz,e9,arr,sX,hk,e1,k1,k2,e2,az,hA.dR,hA.flat,hA.iC,hA.len,hA.leaf,ac,eo,gI,bW]
theorem NC (hT:Tape L tm TP) (hL:Sm L) (hdep:dep<10) (hds:ds.length≤20) (hda:∀d∈ds,d.params.length≤8) (hdn:∀d∈ds,d.name.length≤100) (hG:jK L tm TP ds dep) (hl:Ctx (1000-20*(dep+1)) l) (hg:cx g) (hgn:g.nodes.length≤6000-20*(dep+1)) {a b:Ty} {k r9:Int} {j9 j:Nat} (P:Jp L tm TP g i a b false k r9 j9 j) (hk:k<2):sW L tm TP ds (dep+1) l g i:=by
 have tn:=hT.norm;have tsh:=hT.shift;have tl:=hT.take;obtain ⟨nz,e9,arr,sX,hj⟩:=P;obtain ⟨t,j1,e1,mt,hj1⟩:=Nz hT hL hds hda (lv:=[]) (by simp [tn,tsh,tl,Sm]) 1 (by omega) j hj;have gt:cx t:=kJ hda hdn (by simp) mt;have tn9:=mt.small hda (by simp);have k1:=c69 (a:=t) (b:=g);have hl':Ctx (1000-20*dep) l:=hl.gW (by omega);obtain ⟨x,f1,f2,f3,j2,e2,hx,hj2⟩:=hG j1 l _ hj1 hl' (gt.arrow hg) (by rw [Ty.bh];simp;omega);obtain ⟨y,f4,f5,f6,j3,e3,hy,hj3⟩:=hG j2 l _ hj2 hl' gt (by omega);have hA:=ek f1 f2 f3 x;generalize eo f1 f2 f3 x=A at e2 hA;have hB:=ek f4 f5 f6 y;generalize eo f4 f5 f6 y=B at e3 hB;have ac:=Ex.bS x;have bc:=Ex.bS y;have tA:A.take 11=A:=List.take_of_length_le (by rw [hA.len];omega);refine ⟨⟨5,0,[],0,[x,y],[],bW⟩,true,true,true,j3,?_,(fE (by decide) (by simp) iJ iK (by simpa using ⟨hx,hy⟩) (.app rfl rfl rfl hx.tx hy.tx)).up (by omega),hj3⟩;have h1:¬((dep:Int)+1<1):=by omega
 have h2:(dep:Int)+1-1=dep:=by omega
 simp [tn,tsh,tl,Ty.av] at e9 arr sX e1 k1 e2 e3;rw [aR (af:=g326) rfl (by simp [tn,tsh,tl,g326])];simp (disch:=omega) [tn,tsh,tl,g326,h1,h2,nz,e9,arr,sX,hk,e1,k1,e2,e3,az,hA.dR,hA.flat,hA.iC,hA.len,hA.leaf,hB.dR,hB.flat,hB.iC,hB.len,hB.leaf,tA,ac,bc,aK,eo,gI,bW]
theorem ND (hT:Tape L tm TP) (hL:Sm L) (hdep:dep<10) (hG:jK L tm TP ds dep) (hl:Ctx (1000-20*(dep+1)) l) (hg:cx g) (hgn:g.nodes.length≤6000-20*(dep+1)) {a b:Ty} {r9:Int} {j9 j:Nat} (P:Jp L tm TP g i a b false 4 r9 j9 j) (h3:g.jI 3=false) (h4:g.jI 1=false):sW L tm TP ds (dep+1) l g i:=by
 have tn:=hT.norm;have tsh:=hT.shift;have tl:=hT.take;obtain ⟨nz,e9,arr,sX,hj⟩:=P;have k1:=c351 (k:=3) hg.ok;have k2:=c351 (k:=1) hg.ok;rw [h3] at k1;rw [h4] at k2;have hl':Ctx (1000-20*dep) l:=hl.gW (by omega);obtain ⟨x,f1,f2,f3,j2,e2,hx,hj2⟩:=hG j l _ hj hl' hg (by omega);have hA:=ek f1 f2 f3 x;generalize eo f1 f2 f3 x=A at e2 hA;have ac:=Ex.bS x;refine ⟨⟨9,0,[],0,[x],[],g⟩,true,true,false,j2,?_,(fE (by decide) (by simp) hg.ok hg.kn.cw (by simpa using hx) (.LN rfl rfl rfl (PZ hg h3) (by simp only;omega) hx.tx)).up (by omega),hj2⟩;have h1:¬((dep:Int)+1<1):=by omega
 have h2:(dep:Int)+1-1=dep:=by omega
 try simp [tn,tsh,tl] at e9 arr sX k1 k2 e2
 rw [aR (af:=g326) rfl (by simp [tn,tsh,tl,g326])];simp (disch:=omega) [tn,tsh,tl,g326,h1,h2,nz,e9,arr,sX,k1,k2,e2,az,hA.dR,hA.flat,hA.iC,hA.len,hA.leaf,ac,eo,gI,bW]
theorem Lj (hT:Tape L tm TP) (hL:Sm L) (hdep:dep<10) (hG:jK L tm TP ds dep) (hl:Ctx (1000-20*(dep+1)) l) (hg:cx g) (hgn:g.nodes.length≤6000-20*(dep+1)) {a b:Ty} {r9:Int} {j9 j:Nat} (P:Jp L tm TP g i a b false 5 r9 j9 j):sW L tm TP ds (dep+1) l g i:=by
 have tn:=hT.norm;have tsh:=hT.shift;have tl:=hT.take;obtain ⟨nz,e9,arr,sX,hj⟩:=P;have hl':Ctx (1000-20*dep) l:=hl.gW (by omega);obtain ⟨x,f1,f2,f3,j2,e2,hx,hj2⟩:=hG j l _ hj hl' hg (by omega);have hA:=ek f1 f2 f3 x;generalize eo f1 f2 f3 x=A at e2 hA;have ac:=Ex.bS x;refine ⟨⟨11,0,[],0,[x],[],bW⟩,true,true,true,j2,?_,(fE (by decide) (by simp) iJ iK (by simpa using hx) (.held rfl rfl rfl hx.tx)).up (by omega),hj2⟩;have h1:¬((dep:Int)+1<1):=by omega
 have h2:(dep:Int)+1-1=dep:=by omega
 try simp [tn,tsh,tl] at e9 arr sX e2
 rw [aR (af:=g326) rfl (by simp [tn,tsh,tl,g326])];simp (disch:=omega) [tn,tsh,tl,g326,h1,h2,nz,e9,arr,sX,e2,az,hA.dR,hA.flat,hA.iC,hA.len,hA.leaf,ac,eo,gI,bW]
end Go.Ab.Lw
namespace Go.Ab.Lw
open Ev
structure Q6 (x u:Ty):Prop where
 ok:u.Ok
 kn:u.Kn KS
 vr:∀y∈u.nodes,y.kind=1→∃z∈x.nodes,z.kind=3∧z.home=99∧y.id=IntKind.i64.wrap (900+z.id)
 n:u.nodes.length≤x.nodes.length
structure P0 (x u:Ty):Prop where
 ok:u.Ok
 kn:u.Kn KS
 vr:∀y∈u.nodes,y.kind=1→∃z∈x.nodes,z.kind=3∧z.home=99∧y.id=IntKind.i64.wrap (900+z.id)
theorem Mh {x:Ty} (hx:x.Ok) (IH:∀a∈x.args,∃u:Ty,(aP AP).p 375 [a.pv]=some [u.pv]∧Q6 a u):∀(k i:Nat),x.args.length-i=k→i≤x.args.length→∀acc:List Ty,acc.length=i→(∀u∈acc,P0 x u)→(acc.flatMap Ty.nodes).length≤((x.args.take i).flatMap Ty.nodes).length→∃us:List Ty,
   cl AP g375L0 ⟨[(1,.aG 1 0),(2,.aG 2 0),(3,.aG 3 0),(4,.pv (vI i))],[(1,tC x),(2,zC 0),(3,uC x acc 1)],[],[0,acc.length]⟩ =
     some (.exit 0,⟨[(1,.aG 1 0),(2,.aG 2 0),(3,.aG 3 0),(4,.pv (vI x.args.length)),(23,.pv (.bool false))],[(1,tC x),(2,zC 0),(3,uC x us 1)],[],[0,us.length]⟩)∧us.length=x.args.length∧(∀u∈us,P0 x u)∧(us.flatMap Ty.nodes).length≤(x.args.flatMap Ty.nodes).length
 | 0,i,hk,hi,acc,ha,hu,hc=>by
   have:i=x.args.length:=by omega
   subst this;refine ⟨acc,?_,ha,hu,by simpa using hc⟩;rw [g375L0e];simp [g375B0,tC,zC,uC]
 | k+1,i,hk,hi,acc,ha,hu,hc=>by
   have hi:i<x.args.length:=(by omega);obtain ⟨a,hax⟩:=bD hi;have hsm:=hx.sm;unfold Sm at hsm;obtain ⟨u,e,hO⟩:=IH a (bt hax);have hnn:=hO.n
   obtain ⟨us,e',h1,h2,h3⟩:=Mh hx IH k (i+1) (by omega) (by omega) (acc++[u]) (by simp;omega) (by
     intro y hy;simp at hy;rcases hy with hy | rfl
     · exact hu y hy
     · exact ⟨hO.ok,hO.kn,fun z hz q=>by obtain ⟨w,hw,hr⟩:=hO.vr z hz q;exact ⟨w,Gf a (bt hax) w hw,hr⟩⟩) (by rw [List.take_add_one,hax,List.flatMap_append,List.length_append,List.flatMap_append,List.length_append];simp only [Option.toList_some,List.flatMap_cons,List.flatMap_nil,List.append_nil];omega)
   refine ⟨us,?_,h1,h2,h3⟩;have hb:(acc.length+1)*64≤140737488355328:=by omega
   rw [g375L0e] at e' ⊢;simp at e;simp [tC,zC,uC] at e';simp (disch:=omega) [-getElem?_pos,g375B0,tC,zC,uC,hi,hax,az,e,hb];rw [g375L0e];simp [e']
theorem c375x {t:Ty} (hG:cx t):∃u:Ty,(aP AP).p 375 [t.pv]=some [u.pv]∧Q6 t u:=by
 revert hG
 refine Ty.eU (p:=fun t=>cx t→∃u:Ty,(aP AP).p 375 [t.pv]=some [u.pv]∧Q6 t u) ?_ t;intro t ih hG;have hself:t∈t.nodes:=by rw [Ty.bh];simp
 have hpos:1≤t.nodes.length:=by rw [Ty.bh];simp
 by_cases q:t.kind=3∧t.home=99
 · have k:=c63 (n:=IntKind.i64.wrap (900+t.id));refine ⟨⟨1,[],IntKind.i64.wrap (900+t.id),0,[]⟩,?_,⟨da rfl,.bare rfl (by simp) (by simp),?_,by rw [Ty.bh];simpa using hpos⟩⟩
   · simp at k;rw [aw (af:=g375) rfl rfl (by decide)];simp [g375,q.1,q.2,k]
   · intro y hy _;rw [Ty.bh] at hy;simp at hy;subst hy;exact ⟨t,hself,q.1,q.2,rfl⟩
 · obtain ⟨us,e,h1,h2,h3⟩:=Mh hG.ok (fun a ha=>ih a ha (hG.g_ a ha)) _ 0 rfl (by omega) [] rfl (by simp) (by simp);refine ⟨⟨t.kind,t.name,t.id,t.home,us⟩,?_,⟨⟨by have:=hG.ok.sm;unfold Sm at *;simp only;omega,fun y hy=>(h2 y hy).ok⟩,.mk (fun r=>?_) hG.kn.nm fun y hy=>(h2 y hy).kn,?_,by rw [Ty.bh,Ty.bh t];simp only [List.length_cons];omega⟩⟩
   · rw [aw (af:=g375) rfl rfl (by decide)];rw [g375L0e] at e;simp [tC,zC,uC] at e;by_cases q1:t.kind=3
     · have q2:¬t.home=99:=fun h=>q ⟨q1,h⟩
       simp [q1] at e;simp [g375,q1,q2,g375L0e,e]
     · simp [g375,q1,g375L0e,e]
   · have:=hG.kn.hd r;refine ⟨LM _ this.1,?_⟩;rw [this.2] at h1;exact List.length_eq_zero_iff.1 h1
   · intro y hy hk;rw [Ty.bh] at hy;simp only [List.mem_cons,List.mem_flatMap] at hy;rcases hy with rfl | ⟨u,hu,hy⟩
     · have:=(hG.kn.hd (by change t.kind=1 at hk;rw [hk];decide)).1
       change t.kind=1 at hk
       rw [hk] at this;simp at this
     · exact (h2 u hu).vr y hy hk
theorem Jq {l:List Ty}:∀{out:List Ty} {y:Ty},y∈out∨y∈l→y∈l.foldl gU out:=by
 induction l with
 | nil=>intro out y h;simpa using h
 | cons a r ih=>
   intro out y h;rw [List.foldl_cons];refine ih ?_;rcases h with h | h
   · left;unfold gU;split
     · exact h
     · simp [h]
   · simp only [List.mem_cons] at h;rcases h with rfl | h
     · left;unfold gU;split
       · assumption
       · simp
     · exact .inr h
theorem c59x {u:Ty} (hu:u.Ok) (hn:u.nodes.length≤4000):∃r:List Ty,(aP AP).p 59 [.aI [u.pv]]=some [.aI (r.map Ty.pv)]∧Sm r∧∀y∈u.fe 3,y∈r:=by
 have hl:=oi (k:=3) (t:=u);have c0:gm (u.fe 3) []:=⟨by simp,by simp,by omega,fun x hx=>da (lV x hx)⟩;have hk:∀x∈[u].flatMap (Ty.fe 3),x∈u.fe 3:=by simp
 have h:=QW (S:=u.fe 3) (l:=[u]) (by simp [Sm]) (by simpa using hu) hk _ 0 rfl (by omega) [] c0;have hc:=c0.fold hk;refine ⟨_,?_,hc.len,fun y hy=>Jq (.inr (by simpa using hy))⟩;rw [aw (af:=g59) rfl rfl (by decide)];rw [g59L0e] at h;simp at h;simp [g59,g59L0e,h]
theorem Jr {k:Int} {t:Ty}:∀y∈t.nodes,y.kind=k→y.args=[]→y∈t.fe k:=by
 refine Ty.eU (p:=fun t=>∀y∈t.nodes,y.kind=k→y.args=[]→y∈t.fe k) ?_ t;intro t ih y hy hk ha;rw [Ty.bh] at hy;rw [Ty.lN];simp only [List.mem_cons,List.mem_flatMap] at hy;rcases hy with rfl | ⟨a,ham,hy⟩
 · rw [if_pos ⟨hk,by rw [ha];rfl⟩];simp
 · have:¬(t.kind=k∧t.args.length=0):=by
     rintro ⟨_,h⟩
     rw [List.length_eq_zero_iff.1 h] at ham;cases ham
   rw [if_neg this];simp only [List.mem_flatMap];exact ⟨a,ham,ih a ham y hy hk ha⟩
theorem Js {r:List Ty} (hr:Sm r) {t:Ty}:∀(n i:Nat),r.length-i=n→i≤r.length→∀acc:List Int,acc.length≤i→∃ids:List Int,ids.length≤r.length∧(∀v∈acc,v∈ids)∧(∀z∈r.drop i,z.home=99→IntKind.i64.wrap (900+z.id)∈ids) ∧
   cl AP g361L0 ⟨[(1,.aG 1 0),(2,.aG 2 0),(3,.own (acc.map vI) 0),(4,.pv (.aI (r.map Ty.pv))),(5,.pv (vI i))],[(1,tC t),(2,gz 1)],[],[acc.length,0]⟩ =
     some (.exit 0,⟨[(1,.aG 1 0),(2,.aG 2 0),(3,.own (ids.map vI) 0),(4,.pv (.aI (r.map Ty.pv))),(5,.pv (vI r.length)),(12,.pv (.bool false))],[(1,tC t),(2,gz 1)],[],[ids.length,0]⟩)
 | 0,i,hn,hi,acc,ha=>by
   have:i=r.length:=by omega
   subst this;refine ⟨acc,ha,fun _ h=>h,by simp,?_⟩;rw [g361L0e];simp [g361B0,tC,gz]
 | n+1,i,hn,hi,acc,ha=>by
   have hi:i<r.length:=(by omega);obtain ⟨x,hx⟩:=bD hi;have hr':=hr;unfold Sm at hr;have hb:(acc.length+1)*8≤140737488355328:=(by omega);have hh:bC 1 (acc.map vI)=true:=kB.head acc;rw [cp hx];by_cases q:x.home=99
   · obtain ⟨ids,h1,h2,h3,e⟩:=Js (t:=t) hr' n (i+1) (by omega) (by omega) (acc++[IntKind.i64.wrap (900+x.id)]) (by simp;omega);refine ⟨ids,h1,fun v hv=>h2 v (by simp [hv]),?_,?_⟩
     · intro z hz hh;simp only [List.mem_cons] at hz;rcases hz with rfl | hz
       · exact h2 _ (by simp)
       · exact h3 z hz hh
     · rw [g361L0e] at e ⊢;simp [tC,gz] at e;simp (disch:=omega) [-getElem?_pos,g361B0,tC,gz,hx,hi,q,hb,hh];rw [g361L0e];have w1:IntKind.i64.wrap ((i:Int)+1)=(i:Int)+1:=az (by omega) (by omega);simp [w1,e]
   · obtain ⟨ids,h1,h2,h3,e⟩:=Js (t:=t) hr' n (i+1) (by omega) (by omega) acc (by omega);refine ⟨ids,h1,h2,?_,?_⟩
     · intro z hz hh;simp only [List.mem_cons] at hz;rcases hz with rfl | hz
       · exact absurd hh q
       · exact h3 z hz hh
     · rw [g361L0e] at e ⊢;simp [tC,gz] at e;simp (disch:=omega) [-getElem?_pos,g361B0,tC,gz,hx,hi,q,az];rw [g361L0e];simp [e]
theorem nk {ids:List Int}:∀(vs:List Int) (acc:List As),(∀a∈acc,∃k:Nat,k<acc.length∧a.ty=cU k)→(∀a∈dc ids vs acc,∃k:Nat,k<(dc ids vs acc).length∧a.ty=cU k)∧(dc ids vs acc).length≤acc.length+vs.length∧(∀v,(∃x,kA acc v=some x)→∃x,kA (dc ids vs acc) v=some x)∧∀v∈vs,v∈ids→∃x,kA (dc ids vs acc) v=some x
 | [],acc,h=>⟨h,by simp [dc],fun _ h=>h,by simp⟩
 | v::r,acc,h=>by
   simp only [dc];by_cases q:v∈ids
   · rw [if_pos q]
     obtain ⟨h1,h2,h3,h4⟩:=nk (ids:=ids) r (acc++[⟨v,cU acc.length⟩]) (by
       intro a ha;simp at ha;rcases ha with ha | rfl
       · obtain ⟨k,hk,e⟩:=h a ha;exact ⟨k,by simp;omega,e⟩
       · exact ⟨acc.length,by simp,rfl⟩)
     refine ⟨h1,by simp at h2 ⊢;omega,?_,?_⟩
     · rintro w ⟨x,hx⟩
       exact h3 w ⟨x,by rw [wi,hx];rfl⟩
     · intro w hw hi;simp only [List.mem_cons] at hw;rcases hw with rfl | hw
       · refine h3 w ?_;rw [wi];cases kA acc w with
         | some x=>exact ⟨x,rfl⟩
         | none=>exact ⟨cU acc.length,by simp [kA]⟩
       · exact h4 w hw hi
   · rw [if_neg q];obtain ⟨h1,h2,h3,h4⟩:=nk (ids:=ids) r acc h;refine ⟨h1,by simp;omega,h3,?_⟩;intro w hw hi;simp only [List.mem_cons] at hw;rcases hw with rfl | hw
     · exact absurd hi q
     · exact h4 w hw hi
theorem Gl {s:List As} {t:Ty}:∀y∈(t.sub s).nodes,(∃i x,kA s i=some x∧y∈x.nodes)∨∃z∈t.nodes,y.kind=z.kind:=by
 refine Ty.eU (p:=fun t=>∀y∈(t.sub s).nodes,(∃i x,kA s i=some x∧y∈x.nodes)∨∃z∈t.nodes,y.kind=z.kind) ?_ t;intro t ih y hy
 have g_:∀a∈t.args,y∈(a.sub s).nodes→(∃i x,kA s i=some x∧y∈x.nodes)∨∃z∈t.nodes,y.kind=z.kind:=by
   intro a ha h;rcases ih a ha y h with h | ⟨z,hz,h⟩
   · exact .inl h
   · exact .inr ⟨z,Gf a ha z hz,h⟩
 have hself:t∈t.nodes:=by rw [Ty.bh];simp
 rw [Ty.sub_eq] at hy;split at hy
 · cases e:kA s t.id with
   | some x=>rw [e] at hy;exact .inl ⟨_,x,e,hy⟩
   | none=>rw [e] at hy;exact .inr ⟨y,by simpa using hy,rfl⟩
 · rw [Ty.bh] at hy;simp only [List.mem_cons,List.mem_flatMap,List.mem_map] at hy;rcases hy with rfl | ⟨b,⟨a,ha,rfl⟩,hy⟩
   · exact .inr ⟨t,hself,rfl⟩
   · exact g_ a ha hy
theorem uO:∀{l:List Ty} {out:List Int},(l.foldl eH out).length≤out.length+l.length
 | [],out=>by simp
 | a::r,out=>by
   have h:=uO (l:=r) (out:=eH out a);have:(eH out a).length≤out.length+1:=by unfold eH;split<;>simp
   simp only [List.foldl_cons,List.length_cons];omega
theorem Ll {u:Ty}:(vars [u]).length≤u.nodes.length:=by
 have:=uO (l:=[u].flatMap Ty.nodes) (out:=[]);simpa [vars] using this
theorem uP {l:List Ty}:∀{out:List Int} {y:Ty},y∈l→y.kind=1→y.id∈l.foldl eH out:=by
 have bq:∀(l:List Ty) (out:List Int) (v:Int),v∈out→v∈l.foldl eH out:=by
   intro l;induction l with
   | nil=>intro out v h;exact h
   | cons a r ih=>intro out v h;rw [List.foldl_cons];refine ih _ v ?_;unfold eH;split<;>simp [h]
 induction l with
 | nil=>intro out y h;simp at h
 | cons a r ih=>
   intro out y h hk;rw [List.foldl_cons];simp only [List.mem_cons] at h;rcases h with rfl | h
   · refine bq r _ _ ?_;unfold eH;by_cases q:y.id∈out<;>simp [q,hk]
   · exact ih h hk
theorem c361x {x:Ty} (hG:cx x) (hn:x.nodes.length≤90):∃c:Sc,(aP AP).p 361 [x.pv]=some [c.pv]∧kZ c:=by
 obtain ⟨r,k1,hr,hl3⟩:=c59x hG.ok (by omega);obtain ⟨u,k2,T⟩:=c375x hG;obtain ⟨ids,hi,_,hin,h⟩:=Js (t:=x) hr _ 0 rfl (by omega) [] (by simp);have hl:=oi (k:=1) (t:=u);have hun:=T.n;have k3:=c208 (t:=u) ⟨T.ok,T.kn.wf,u.fe 1,by omega,fun y hy=>da (lV y hy),fun y hy=>hy⟩ (ids:=ids) (by unfold Sm at *;omega);have hv:=Ll (u:=u);obtain ⟨c1,c2,_,c4⟩:=nk (ids:=ids) (vars [u]) [] (by simp)
 have hall:∀y∈u.nodes,y.kind=1→∃z,kA (dc ids (vars [u]) []) y.id=some z:=by
   intro y hy hk;refine c4 _ (uP (by simpa using hy) hk) ?_;obtain ⟨z,hz,z3,z99,e⟩:=T.vr y hy hk;rw [e]
   refine hin z (by
     rw [List.drop_zero];refine hl3 z ?_;have hb:=(hG.kn.nodes z hz (by rw [z3];decide)).2;exact Jr z hz z3 hb) z99
 refine ⟨oe ids u (vars [u]),?_,⟨B9 T.ok,?_,(dc ids (vars [u]) []).length,rfl,by simp at c2;omega,?_⟩⟩
 · generalize oe ids u (vars [u])=c at *;rw [g361L0e] at h;simp [tC,gz] at h;simp at k1 k2 k3;rw [aw (af:=g361) rfl rfl (by decide)];simp [g361,k1,k2,k3,g361L0e,h]
 · refine Cc (K:=KS) T.kn (by simp only [KS,KC];omega) ?_ (.inr hall);intro i z hz;obtain ⟨a,ha,rfl⟩:=mh hz;obtain ⟨k,_,e⟩:=c1 a ha;rw [e];exact .bare rfl (by simp [cU]) (by simp [cU])
 · intro y hy hk;rcases Gl y hy with ⟨i,z,hz,hy⟩ | ⟨z,hz,e⟩
   · obtain ⟨a,ha,rfl⟩:=mh hz;obtain ⟨k,hk2,e⟩:=c1 a ha;rw [e,Ty.bh] at hy;simp [cU] at hy;subst hy;simp only;omega
   · have:=(T.kn.nodes z hz (by rw [←e,hk];decide)).1;rw [←e,hk] at this;simp at this
def Jt:List Ty:=[⟨3,[],0,99,[]⟩,⟨3,[],1,99,[]⟩]
theorem c349 {L:List Int} {tm:Nat} {TP:Int→Sh} (hT:Tape L tm TP) {ds:List Dt} {dep:Nat} {l:List En} {g:Ty} {i:Nat} (hL:Sm L) (hdep:dep<10) (hds:ds.length≤20) (hda:∀d∈ds,d.params.length≤8) (hdn:∀d∈ds,d.name.length≤100) (hG:jK L tm TP ds dep) (hl:Ctx (1000-20*(dep+1)) l) (hg:cx g) (hgn:g.nodes.length≤6000-20*(dep+1)) (hi:i≤L.length) :
   mw L tm TP (12*(dep+2)) ((aP AP).i 349 [.br tm 0,.pv (.aI (ds.map Dt.pv)),.pv (.aI (l.map En.pv)),.pv g.pv,.pv (vI (dep+1:Nat))] (TP i) []):=by
 have tn:=hT.norm;have tsh:=hT.shift;have tl:=hT.take;obtain ⟨r,j1,e1,r0,r1,hj1⟩:=nj hT hL hi (n:=2) (by omega) (by omega);obtain ⟨s,j2,e2,hs,hj2⟩:=Gi hT hL hj1;obtain ⟨p,j3,e3,p0,p1,hj3⟩:=nj hT hL hj2 (n:=2) (by omega) (by omega)
 have hlv:∀t∈(if p=0 then Jt else []),t.args=[]∧t.kind=3∧t.name=[]:=by
   intro t ht;split at ht
   · simp [tn,tsh,tl,Jt] at ht;rcases ht with rfl | rfl<;>exact ⟨rfl,rfl,rfl⟩
   · cases ht
 obtain ⟨x,j4,e4,mx,hj4⟩:=Nz hT hL hds hda (lv:=if p=0 then Jt else []) (by unfold Sm;split<;>simp [tn,tsh,tl,Jt]) 2 (by omega) j3 hj3;have gx:cx x:=kJ hda hdn hlv mx;have hxn:=mx.small hda (fun t ht=>(hlv t ht).1);obtain ⟨c,kc,sc⟩:=c361x gx (by omega);have hll:=hl.len;have k1:=c176 (t:=x);have k2:=c179 (l:=l) (by unfold Sm;omega) (n:=s) (c:=⟨0,x⟩);have hl':Ctx (1000-20*dep) l:=hl.gW (by omega)
 have hlx:Ctx (1000-20*dep) (if r=1 then l++[⟨s,⟨0,x⟩⟩] else l):=by
   split
   · exact hl.push gx.mono (fM _ hs) (by omega)
   · exact hl'
 obtain ⟨a,f1,f2,f3,j5,e5,ha,hj5⟩:=hG j4 _ x hj4 hlx gx (by omega);obtain ⟨b10,k3⟩:=c307 ha.sc.ok 10;obtain ⟨b11,k4⟩:=c307 ha.sc.ok 11;have k5:=c34;have k6:=c176 (t:=bB)
 obtain ⟨c',hc',Mi⟩:∃c':Sc,c'=(if b10=true∨b11=true then ⟨0,bB⟩ else c)∧kZ c':=by
   refine ⟨_,rfl,?_⟩;split
   · exact qI.mono
   · exact sc
 have k7:=c179 (l:=l) (by unfold Sm;omega) (n:=s) (c:=c');obtain ⟨b,f4,f5,f6,j6,e6,hb,hj6⟩:=hG j5 _ g hj5 (hl.push (s:=s) Mi (fM _ hs) (by omega)) hg (by omega);have hA:=ek f1 f2 f3 a;generalize eo f1 f2 f3 a=A at e5 hA;have hB:=ek f4 f5 f6 b;generalize eo f4 f5 f6 b=B at e6 hB;have ac:=Ex.bS a;have bc:=Ex.bS b;have tA:A.take 11=A:=List.take_of_length_le (by rw [hA.len];omega);have hk:6+r≠8:=by omega
 refine ⟨⟨6+r,0,s,0,[a,b],[],bW⟩,true,true,true,j6,?_,(fE hk (by simp) iJ iK (by simpa using ⟨ha,hb⟩) (.y7 (by simp only;omega) (fM _ hs) rfl rfl ha.tx hb.tx)).up (by omega),hj6⟩;have h2:(dep:Int)+1-1=dep:=by omega
 have q1:=c71 (n:=99) (m:=0);have q2:=c71 (n:=99) (m:=1);have hr:r=0∨r=1:=by omega
 simp [tn,tsh,tl,Ty.av] at e1 e2 e3 e4 kc k1 k2 k3 k4 e5;rw [aR (af:=g349) rfl (by simp [tn,tsh,tl,g349])];rcases hr with rfl | rfl<;>by_cases hp:p=0<;>cases b10<;>cases b11<;>subst hc'<;>simp [tn,tsh,tl,bB] at k5 k6 k7 e6<;>simp [tn,tsh,tl,hp,Jt] at e4 e5 q1 q2 <;>
 simp (disch:=omega) [tn,tsh,tl,g349,h2,e1,e2,e3,hp,e4,kc,k1,k2,k3,k4,k5,k6,k7,e5,e6,q1,q2,az,hA.dR,hA.flat,hA.iC,hA.len,hA.leaf,hB.dR,hB.flat,hB.iC,hB.len,hB.leaf,tA,ac,bc,aK,eo,gI,bW]
theorem Gm {vs:List Int} {x:Ty} {v:Int} (h:v∈vs):kA (vs.map fun v=>As.mk v x) v=some x:=by
 induction vs with
 | nil=>simp at h
 | cons a r ih=>
   simp only [List.map_cons,kA];by_cases e:a=v
   · simp [e]
   · simp only [List.mem_cons] at h;rcases h with h | h
     · exact absurd h.symm e
     · simp [e,ih h]
theorem sY {vs:List Int} {x y:Ty} {v:Int} (h:kA (vs.map fun v=>As.mk v x) v=some y):y=x:=by
 obtain ⟨a,ha,rfl⟩:=mh h;simp only [List.mem_map] at ha;obtain ⟨w,_,rfl⟩:=ha;rfl
theorem Lm {s:List As} (hs:∀i x,kA s i=some x→x.nodes.length≤1) (t:Ty):(t.sub s).nodes.length≤t.nodes.length:=by
 refine Ty.eU (p:=fun t=>(t.sub s).nodes.length≤t.nodes.length) ?_ t;intro t ih;rw [Ty.sub_eq];split
 · cases e:kA s t.id with
   | some x=>
     have:=hs _ _ e;rw [Ty.bh t];simp only [Option.getD_some,List.length_cons];omega
   | none=>exact Nat.le_refl _
 · rw [Ty.bh,Ty.bh t];simp only [List.length_cons,List.length_flatMap,List.map_map]
   have:(t.args.map ((fun x=>x.nodes.length) ∘ Ty.sub s)).sum≤(t.args.map fun x=>x.nodes.length).sum:=by
     generalize t.args=l at ih;induction l with
     | nil=>simp
     | cons a r ih2=>
       have h1:=ih a (by simp);have h2:=ih2 fun x hx=>ih x (by simp [hx])
       simp only [List.map_cons,List.sum_cons,Function.comp_apply];omega
   omega
theorem c363x {t:Ty} (h:Gd t):∃u:Ty,(aP AP).p 363 [t.pv]=some [u.pv]∧cx u∧u.nodes.length≤4000:=by
 have hl:=oi (k:=1) (t:=t);have hn:=h.2;refine ⟨_,c363 (S:=t.fe 1) (by omega) (fun x hx=>da (lV x hx)) (t:=t) ⟨h.1.1,h.1.2.wf,fun x hx=>hx⟩,⟨?_,?_⟩,Nat.le_trans (Lm (fun i x hx=>by rw [sY hx,Ty.bh];simp [bB]) t) h.2⟩
 · refine B7 ?_ h.1.1;intro a ha;simp only [List.mem_map] at ha;obtain ⟨w,_,rfl⟩:=ha;exact qI.ok
 · refine Cc (K:=KS) h.1.2 (by simp only [KS,KG];omega) ?_ (.inr ?_)
   · intro i x hx;rw [sY hx];exact qI.kn
   · intro y hy hk;exact ⟨bB,Gm (uP (by simpa using hy) hk)⟩
def N8 (h:Hd):List AV:=[.pv (.str h.name),.pv (.bool h.iV),.pv (.aI (h.args.map Ty.pv)),.pv (.aI (h.types.map Ty.pv))]
def N9 (k:Int) (s:cS) (ks:List Ex):List AV:=[.pv (vI k),.pv (vI 0),.pv (.str s),.pv (vI 0),.own (ks.map Ex.pv) 3,.own [] 4,.pv (vI 0),.pv (.str []),.pv (vI 0),.pv (vI 0),.own [] 5]
theorem P1 {L:List Int} {tm:Nat} {TP:Int→Sh} (hT:Tape L tm TP) {ds:List Dt} {dep:Nat} {l:List En} (hdep:dep<10) (hG:jK L tm TP ds dep) (hl:Ctx (1000-20*dep) l) {h:Hd} (hh:sV h):∀(n i:Nat),h.args.length-i=n→i≤h.args.length→∀(k:Int) (s:cS) (ks:List Ex) (I N:Nat),uN N ⟨k,0,s,0,ks,[],bW⟩→12*(dep+1)≤N→N+n≤12*(dep+1)+11→I≤L.length→∃(k':Int) (s':cS) (ks':List Ex) (J:Nat),uN (N+n) ⟨k',0,s',0,ks',[],bW⟩∧J≤L.length ∧
   cl AP g352L0 ⟨[(0,.br tm 0),(1,.pv (.aI (ds.map Dt.pv))),(2,.pv (.aI (l.map En.pv))),(4,.pv (vI (dep+1))),(10,.aG 10 0),(12,.aG 12 0),(13,.aG 13 0),(14,.pv (vI i))],[(10,oh 0),(12,N8 h),(13,N9 k s ks)],TP I,[0,0,0,ks.length,0,0]⟩ =
     some (.exit 0,⟨[(0,.br tm 0),(1,.pv (.aI (ds.map Dt.pv))),(2,.pv (.aI (l.map En.pv))),(4,.pv (vI (dep+1))),(10,.aG 10 0),(12,.aG 12 0),(13,.aG 13 0),(14,.pv (vI h.args.length)),(45,.pv (.bool false))],[(10,oh 0),(12,N8 h),(13,N9 k' s' ks')],TP J,[0,0,0,ks'.length,0,0]⟩)
 | 0,i,hn,hi,k,s,ks,I,N,hY,hN,hN2,hI=>by
   have tn:=hT.norm;have tsh:=hT.shift;have tl:=hT.take;have:i=h.args.length:=(by omega);subst this;refine ⟨k,s,ks,I,hY,hI,?_⟩;rw [g352L0e];simp [tn,tsh,tl,g352B0,oh,N8,N9]
 | n+1,i,hn,hi,k,s,ks,I,N,hY,hN,hN2,hI=>by
   have tn:=hT.norm;have tsh:=hT.shift;have tl:=hT.take;have hi:i<h.args.length:=(by omega);obtain ⟨t,ht⟩:=bD hi;obtain ⟨u,k1,gu,gn⟩:=c363x (hh.2.1 t (bt ht));obtain ⟨y,f1,f2,f3,j,k2,hy,hj⟩:=hG I l u hI hl gu (by omega)
   have hY2:uN (N+1) ⟨5,0,[],0,[⟨k,0,s,0,ks,[],bW⟩,y],[],bW⟩:=by
     obtain ⟨r,rfl⟩:∃r,N=12*(dep+1)+r:=⟨N-12*(dep+1),by omega⟩;exact Lh (by omega) hY hy
   obtain ⟨k',s',ks',J,q1,q2,e'⟩:=P1 hT hdep hG hl hh n (i+1) (by omega) (by omega) 5 [] [⟨k,0,s,0,ks,[],bW⟩,y] j (N+1) hY2 (by omega) (by omega) hj;refine ⟨k',s',ks',J,q1.up (by omega),q2,?_⟩;have hA:=ek f1 f2 f3 y;generalize eo f1 f2 f3 y=A at k2 hA;have ac:=Ex.bS y;have tA:A.take 11=A:=List.take_of_length_le (by rw [hA.len];omega);have h2:(dep:Int)+1-1=dep:=by omega
   have ha:=hh.1;rw [g352L0e] at e' ⊢;simp [tn,tsh,tl,oh,N8,N9,bW] at e'
   try simp [tn,tsh,tl] at k1 k2
   simp (disch:=omega) [tn,tsh,tl,-getElem?_pos,g352B0,oh,N8,N9,ht,hi,h2,k1,k2,az,hA.dR,hA.flat,hA.iC,hA.len,hA.leaf,tA,ac,aK];rw [g352L0e];simp [tn,tsh,tl,e']
theorem c352 {L:List Int} {tm:Nat} {TP:Int→Sh} (hT:Tape L tm TP) {ds:List Dt} {dep:Nat} {l:List En} {g:Ty} {i:Nat} (hL:Sm L) (hdep:dep<10) (hD:tO ds) (hG:jK L tm TP ds dep) (hl:Ctx (1000-20*(dep+1)) l) (hg:cx g) (hi:i≤L.length) :
   mw L tm TP (12*(dep+2)) ((aP AP).i 352 [.br tm 0,.pv (.aI (ds.map Dt.pv)),.pv (.aI (l.map En.pv)),.pv g.pv,.pv (vI (dep+1:Nat))] (TP i) []):=by
 have tn:=hT.norm;have tsh:=hT.shift;have tl:=hT.take;have hll:=hl.len;obtain ⟨hs,n1,hO,k1⟩:=c362 hg hD (l:=l) (by omega) hl.PY hl.nm;by_cases z:hs=[]
 · subst z;obtain ⟨e,f1,f2,f3,j,k,ht,hj⟩:=c348 hT hL (ds:=ds) (hl.gW (by omega)) hg hi;refine ⟨e,f1,f2,f3,j,?_,ht.up (by omega),hj⟩
   try simp [tn,tsh,tl] at k1
   rw [aR (af:=g352) rfl (by simp [tn,tsh,tl,g352])];cases f1<;>cases f2<;>cases f3<;>simp [tn,tsh,tl,eo,gI] at k<;>simp [tn,tsh,tl,g352,k1,k,eo,gI,aK]
 · have hp:0<hs.length:=List.length_pos_iff.2 z;obtain ⟨m,j,e1,m0,m1,hj⟩:=nj hT hL hi (n:=hs.length) (by omega) (by omega);obtain ⟨m,rfl,hm⟩:=kW m0 m1;obtain ⟨h,hx⟩:=bD hm;have hhO:=hO h (bt hx);have ha:=hhO.1;obtain ⟨k',s',ks',J,q1,q2,e2⟩:=P1 hT (L:=L) (l:=l) hdep hG (hl.gW (by omega)) hhO _ 0 rfl (by omega) (if h.iV=true then 2 else 1) h.name [] j (12*(dep+1)) ((eD (.inl ⟨by split<;>simp,hhO.2.2⟩)).up (by omega)) (by omega) (by omega) hj;refine ⟨⟨k',0,s',0,ks',[],bW⟩,false,false,false,J,?_,q1.up (by omega),q2⟩;rw [g352L0e] at e2
   try simp [tn,tsh,tl] at k1 e1
   rw [aR (af:=g352) rfl (by simp [tn,tsh,tl,g352])];cases hc:h.iV<;>simp [tn,tsh,tl,oh,N8,N9,hc] at e2<;>simp [tn,tsh,tl,-getElem?_pos,g352,k1,z,e1,hx,hc,g352L0e,e2,eo,gI,bW,aK]
theorem Ln:∀d∈cI,d.params.length≤100∧∀c∈d.cons,∀f∈c.fields,Le ⟨d.params.length,f.lW d.params⟩=true:=by decide +kernel
theorem zy {K:Nat} {t:Ty} (h:kZ ⟨K,t⟩) {as:List Ty} (ha:as.length=K) (hg:∀a∈as,cx a):cx (t.ml as):=by
 obtain ⟨K',h1,_,h3⟩:=h.PS;have:K'=K:=by simp at h1;omega
 subst this;exact ⟨IT (fun a h=>(hg a h).ok) h.ok,IU h.kn (by simp only [KC,KG];omega) (fun a h=>(hg a h).kn) (fun y hy hk=>by have:=h3 y hy hk;omega)⟩
theorem zz {ds:List Dt} (hD:tO ds) {s:cS} {as:List Ty} (hg:∀a∈as,cx a):((fieldsOf ds s as).getD []).length≤8∧∀f∈(fieldsOf ds s as).getD [],cx f:=by
 cases e:fieldsOf ds s as with
 | none=>simp
 | some fs=>
   simp only [fieldsOf,Option.bind_eq_some_iff] at e;obtain ⟨q,_,d,hd,c,hc,e⟩:=e;split at e
   · rename_i hl;cases e;have dA:=hD.all d (bt hd);obtain ⟨_,_,h8⟩:=eh d dA;obtain ⟨hb,hb2⟩:=Ln d dA;refine ⟨by simpa using (h8 c (bt hc)).1,?_⟩;intro f hf;simp only [Option.getD_some,List.mem_map] at hf;obtain ⟨x,hx,rfl⟩:=hf;exact zy (De rfl hb (hb2 c (bt hc) x hx)) hl hg
   · cases e
theorem tO.small {ds:List Dt} (h:tO ds):Small ds where
 num:=by have:=h.len;unfold Sm;omega
 iV:=fun d hd=>by have:=(eh d (h.all d hd)).2.1;unfold Sm;omega
 Rw:=by have:=h.len;have:=K3 (b:=8) fun d hd=>(eh d (h.all d hd)).2.1;unfold Sm;omega
 par:=fun d hd=>by have:=(eh d (h.all d hd)).1;unfold Sm;omega
 Rh:=fun d hd c hc=>by
   obtain ⟨a,b,c2⟩:=Df (h.all d hd) c hc;exact ⟨a,b,fun x hx=>(c2 x hx).cw⟩
theorem Mj {L:List Int} {tm:Nat} {TP:Int→Sh} (hT:Tape L tm TP) (hL:Sm L) {ds:List Dt} (hds:ds.length≤20) (hda:∀d∈ds,d.params.length≤8) (hdn:∀d∈ds,d.name.length≤100) {p2:PV} {p4:PV} {g:Ty} {d:Dt} (hd8:d.params.length≤8):∀(n k:Nat),d.params.length-k=n→k≤d.params.length→∀(acc:List Ty) (i:Nat),acc.length=k→(∀x∈acc,cx x∧x.nodes.length≤9)→i≤L.length →
   ∃(r:List Ty) (j:Nat),r.length=d.params.length∧(∀x∈r,cx x∧x.nodes.length≤9)∧j≤L.length ∧
   cl AP g350L0 ⟨[(0,.br tm 0),(1,.pv (.aI (ds.map Dt.pv))),(2,.pv p2),(4,.pv p4),(8,.aG 8 0),(10,.aG 10 0),(11,.aG 11 0),(12,.own (acc.map Ty.pv) 0),(13,.pv (vI k))],[(8,tC g),(10,oh 1),(11,qD d)],TP i,[acc.length,0,0,0]⟩ =
     some (.exit 0,⟨[(0,.br tm 0),(1,.pv (.aI (ds.map Dt.pv))),(2,.pv p2),(4,.pv p4),(8,.aG 8 0),(10,.aG 10 0),(11,.aG 11 0),(12,.own (r.map Ty.pv) 0),(13,.pv (vI d.params.length)),(41,.pv (.bool false))],[(8,tC g),(10,oh 1),(11,qD d)],TP j,[r.length,0,0,0]⟩)
 | 0,k,hn,hk,acc,i,ha,hm,hi=>by
   have tn:=hT.norm;have tsh:=hT.shift;have tl:=hT.take;have:k=d.params.length:=(by omega);subst this;refine ⟨acc,i,ha,hm,hi,?_⟩;rw [g350L0e];simp [tn,tsh,tl,g350B0,tC,oh,qD]
 | n+1,k,hn,hk,acc,i,ha,hm,hi=>by
   have tn:=hT.norm;have tsh:=hT.shift;have tl:=hT.take;have hk:k<d.params.length:=(by omega);obtain ⟨t,j1,e1,mt,hj1⟩:=Nz hT hL hds hda (lv:=[]) (by simp [tn,tsh,tl,Sm]) 1 (by omega) i hi;have gt:cx t:=kJ hda hdn (by simp) mt;have gn:=mt.small hda (by simp)
   obtain ⟨r,j,h1,h2,h3,e'⟩:=Mj hT hL hds hda hdn (p2:=p2) (p4:=p4) (g:=g) hd8 n (k+1) (by omega) (by omega) (acc++[t]) j1 (by simp;omega) (by
     intro x hx;simp at hx;rcases hx with hx | rfl
     · exact hm x hx
     · exact ⟨gt,by omega⟩) hj1
   refine ⟨r,j,h1,h2,h3,?_⟩;have hb:(acc.length+1)*64≤140737488355328:=by omega
   rw [g350L0e] at e' ⊢;simp [tn,tsh,tl,tC,oh,qD] at e';simp [tn,tsh,tl,Ty.av] at e1;simp (disch:=omega) [tn,tsh,tl,-getElem?_pos,g350B0,tC,oh,qD,hk,e1,hb,az];rw [g350L0e];simp [tn,tsh,tl,e']
def JD (x:Ex) (as:List Ar):List AV:=[.pv (vI 8),.pv (vI 0),.pv (.str []),.pv (vI 0),.own [x.pv] 4,.own (as.map Ar.pv) 5,.pv (vI 0),.pv (.str []),.pv (vI 0),.pv (vI 0),.own [] 6]
def N_ (c:p7) (vs:List cS):List AV:=[.pv (vI 0),.pv (.str c.name),.own (vs.map .str) 7,.pv (vI 0),.pv (vI 0),.pv (.str []),.pv (vI 0),.own [] 8,.own [] 9,.pv (vI 0),.pv (.str []),.pv (vI 0),.pv (vI 0),.own [] 10]
def P2:List cS:=[[120],[121],[122],[119]]
theorem Di:∀s∈P2,s.length≤100:=by
 intro s hs;simp only [P2,List.mem_cons,List.not_mem_nil,or_false] at hs;rcases hs with rfl | rfl | rfl | rfl<;>simp
theorem Mk {L:List Int} {tm:Nat} {TP:Int→Sh} (hT:Tape L tm TP) {I:Nat} {p1 p2 p4:PV} {g:Ty} {d:Dt} {as:List Ty} {x:Ex} {ar:List Ar} {C:Nat} {c:p7} {f:List Ty} (hf8:f.length≤8) (hf:∀t∈f,cx t) {N:Nat} (hN:N≤10000):∀(n k:Nat),f.length-k=n→k≤f.length→∀(vs:List cS) (l:List En),vs.length=k→(∀v∈vs,v.length≤100)→Ctx (N+k) l →
   ∃(r:List cS) (l':List En),r.length=f.length∧(∀v∈r,v.length≤100)∧Ctx (N+f.length) l' ∧
   cl AP g350L2 ⟨[(0,.br tm 0),(1,.pv p1),(2,.pv p2),(4,.pv p4),(8,.aG 8 0),(10,.aG 10 0),(11,.aG 11 0),(12,.own (as.map Ty.pv) 0),(14,.aG 14 0),(15,.pv (vI C)),(16,.pv (.aI (f.map Ty.pv))),(18,.aG 18 0),(19,.pv (.aI (l.map En.pv))),(20,.pv (vI k))],
     [(8,tC g),(10,oh 1),(11,qD d),(14,JD x ar),(18,N_ c vs)],TP I,[as.length,0,0,0,1,ar.length,0,vs.length,0,0,0]⟩ =
     some (.exit 4,⟨[(0,.br tm 0),(1,.pv p1),(2,.pv p2),(4,.pv p4),(8,.aG 8 0),(10,.aG 10 0),(11,.aG 11 0),(12,.own (as.map Ty.pv) 0),(14,.aG 14 0),(15,.pv (vI C)),(16,.pv (.aI (f.map Ty.pv))),(18,.aG 18 0),(19,.pv (.aI (l'.map En.pv))),(20,.pv (vI f.length)),(92,.pv (.bool false))],
     [(8,tC g),(10,oh 1),(11,qD d),(14,JD x ar),(18,N_ c r)],TP I,[as.length,0,0,0,1,ar.length,0,r.length,0,0,0]⟩)
 | 0,k,hn,hk,vs,l,hv,hvn,hl=>by
   have tn:=hT.norm;have tsh:=hT.shift;have tl:=hT.take;have:k=f.length:=(by omega);subst this;refine ⟨vs,l,hv,hvn,hl,?_⟩;rw [g350L2e];simp [tn,tsh,tl,g350B2,tC,oh,qD,JD,N_]
 | n+1,k,hn,hk,vs,l,hv,hvn,hl=>by
   have tn:=hT.norm;have tsh:=hT.shift;have tl:=hT.take;have hk:k<f.length:=(by omega);obtain ⟨t,ht⟩:=bD hk;have hll:=hl.len;obtain ⟨q,hrem,hq⟩:∃q:Nat,(k:Int).tmod 4=q∧q<4:=⟨((k:Int) % 4).toNat,by rw [Int.tmod_eq_emod_of_nonneg (by omega)];omega,by omega⟩;obtain ⟨s,hs⟩:=bD (l:=P2) (i:=q) (by simpa [P2] using hq);have k1:=c176 (t:=t);have k2:=c179 (l:=l) (by unfold Sm;omega) (n:=s) (c:=⟨0,t⟩)
   obtain ⟨r,l',h1,h1n,h2,e'⟩:=Mk hT (L:=L) (I:=I) (p1:=p1) (p2:=p2) (p4:=p4) (g:=g) (d:=d) (as:=as) (x:=x) (ar:=ar) (C:=C) (c:=c) hf8 hf hN n (k+1) (by omega) (by omega) (vs++[s]) (l++[⟨s,⟨0,t⟩⟩]) (by simp;omega) (by
     intro v hv;simp only [List.mem_append,List.mem_singleton] at hv;rcases hv with hv | rfl
     · exact hvn v hv
     · exact Di _ (bt hs)) (hl.push (hf t (bt ht)).mono (Di _ (bt hs)) (by omega))
   refine ⟨r,l',h1,h1n,h2,?_⟩;have hb:(vs.length+1)*16≤140737488355328:=by omega
   have hs':([PV.str [120],.str [121],.str [122],.str [119]]:List PV)[q]?=some (.str s):=by
     have:([PV.str [120],.str [121],.str [122],.str [119]]:List PV)=P2.map PV.str:=rfl;rw [this];simp [tn,tsh,tl,hs]
   rw [g350L2e] at e' ⊢;simp [tn,tsh,tl,tC,oh,qD,JD,N_] at e'
   try simp [tn,tsh,tl] at k1 k2
   simp (disch:=omega) [tn,tsh,tl,-getElem?_pos,g350B2,tC,oh,qD,JD,N_,hk,ht,hrem,hs',k1,k2,hb,az,aK];rw [g350L2e];simp [tn,tsh,tl,e']
def NF (n:Nat) (a:Ar):Prop:=(a.iV.length≤100∧a.vars.length≤10∧∀v∈a.vars,v.length≤100)∧uN n a.body
theorem zA {n:Nat} {x:Ex} {as:List Ar} (hx:uN (12*n) x) (ha:as.length≤9) (h:∀a∈as,NF (12*n) a):uN (12*(n+1)) ⟨8,0,[],0,[x],as,bW⟩:=by
 have hc:∀y∈(⟨8,0,[],0,[x],as,bW⟩:Ex).ch,uN (12*n) y:=by
   intro y hy;simp [Ex.ch] at hy;rcases hy with rfl | ⟨a,ha,rfl⟩
   · exact hx
   · exact (h a ha).2
 refine ⟨⟨.mk (by simp) (by simp only;omega) (fun a hm=>by have:=(h a hm).1.2.1;omega) iJ fun y hy=>(hc y hy).sc.ok,.mk (fun _=>rfl) fun y hy=>(hc y hy).sc.one,.mk iK fun y hy=>(hc y hy).sc.cw⟩,jJ (n:=12*n+1) (.mk fun y hy=>(hc y hy).h) (by omega),?_,.sK rfl rfl hx.tx (by simp only;omega) (fun a hm=>(h a hm).1) (fun a hm=>(h a hm).2.tx)⟩;rw [sL,Ex.p8];exact zx (by rw [Ex.iI];simp only [List.length_singleton];omega) fun y hy=>by have:=(hc y hy).w;rwa [sL] at this
theorem Ml {L:List Int} {tm:Nat} {TP:Int→Sh} (hT:Tape L tm TP) {ds:List Dt} {dep:Nat} {l:List En} {g:Ty} (hdep:dep<10) (hD:tO ds) (hG:jK L tm TP ds dep) (hl:Ctx (1000-20*(dep+1)) l) (hg:cx g) (hgn:g.nodes.length≤6000-20*(dep+1)) {d:Dt} (hdm:d∈ds) {as:List Ty} (has:as.length≤8) (hga:∀a∈as,cx a) {x:Ex}:∀(n k:Nat),d.cons.length-k=n→k≤d.cons.length→∀(ar:List Ar) (i:Nat),ar.length=k→(∀a∈ar,NF (12*(dep+1)) a)→i≤L.length →
   ∃(r:List Ar) (j:Nat),r.length=d.cons.length∧(∀a∈r,NF (12*(dep+1)) a)∧j≤L.length ∧
   cl AP g350L1 ⟨[(0,.br tm 0),(1,.pv (.aI (ds.map Dt.pv))),(2,.pv (.aI (l.map En.pv))),(4,.pv (vI (dep+1))),(8,.aG 8 0),(10,.aG 10 0),(11,.aG 11 0),(12,.own (as.map Ty.pv) 0),(14,.aG 14 0),(15,.pv (vI k))],
     [(8,tC g),(10,oh 1),(11,qD d),(14,JD x ar)],TP i,[as.length,0,0,0,1,ar.length,0]⟩ =
     some (.exit 2,⟨[(0,.br tm 0),(1,.pv (.aI (ds.map Dt.pv))),(2,.pv (.aI (l.map En.pv))),(4,.pv (vI (dep+1))),(8,.aG 8 0),(10,.aG 10 0),(11,.aG 11 0),(12,.own (as.map Ty.pv) 0),(14,.aG 14 0),(15,.pv (vI d.cons.length)),(66,.pv (.bool false))],
     [(8,tC g),(10,oh 1),(11,qD d),(14,JD x r)],TP j,[as.length,0,0,0,1,r.length,0]⟩)
 | 0,k,hn,hk,ar,i,ha,hm,hi=>by
   have tn:=hT.norm;have tsh:=hT.shift;have tl:=hT.take;have:k=d.cons.length:=(by omega);subst this;refine ⟨ar,i,ha,hm,hi,?_⟩;rw [g350L1e];simp [tn,tsh,tl,g350B1,tC,oh,qD,JD]
 | n+1,k,hn,hk,ar,i,ha,hm,hi=>by
   have tn:=hT.norm;have tsh:=hT.shift;have tl:=hT.take;have hk:k<d.cons.length:=(by omega);obtain ⟨c,hc⟩:=bD hk;have hc8:=(eh d (hD.all d hdm)).2.1;have k1:=c207 hD.small (as:=as) (by unfold Sm;omega) (s:=c.name);obtain ⟨hf8,hf⟩:=zz hD (s:=c.name) hga;generalize hff:fieldsOf ds c.name as=F at *;generalize hfe:F.getD []=f at *;obtain ⟨vs,l',hv,hvn,hl',e1⟩:=Mk hT (L:=L) (I:=i) (p1:=.aI (ds.map Dt.pv)) (p2:=.aI (l.map En.pv)) (p4:=vI (dep+1)) (g:=g) (d:=d) (as:=as) (x:=x) (ar:=ar) (C:=k) (c:=c) hf8 hf (N:=1000-20*(dep+1)) (by omega) _ 0 rfl (by omega) [] l rfl (by simp) (hl.gW (by omega));obtain ⟨b,f1,f2,f3,j2,e2,hb,hj2⟩:=hG i l' g hi (hl'.gW (by omega)) hg (by omega)
   obtain ⟨r,j,q1,q2,q3,e'⟩:=Ml hT hdep hD hG hl hg hgn hdm has hga (x:=x) n (k+1) (by omega) (by omega) (ar++[⟨0,c.name,vs,b⟩]) j2 (by simp;omega) (by
     intro a h;simp at h;rcases h with h | rfl
     · exact hm a h
     · exact ⟨⟨(kI d (hD.all d hdm)).2 c (bt hc),by simp only;omega,hvn⟩,hb⟩) hj2
   refine ⟨r,j,q1,q2,q3,?_⟩;have hB:=ek f1 f2 f3 b;generalize eo f1 f2 f3 b=B at e2 hB;have bc:=Ex.bS b;have tB:B.take 11=B:=List.take_of_length_le (by rw [hB.len];omega);have hbb:(ar.length+1)*200≤140737488355328:=by omega
   have hd1:(dep:Int)+1-1=dep:=(by omega);rw [g350L2e] at e1;rw [g350L1e] at e';simp [tn,tsh,tl,tC,oh,qD,JD,N_] at e1 e' e2 ⊢;simp [tn,tsh,tl,PG,hfe] at k1;rw [g350L1e];simp (disch:=omega) [tn,tsh,tl,-getElem?_pos,g350B1,hc,hk,k1,az,hd1,g350L2e,e1,e2,hbb,aK,hB.dR,hB.flat,hB.iC,hB.len,hB.leaf,tB,bc];rw [g350L1e];simp [tn,tsh,tl,e']
theorem c350 {L:List Int} {tm:Nat} {TP:Int→Sh} (hT:Tape L tm TP) {ds:List Dt} {dep:Nat} {l:List En} {g:Ty} {i:Nat} (hL:Sm L) (hdep:dep<10) (hD:tO ds) (hG:jK L tm TP ds dep) (hl:Ctx (1000-20*(dep+1)) l) (hg:cx g) (hgn:g.nodes.length≤6000-20*(dep+1)) (hi:i≤L.length) :
   mw L tm TP (12*(dep+2)) ((aP AP).i 350 [.br tm 0,.pv (.aI (ds.map Dt.pv)),.pv (.aI (l.map En.pv)),.pv g.pv,.pv (vI (dep+1:Nat))] (TP i) []):=by
 have tn:=hT.norm;have tsh:=hT.shift;have tl:=hT.take;have hll:=hl.len;by_cases z:ds=[]
 · subst z;obtain ⟨e,f1,f2,f3,j,k,ht,hj⟩:=c348 hT hL (ds:=[]) (hl.gW (by omega)) hg hi;refine ⟨e,f1,f2,f3,j,?_,ht.up (by omega),hj⟩;rw [aR (af:=g350) rfl (by simp [tn,tsh,tl,g350])];cases f1<;>cases f2<;>cases f3<;>simp [tn,tsh,tl,eo,gI] at k<;>simp [tn,tsh,tl,g350,k,eo,gI,aK]
 · have hp:0<ds.length:=List.length_pos_iff.2 z;have hdl:=hD.len;have hda:∀d∈ds,d.params.length≤8:=fun d hd=>(eh d (hD.all d hd)).1
   obtain ⟨m,j1,e1,m0,m1,hj1⟩:=nj hT hL hi (n:=ds.length) (by omega) (by omega);obtain ⟨m,rfl,hm⟩:=kW m0 m1;obtain ⟨d,hd⟩:=bD hm;have hdm:=bt hd;obtain ⟨as,j2,a1,a2,hj2,e2⟩:=Mj hT hL (by omega) hda (fun d hd=>(kI d (hD.all d hd)).1) (p2:=.aI (l.map En.pv)) (p4:=vI (dep+1)) (g:=g) (hda d hdm) _ 0 rfl (by omega) [] j1 rfl (by simp) hj1;have hd8:=hda d hdm;have hd10:=(eh d (hD.all d hdm)).2.1;have k1:=c62 (s:=d.name) (l:=as) (by unfold Sm;omega);have gt:cx ⟨4,d.name,0,0,as⟩:=⟨⟨by unfold Sm;simp only;omega,fun x hx=>(a2 x hx).1.ok⟩,.mk (by simp) (kI d (hD.all d hdm)).1 fun x hx=>(a2 x hx).1.kn⟩
   have gtn:(⟨4,d.name,0,0,as⟩:Ty).nodes.length≤100:=by
     rw [Ty.bh];simp only [List.length_cons,List.length_flatMap];have:=sI (f:=fun x:Ty=>x.nodes.length) fun x hx=>(a2 x hx).2
     omega
   obtain ⟨x,f1,f2,f3,j3,e3,hx,hj3⟩:=hG j2 l _ hj2 (hl.gW (by omega)) gt (by omega);obtain ⟨r,j4,b1,b2,hj4,e4⟩:=Ml hT hdep hD hG hl hg hgn hdm (by omega) (fun a ha=>(a2 a ha).1) (x:=x) _ 0 rfl (by omega) [] j3 rfl (by simp) hj3;refine ⟨⟨8,0,[],0,[x],r,bW⟩,false,false,false,j4,?_,(zA hx (by omega) b2).up (by omega),hj4⟩;have hA:=ek f1 f2 f3 x;generalize eo f1 f2 f3 x=A at e3 hA;have ac:=Ex.bS x;have hd1:(dep:Int)+1-1=dep:=by omega
   rw [g350L0e] at e2;rw [g350L1e] at e4;simp [tn,tsh,tl,tC,oh,qD,JD] at e1 e2 e3 e4 k1;rw [aR (af:=g350) rfl (by simp [tn,tsh,tl,g350])];simp (disch:=omega) [tn,tsh,tl,-getElem?_pos,g350,z,hd1,az,e1,hd,g350L0e,e2,k1,e3,hA.dR,hA.flat,hA.iC,hA.len,hA.leaf,ac,g350L1e,e4,aK,eo,gI,bW]
theorem c326 {L:List Int} {tm:Nat} {TP:Int→Sh} (hT:Tape L tm TP) {ds:List Dt} (hL:Sm L) (hD:tO ds):∀dep:Nat,dep≤10→jK L tm TP ds dep
 | 0,_=>fun i l g hi hl hg _=>Jo hT hL (hl.gW (by omega)) hg hi
 | dep+1,hdep=>fun i l g hi hl hg hgn=>by
   have tn:=hT.norm;have tsh:=hT.shift;have tl:=hT.take;have hG:=c326 hT hL hD dep (by omega);have hdl:=hD.len;have hda:∀d∈ds,d.params.length≤8:=fun d hd=>(eh d (hD.all d hd)).1
   have hdn:∀d∈ds,d.name.length≤100:=fun d hd=>(kI d (hD.all d hd)).1
   obtain ⟨r9,j9,e9,r0,r1,hj9⟩:=nj hT hL hi (n:=9) (by omega) (by omega);by_cases nz:r9=0
   · subst nz;exact Li hT hL (by omega) (hl.gW (by omega)) hg hj9 e9
   · obtain ⟨a,b,ar,arr,_,_,hab⟩:=c194g hg.ok;obtain ⟨k,j,sX,k0,k1,hj⟩:=nj hT hL hj9 (n:=10) (by omega) (by omega);have P:Jp L tm TP g i a b ar k r9 j9 j:=⟨nz,e9,arr,sX,hj⟩;have h1:¬((dep:Int)+1<1):=by omega
     have headed:(ar=true→7≤k)→(ar=false→¬k<2∧k≠2∧k≠3∧k≠5∧(k=4→¬(g.jI 3=false∧g.jI 1=false)))→sW L tm TP ds (dep+1) l g i:=by
       intro H1 H2;obtain ⟨e,f1,f2,f3,j',kk,ht,hj'⟩:=c352 hT hL (by omega) hD hG hl hg hj;refine ⟨e,f1,f2,f3,j',?_,ht,hj'⟩;have c3:=c351 (k:=3) hg.ok;have c1:=c351 (k:=1) hg.ok
       try simp [tn,tsh,tl] at e9 arr sX c3 c1
       rw [aR (af:=g326) rfl (by simp [tn,tsh,tl,g326])];cases ar with
       | true=>
         have q:=H1 rfl;have q7:¬k<7:=(by omega);have q2:¬k<2:=(by omega);have q3:¬k=2:=(by omega);have q4:¬k=3:=(by omega);have q5:¬k=4:=(by omega);have q6:¬k=5:=(by omega);cases f1<;>cases f2<;>cases f3<;>simp [tn,tsh,tl,eo,gI] at kk<;>simp [tn,tsh,tl,g326,h1,nz,e9,arr,sX,q7,q2,q3,q4,q5,q6,kk,eo,gI,aK]
       | false=>
         obtain ⟨q2,q3,q4,q6,q5⟩:=H2 rfl;by_cases h4:k=4
         · have:=q5 h4;subst h4;cases g3:g.jI 3 with
           | true=>
             rw [g3] at c3;cases f1<;>cases f2<;>cases f3<;>simp [tn,tsh,tl,eo,gI] at kk<;>simp [tn,tsh,tl,g326,h1,nz,e9,arr,sX,c3,kk,eo,gI,aK]
           | false=>
             rw [g3] at c3
             have g1:g.jI 1=true:=by
               cases g1:g.jI 1 with
               | true=>rfl
               | false=>exact absurd ⟨g3,g1⟩ this
             rw [g1] at c1;cases f1<;>cases f2<;>cases f3<;>simp [tn,tsh,tl,eo,gI] at kk<;>simp [tn,tsh,tl,g326,h1,nz,e9,arr,sX,c3,c1,kk,eo,gI,aK]
         · cases f1<;>cases f2<;>cases f3<;>simp [tn,tsh,tl,eo,gI] at kk<;>simp [tn,tsh,tl,g326,h1,nz,e9,arr,sX,q2,q3,q4,h4,q6,kk,eo,gI,aK]
     cases ar with
     | true=>
       have hq:=hab rfl;by_cases h7:k<7
       · exact NB hT hL (by omega) hG hl P h7 (hg.g_ a (by rw [hq];simp)) (hg.g_ b (by rw [hq];simp)) (by
           have:=sJ (f:=fun x:Ty=>x.nodes.length) (l:=g.args) (x:=b) (by rw [hq];simp);rw [Ty.bh] at hgn;simp only [List.length_cons,List.length_flatMap] at hgn;omega)
       · exact headed (fun _=>by omega) (by simp)
     | false=>
       by_cases h2:k<2
       · exact NC hT hL (by omega) (by omega) hda hdn hG hl hg hgn P h2
       · by_cases h3:k=2
         · subst h3;obtain ⟨e,f1,f2,f3,j',kk,ht,hj'⟩:=c349 hT hL (by omega) (by omega) hda hdn hG hl hg hgn hj;refine ⟨e,f1,f2,f3,j',?_,ht,hj'⟩
           try simp [tn,tsh,tl] at e9 arr sX
           rw [aR (af:=g326) rfl (by simp [tn,tsh,tl,g326])];cases f1<;>cases f2<;>cases f3<;>simp [tn,tsh,tl,eo,gI] at kk<;>simp [tn,tsh,tl,g326,h1,nz,e9,arr,sX,kk,eo,gI,aK]
         · by_cases h4:k=3
           · subst h4;obtain ⟨e,f1,f2,f3,j',kk,ht,hj'⟩:=c350 hT hL (by omega) hD hG hl hg hgn hj;refine ⟨e,f1,f2,f3,j',?_,ht,hj'⟩
             try simp [tn,tsh,tl] at e9 arr sX
             rw [aR (af:=g326) rfl (by simp [tn,tsh,tl,g326])];cases f1<;>cases f2<;>cases f3<;>simp [tn,tsh,tl,eo,gI] at kk<;>simp [tn,tsh,tl,g326,h1,nz,e9,arr,sX,kk,eo,gI,aK]
           · by_cases h5:k=5
             · subst h5;exact Lj hT hL (by omega) hG hl hg hgn P
             · by_cases h6:k=4∧g.jI 3=false∧g.jI 1=false
               · obtain ⟨rfl,q1,q2⟩:=h6;exact ND hT hL (by omega) hG hl hg hgn P q1 q2
               · exact headed (by simp) (fun _=>⟨h2,h3,h4,h5,fun q=>fun w=>h6 ⟨q,w⟩⟩)
theorem Lo {s:List cS} {y:cS} (h:y∈s):0≤og s y∧og s y<s.length:=by
 unfold og;cases e:dz (fun x=>decide (x=y)) s with
 | none=>have:=mi.1 e y h;simp at this
 | some k=>
   have:k<s.length:=by
     clear h;induction s generalizing k with
     | nil=>simp [dz] at e
     | cons a r ih=>
       simp only [dz] at e;split at e
       · cases e;simp
       · simp only [Option.map_eq_some_iff] at e;obtain ⟨j,hj,rfl⟩:=e;have:=ih j hj;simp;omega
   simp [mB];omega
theorem zB:∀{l out:List cS} {y:cS},y∈l→y∈l.foldl eZ out
 | a::r,out,y,h=>by
   rw [List.foldl_cons];simp only [List.mem_cons] at h;rcases h with rfl | h
   · refine uG ?_;unfold eZ;split
     · assumption
     · simp
   · exact zB h
theorem uQ:∀{l out:List cS},(l.foldl eZ out).length≤out.length+l.length
 | [],out=>by simp
 | a::r,out=>by
   have h:=uQ (l:=r) (out:=eZ out a);have:(eZ out a).length≤out.length+1:=by unfold eZ;split<;>simp
   simp only [List.foldl_cons,List.length_cons];omega
theorem Cm {t:Ty}:t.gq.length≤t.nodes.length∧∀z∈t.nodes,z.kind=5→z.name∈t.gq:=by
 refine Ty.eU (p:=fun t=>t.gq.length≤t.nodes.length∧∀z∈t.nodes,z.kind=5→z.name∈t.gq) ?_ t;intro t ih
 have key:∀l:List Ty,(∀a∈l,a.gq.length≤a.nodes.length)→(l.flatMap Ty.gq).length≤(l.flatMap Ty.nodes).length:=by
   intro l;induction l with
   | nil=>intro _;simp
   | cons a r ihr=>
     intro h;have h1:=h a (by simp);have h2:=ihr fun b hb=>h b (by simp [hb])
     simp only [List.flatMap_cons,List.length_append];omega
 rw [Ty.Da,Ty.bh];refine ⟨?_,?_⟩
 · have:=key t.args fun a ha=>(ih a ha).1
   have h1:(if t.kind=5 then [t.name] else []).length≤1:=by split<;>simp
   simp only [List.length_append,List.length_cons];omega
 · intro z hz hk;simp only [List.mem_cons,List.mem_flatMap] at hz;rcases hz with rfl | ⟨a,ha,hz⟩
   · rw [if_pos hk];simp
   · refine List.mem_append_right _ ?_;simp only [List.mem_flatMap];exact ⟨a,ha,(ih a ha).2 z hz hk⟩
theorem Lp {l:List cS} {t:Ty} (h:t.Kn (·=5)) (hl:∀z∈t.nodes,z.kind=5→z.name∈l):(t.lW l).Kn KC∧Lb l.length (t.lW l):=by
 induction h with
 | @mk t hh hnn _ ih=>
   have hself:t∈t.nodes:=(by rw [Ty.bh];simp);rw [Ty.wC];by_cases k:t.kind=5
   · have hp:=Lo (hl t hself k);rw [if_pos ⟨k,hp.1⟩];refine ⟨.bare rfl (by simp [cU]) (by simp [cU]),?_⟩;intro y hy _;rw [Ty.bh] at hy;simp [cU] at hy;subst hy;exact hp
   · rw [if_neg (fun q=>k q.1)]
     have hk4:t.kind=4:=by
       by_cases q:t.kind=4
       · exact q
       · exact absurd (hh q).1 k
     refine ⟨.mk (fun q=>absurd hk4 q) hnn ?_,?_⟩
     · intro x hx;simp only [List.mem_map] at hx;obtain ⟨a,ha,rfl⟩:=hx;exact (ih a ha fun z hz=>hl z (Gf a ha z hz)).1
     · intro y hy hy2;rw [Ty.bh] at hy;simp only [List.mem_cons,List.mem_flatMap,List.mem_map] at hy;rcases hy with rfl | ⟨b,⟨a,ha,rfl⟩,hy⟩
       · simp only at hy2;omega
       · exact (ih a ha fun z hz=>hl z (Gf a ha z hz)).2 y hy hy2
theorem qa {D:Dt→Prop} (hN:∀d,D d→d.name.length≤100) {lv:List Ty} (h:∀t∈lv,t.args=[]∧t.kind=5∧t.name.length≤100) {n:Nat} {t:Ty} (m:gR D lv n t):t.Kn (·=5):=by
 induction m with
 | leaf hl=>exact .bare (h _ hl).1 (fun _=>(h _ hl).2.1) (h _ hl).2.2
 | int=>exact .bare rfl (by simp [bB]) (by simp [bB])
 | iV hd _ _ ih=>exact .mk (by simp) (hN _ hd) ih
 | arrow _ _ iha ihb=>exact .mk (by simp) (by simp) (by intro x hx;simp at hx;rcases hx with rfl | rfl<;>assumption)
theorem sZ {h:Int}:∀{n:Nat} {x:Ty},x∈kG h n→∃i:Nat,x=kz h i
 | 0,x,hx=>by simp [kG] at hx
 | n+1,x,hx=>by
   simp [kG] at hx;rcases hx with hx | rfl
   · exact sZ hx
   · exact ⟨n,rfl⟩
theorem uR {f:Ty→Ty} {l:List Ty} (h:∀x∈l,(f x).nodes.length≤x.nodes.length):((l.map f).flatMap Ty.nodes).length≤(l.flatMap Ty.nodes).length:=by
 induction l with
 | nil=>simp
 | cons a r ih=>
   have h1:=h a (by simp);have h2:=ih fun x hx=>h x (by simp [hx])
   simp only [List.map_cons,List.flatMap_cons,List.length_append];omega
theorem Lq {l:List cS} (t:Ty):(t.lW l).nodes.length≤t.nodes.length:=by
 refine Ty.eU (p:=fun t=>(t.lW l).nodes.length≤t.nodes.length) ?_ t;intro t ih;rw [Ty.wC];split
 · rw [Ty.bh,Ty.bh t];simp [cU]
 · rw [Ty.bh,Ty.bh t];have:=uR (f:=Ty.lW l) ih;simp only [List.length_cons];omega
theorem Lr {l:List Ty} (hl:∀x∈l,x.nodes.length≤1) (t:Ty):(t.ml l).nodes.length≤t.nodes.length:=by
 refine Ty.eU (p:=fun t=>(t.ml l).nodes.length≤t.nodes.length) ?_ t;intro t ih;rw [Ty.lR];cases e:IQ l t with
 | some x=>
   obtain ⟨_,_,_,hx⟩:=lQ e;have:=hl x (bt hx);rw [Ty.bh t];simp only [Option.getD_some,List.length_cons];omega
 | none=>
   simp only [Option.getD_none];rw [Ty.bh,Ty.bh t];have:=uR (f:=Ty.ml l) ih;simp only [List.length_cons];omega
structure Gn (t:Ty):Prop where
 ok:t.Ok
 kn:t.Kn (·=5)
 n:t.nodes.length≤90
theorem Gn.both {t:Ty} (h:Gn t):∃(u:Ty) (c:Sc),(aP AP).p 325 [t.pv]=some [u.pv]∧(aP AP).p 327 [t.pv,vI 98]=some [u.pv,c.pv]∧cx u∧kZ c∧u.nodes.length≤90:=by
 obtain ⟨s1,s2⟩:=Cm (t:=t);have hn:=h.n;have k1:=c325 (S:=t.gq) (by omega) h.ok h.kn.cw (fun y hy=>hy);have k2:=c327 (S:=t.gq) (by omega) h.ok h.kn.cw (fun y hy=>hy) (h:=98)
 have hl:(d_ t).length≤90:=by
   have:=uQ (l:=t.gq) (out:=[]);simp at this;unfold d_;omega
 obtain ⟨b1,b2⟩:=Lp (l:=d_ t) h.kn (fun z hz hk=>zB (s2 z hz hk));have sc:kZ ⟨(d_ t).length,t.lW (d_ t)⟩:=⟨Ci h.ok,b1,(d_ t).length,rfl,by omega,b2⟩;refine ⟨_,_,k1,k2,?_,sc,Nat.le_trans (Lr (fun x hx=>by obtain ⟨i,rfl⟩:=sZ hx;rw [Ty.bh];simp [kz]) _) (Nat.le_trans (Lq t) hn)⟩;refine zy sc (by rw [lX]) ?_;intro a ha;obtain ⟨i,rfl⟩:=sZ ha;exact ⟨da rfl,.bare rfl (by simp [kz]) (by simp [kz])⟩
structure Bd where
 pos:Int
 rc:Bool
 name:cS
 sg:Bool
 sig:Ty
 body:Ex
def Bd.cells (b:Bd):List PV:=[vI b.pos,.bool b.rc,.str b.name,.bool b.sg,vI b.sig.kind,.str b.sig.name,vI b.sig.id,vI b.sig.home,.aI (b.sig.args.map Ty.pv)]++b.body.cells
def Bd.pv (b:Bd):PV:=.agg b.cells
@[simp] theorem Bd.lI (b:Bd):b.pv=.agg [vI b.pos,.bool b.rc,.str b.name,.bool b.sg,vI b.sig.kind,.str b.sig.name,vI b.sig.id,vI b.sig.home,.aI (b.sig.args.map Ty.pv),.int .i64 b.body.kind,.int .i64 b.body.pos,.str b.body.name,.int .i64 b.body.num,.aI (b.body.kids.map Ex.pv),.aI (b.body.bu.map Ar.pv),.int .i64 b.body.ty.kind,.str b.body.ty.name,.int .i64 b.body.ty.id,.int .i64 b.body.ty.home,.aI (b.body.ty.args.map Ty.pv)]:=by
 rw [Bd.pv,Bd.cells,Ex.bS];rfl
theorem lZ:Row Bd.cells 20:=⟨by omega,fun b=>by rw [Bd.cells,Ex.bS];rfl⟩
theorem P3:El Bd.pv 20 true:=⟨fun b=>by simp,fun b=>by simp⟩
@[simp] theorem N' {l:List Bd}:bC 20 (l.map Bd.pv)=true:=P3.head l
theorem Cn {l:List Bd}:((ff (b_ Bd.cells l)).bind (fh 20 true l.length)).map PV.aI=some (.aI (l.map Bd.pv)):=qB lZ
theorem NG {l:List Bd}:((l.map Bd.pv).flatMap bw).map AV.pv=b_ Bd.cells l:=qC lZ
structure pc (N:Nat) (b:Bd):Prop where
 sc:zd b.body
 h:b.body.zc N
 so:b.sig.Ok
 sw:b.sig.Cw
 sn:b.sig.nodes.length≤90
 nm:b.name.length≤100
 st:b.sig.Kn KT
 w:b.body.sz≤70000*N
 tx:mm b.body
def qK (L:List Int) (k:Nat) (bs:List Bd) (j:Int):Sh:=[]++[some [.pv (.aI (L.map vI)),.pv (vI j)]]++(nn k++[some (b_ Bd.cells bs)])
theorem jm {L:List Int} {k:Nat} {bs:List Bd}:Tape L 0 (qK L k bs):=Dh (A:=[]) (by intro cs h;simp at h) ((eM k).app (bA.one cJ))
theorem Dj {L:List Int} {k:Nat} {bs:List Bd} {j:Int}:(qK L k bs j)[1+k]?=some (some (b_ Bd.cells bs)):=by
 simp [qK,List.getElem?_append_right,Nat.add_comm,nn]
theorem Ls {L:List Int} {k:Nat} {bs:List Bd} {j:Int} {F:List AV}:(qK L k bs j).set (1+k) none++[some F]=[]++[some [.pv (.aI (L.map vI)),.pv (vI j)]]++(nn (k+1)++[some F]):=by
 simp [qK,nn,Nat.add_comm 1 k,List.set_append,List.replicate_succ']
theorem Lt {L:List Int} {k:Nat} {bs:List Bd} {j:Int}:(qK L k bs j).length=1+k+1:=by simp [qK,nn];omega
def Oa:List cS:=[[112],[113],[114],[115]]
theorem Lu {i:Nat} {s:cS} (h:Oa[i]?=some s):([PV.str [112],.str [113],.str [114],.str [115]]:List PV)[i]?=some (.str s):=by
 have:([PV.str [112],.str [113],.str [114],.str [115]]:List PV)=Oa.map PV.str:=rfl;rw [this];simp [h]
structure It (L:List Int) (tm:Nat) (TP:Int→Sh) (ds:List Dt) (l:List En) (nm:cS) (i:Nat) (r4 r3 r2:Int) (x1 x u:Ty) (sc c':Sc) (e:Ex) (A:List AV) (b10 b11:Bool) (j1 j2 j3 j4 j5 j6:Nat):Prop where
 e1:(aP AP).i 68 [.br tm 0,.pv (vI 4)] (TP i) []=some ([.pv (vI r4)],TP j1,[])
 k0:(aP AP).p 67 []=some [.aI (lM.map Ty.pv)]
 e2:(aP AP).i 27 [.br tm 0,.pv (.aI (ds.map Dt.pv)),.pv (.aI (lM.map Ty.pv)),.pv (vI 2)] (TP j1) []=some ([x1.av],TP j2,[])
 e3:(aP AP).i 68 [.br tm 0,.pv (vI 3)] (TP j2) []=some ([.pv (vI r3)],TP j3,[])
 e4:if r3=0 then (aP AP).i 27 [.br tm 0,.pv (.aI (ds.map Dt.pv)),.pv (.aI []),.pv (vI 2)] (TP j3) []=some ([x.av],TP j4,[]) else x=x1∧j4=j3
 e5:(aP AP).i 68 [.br tm 0,.pv (vI 2)] (TP j4) []=some ([.pv (vI r2)],TP j5,[])
 k1:(aP AP).p 325 [x.pv]=some [u.pv]
 k2:(aP AP).p 327 [x.pv,vI 98]=some [u.pv,sc.pv]
 k3:(aP AP).p 176 [u.pv]=some [(As.mk 0 u).pv]
 k4:(aP AP).p 179 [.aI (l.map En.pv),.str nm,(As.mk 0 u).pv]=some [.aI ((l++[En.mk nm ⟨0,u⟩]).map En.pv)]
 e6:(aP AP).i 326 [.br tm 0,.pv (.aI (ds.map Dt.pv)),.pv (.aI ((if r4=1 then l++[⟨nm,⟨0,u⟩⟩] else l).map En.pv)),.pv u.pv,.pv (vI 3)] (TP j5) []=some ([.agg A],TP j6,[])
 hA:Rg e A
 k5:(aP AP).p 307 [e.pv,vI 10]=some [.bool b10]
 k6:(aP AP).p 307 [e.pv,vI 11]=some [.bool b11]
 k7:(aP AP).p 34 []=some [bB.pv]
 k8:(aP AP).p 176 [bB.pv]=some [(As.mk 0 bB).pv]
 hc:c'=if ¬r2=0∧(b10=true∨b11=true) then ⟨0,bB⟩ else sc
 k9:(aP AP).p 179 [.aI (l.map En.pv),.str nm,c'.pv]=some [.aI ((l++[En.mk nm c']).map En.pv)]
 Mi:kZ c'
 ty:uN 48 e
 sx:Gn x
 hj:j6≤L.length
theorem P4 {L:List Int} {tm:Nat} {TP:Int→Sh} (hT:Tape L tm TP) (hL:Sm L) {ds:List Dt} (hD:tO ds) {l:List En} (hl:Ctx 900 l) {i:Nat} (hi:i≤L.length) (nm:cS) (hnm:nm.length≤100) :
   ∃r4 r3 r2 x1 x u sc c' e A b10 b11 j1 j2 j3 j4 j5 j6,It L tm TP ds l nm i r4 r3 r2 x1 x u sc c' e A b10 b11 j1 j2 j3 j4 j5 j6:=by
 have hdl:=hD.len;have hda:∀d∈ds,d.params.length≤8:=fun d hd=>(eh d (hD.all d hd)).1
 have hdn:∀d∈ds,d.name.length≤100:=fun d hd=>(kI d (hD.all d hd)).1
 have hll:=hl.len
 have nL:∀t∈lM,t.args=[]∧t.kind=5∧t.name.length≤100:=by
   intro t ht;simp [lM] at ht;rcases ht with rfl | rfl | rfl<;>exact ⟨rfl,rfl,by decide⟩
 have sig:∀{lv:List Ty} {x:Ty},(∀t∈lv,t.args=[]∧t.kind=5∧t.name.length≤100)→gR (·∈ds) lv 2 x→Gn x:=fun h m=>⟨m.ok hda (fun t ht=>(h t ht).1),qa hdn h m,by have:=m.small hda (fun t ht=>(h t ht).1);omega⟩
 obtain ⟨r4,j1,e1,_,_,hj1⟩:=nj hT hL hi (n:=4) (by omega) (by omega);obtain ⟨x1,j2,e2,m1,hj2⟩:=Nz hT hL (ds:=ds) (by omega) hda (lv:=lM) (by simp [Sm,lM]) 2 (by omega) j1 hj1;obtain ⟨r3,j3,e3,_,_,hj3⟩:=nj hT hL hj2 (n:=3) (by omega) (by omega)
 obtain ⟨x,j4,e4,sx,hj4⟩:∃(x:Ty) (j4:Nat),(if r3=0 then (aP AP).i 27 [.br tm 0,.pv (.aI (ds.map Dt.pv)),.pv (.aI []),.pv (vI 2)] (TP j3) []=some ([x.av],TP j4,[]) else x=x1∧j4=j3)∧Gn x∧j4≤L.length:=by
   by_cases h:r3=0
   · obtain ⟨x,j4,e4,m,hj4⟩:=Nz hT hL (ds:=ds) (by omega) hda (lv:=[]) (by simp [Sm]) 2 (by omega) j3 hj3;exact ⟨x,j4,by rw [if_pos h];exact e4,sig (by simp) m,hj4⟩
   · exact ⟨x1,j3,by rw [if_neg h];exact ⟨rfl,rfl⟩,sig nL m1,hj3⟩
 obtain ⟨r2,j5,e5,_,_,hj5⟩:=nj hT hL hj4 (n:=2) (by omega) (by omega);obtain ⟨u,sc,k1,k2,gu,hsc,un⟩:=sx.both;have k3:=c176 (t:=u);have k4:=c179 (l:=l) (by unfold Sm;omega) (n:=nm) (c:=⟨0,u⟩)
 have hli:Ctx (1000-20*3) (if r4=1 then l++[⟨nm,⟨0,u⟩⟩] else l):=by
   split
   · exact hl.push gu.mono hnm (by omega)
   · exact hl.gW (by omega)
 obtain ⟨e,f1,f2,f3,j6,e6,he,hj6⟩:=c326 hT hL hD 3 (by omega) j5 _ u hj5 hli gu (by omega);obtain ⟨b10,k5⟩:=c307 he.sc.ok 10;obtain ⟨b11,k6⟩:=c307 he.sc.ok 11
 have Mi:kZ (if ¬r2=0∧(b10=true∨b11=true) then ⟨0,bB⟩ else sc):=by
   split
   · exact qI.mono
   · exact hsc
 exact ⟨r4,r3,r2,x1,x,u,sc,_,e,_,b10,b11,j1,j2,j3,j4,j5,j6,e1,c67,e2,e3,e4,e5,k1,k2,k3,k4,e6,ek f1 f2 f3 e,k5,k6,c34,c176,rfl,c179 (by unfold Sm;omega),Mi,he,sx,hj6⟩
theorem wH:∀s∈Oa,s.length≤100:=by
 intro s hs;simp only [Oa,List.mem_cons,List.not_mem_nil,or_false] at hs;rcases hs with rfl | rfl | rfl | rfl<;>simp
def la (nm:cS) (r4 r2:Int) (x:Ty) (e:Ex):Bd:=⟨0,decide (r4=1),nm,decide (r2=0),if r2=0 then x else bW,e⟩
theorem Dk {nm:cS} {r4 r2:Int} {x:Ty} {e:Ex} (hnm:nm.length≤100) (sx:Gn x) (ty:uN 48 e):pc 100 (la nm r4 r2 x e):=by
 refine ⟨ty.sc,jJ ty.h (by omega),?_,?_,?_,hnm,?_,by have:=ty.w;rw [show (48:Nat)=12*4 from rfl,sL] at this;simp only [la];omega,ty.tx⟩<;>simp only [la]<;>split
 · exact sx.ok
 · exact iJ
 · exact sx.kn.cw
 · exact iK
 · exact sx.n
 · rw [Ty.bh];simp [bW]
 · exact sx.kn.imp (fun k hk=>.inr hk)
 · exact .bare rfl (by simp [bW]) (by simp [bW])
theorem P5 {L:List Int} (hL:Sm L) {ds:List Dt} (hD:tO ds) {l:List En} (hl:Ctx 900 l) {N i k:Nat} (hi4:i<N) (hN:N≤4) {bs:List Bd} (hb0:bs.length=i) {j:Nat} (hj:j≤L.length):∃(b:Bd) (l':List En) (j':Nat),pc 100 b∧Ctx (l.length+1) l'∧j'≤L.length ∧
   cl AP g306L0 ⟨[(4,.aG 4 0),(5,.br 0 0),(6,.aG 6 0),(7,.pv (.aI (l.map En.pv))),(8,.pv (vI N)),(9,.pv (vI i))],[(4,[.own [] 0,.own [] 1]),(6,[.pv (.aI (ds.map Dt.pv)),.bE (1+k) 20 bs.length true])],qK L k bs j,[0,0]⟩ =
   cl AP g306L0 ⟨[(4,.aG 4 0),(5,.br 0 0),(6,.aG 6 0),(7,.pv (.aI (l'.map En.pv))),(8,.pv (vI N)),(9,.pv (vI (i+1:Nat)))],[(4,[.own [] 0,.own [] 1]),(6,[.pv (.aI (ds.map Dt.pv)),.bE (1+k+1) 20 (bs++[b]).length true])],qK L (k+1) (bs++[b]) j',[0,0]⟩:=by
 obtain ⟨nm,hnm⟩:=bD (l:=Oa) (i:=i) (by simp [Oa];omega);have hnm':=Lu hnm;have hT:=jm (L:=L) (k:=k) (bs:=bs);obtain ⟨r4,r3,r2,x1,x,u,sc,c',e,A,b10,b11,j1,j2,j3,j4,j5,j6,I⟩:=P4 hT hL hD hl hj nm (wH nm (bt hnm));obtain ⟨e1,k0,e2,e3,e4,e5,k1,k2,k3,k4,e6,hA,k5,k6,k7,k8,hc,k9,Mi,ty,sx,hj6⟩:=I
 refine ⟨la nm r4 r2 x e,l++[⟨nm,c'⟩],j6,Dk (wH nm (bt hnm)) sx ty,⟨by simp,by
   intro y hy;simp at hy;rcases hy with hy | rfl
   · exact hl.PY y hy
   · exact Mi,by
   intro y hy;simp at hy;rcases hy with hy | rfl
   · exact hl.nm y hy
   · exact wH nm (bt hnm)⟩,hj6,?_⟩
 have tn:=hT.norm;have tsh:=hT.shift;have tl:=hT.take;have g1:=Dj (L:=L) (k:=k) (bs:=bs) (j:=j6);have g2:=Ls (L:=L) (k:=k) (bs:=bs) (j:=j6) (F:=b_ Bd.cells (bs++[la nm r4 r2 x e]));have g3:=Lt (L:=L) (k:=k) (bs:=bs) (j:=j6);have hfl:b_ Bd.cells (bs++[la nm r4 r2 x e])=b_ Bd.cells bs++(la nm r4 r2 x e).cells.map .pv:=by rw [qy];simp [b_]
 have ec:=Ex.bS e;have bc:(la nm r4 r2 x e).cells=[vI 0,.bool (decide (r4=1)),.str nm,.bool (decide (r2=0)),vI (if r2=0 then x else bW).kind,.str (if r2=0 then x else bW).name,vI (if r2=0 then x else bW).id,vI (if r2=0 then x else bW).home,.aI ((if r2=0 then x else bW).args.map Ty.pv)]++e.cells:=rfl;have r1:(b_ Bd.cells bs).length=bs.length*20:=d7 lZ;have r2':dr (b_ Bd.cells bs)=false:=dw cJ;have r3':(b_ Bd.cells bs).take (bs.length*20)=b_ Bd.cells bs:=List.take_of_length_le (by omega);have hb2:(bs.length+1)*256≤140737488355328:=by omega
 have hi':(i:Int)<N:=by omega
 have hq:bA (qK L (k+1) (bs++[la nm r4 r2 x e]) j6):=(jm (L:=L) (k:=k+1) (bs:=bs++[la nm r4 r2 x e])).quiet j6;have tn2:=hq.norm;have sheq:qK L (k+1) (bs++[la nm r4 r2 x e]) j6=(qK L k bs j6).set (1+k) none++[some (b_ Bd.cells bs++(la nm r4 r2 x e).cells.map .pv)]:=by rw [←hfl,g2];rfl
 rw [sheq] at tn2 ⊢;rw [bc] at tn2 ⊢;generalize b_ Bd.cells bs=F at *;have tA:A.take 11=A:=List.take_of_length_le (by rw [hA.len];omega);generalize hTP:qK L k bs=TP at *;clear g2 hfl sheq;generalize hS1:(TP j6).set (1+k) none=S1 at *;rw [ec];rw [ec] at tn2;simp [Ty.av] at e1 k0 e2 e3 e5 k1 k2 k3 k4 e6 k5 k6 k7 k8 k9;by_cases h4:r4=1
 · by_cases h3:r3=0
   · simp [h3,Ty.av] at e4 e3;by_cases h2:r2=0
     · simp [h4,h2,bW] at e1 e5 e6 hc tn2;subst hc
       try simp at k9
       conv=>lhs;rw [g306L0e]
       simp (disch:=omega) [-getElem?_pos,g306B0,hi',hnm',e1,k0,e2,e3,e4,e5,k1,k2,k3,k4,e6,k5,k6,k7,k8,k9,h4,h3,h2,tn,tsh,tl,g1,g3,r1,r2',r3',hb2,tn2,az,aK,hA.dR,hA.flat,hA.iC,hA.len,hA.leaf,tA,ec,hS1,bW]
     · have h2b:(r2 == 0)=false:=(by simpa using h2);simp [h4,h2,bW] at e1 e5 e6 hc tn2;cases b10
       · cases b11
         · simp at hc;subst hc
           try simp at k9
           conv=>lhs;rw [g306L0e]
           simp (disch:=omega) [-getElem?_pos,g306B0,hi',hnm',e1,k0,e2,e3,e4,e5,k1,k2,k3,k4,e6,k5,k6,k7,k8,k9,h4,h3,h2,h2b,tn,tsh,tl,g1,g3,r1,r2',r3',hb2,tn2,az,aK,hA.dR,hA.flat,hA.iC,hA.len,hA.leaf,tA,ec,hS1,bW]
         · simp at hc;subst hc;simp [bB] at k7 k8 k9;conv=>lhs;rw [g306L0e]
           simp (disch:=omega) [-getElem?_pos,g306B0,hi',hnm',e1,k0,e2,e3,e4,e5,k1,k2,k3,k4,e6,k5,k6,k7,k8,k9,h4,h3,h2,h2b,tn,tsh,tl,g1,g3,r1,r2',r3',hb2,tn2,az,aK,hA.dR,hA.flat,hA.iC,hA.len,hA.leaf,tA,ec,hS1,bW,bB]
       · simp at hc;subst hc;simp [bB] at k7 k8 k9;conv=>lhs;rw [g306L0e]
         simp (disch:=omega) [-getElem?_pos,g306B0,hi',hnm',e1,k0,e2,e3,e4,e5,k1,k2,k3,k4,e6,k5,k6,k7,k8,k9,h4,h3,h2,h2b,tn,tsh,tl,g1,g3,r1,r2',r3',hb2,tn2,az,aK,hA.dR,hA.flat,hA.iC,hA.len,hA.leaf,tA,ec,hS1,bW,bB]
   · simp [h3] at e4;obtain ⟨rfl,rfl⟩:=e4;by_cases h2:r2=0
     · simp [h4,h2,bW] at e1 e5 e6 hc tn2;subst hc
       try simp at k9
       conv=>lhs;rw [g306L0e]
       simp (disch:=omega) [-getElem?_pos,g306B0,hi',hnm',e1,k0,e2,e3,e5,k1,k2,k3,k4,e6,k5,k6,k7,k8,k9,h4,h3,h2,tn,tsh,tl,g1,g3,r1,r2',r3',hb2,tn2,az,aK,hA.dR,hA.flat,hA.iC,hA.len,hA.leaf,tA,ec,hS1,bW]
     · have h2b:(r2 == 0)=false:=(by simpa using h2);simp [h4,h2,bW] at e1 e5 e6 hc tn2;cases b10
       · cases b11
         · simp at hc;subst hc
           try simp at k9
           conv=>lhs;rw [g306L0e]
           simp (disch:=omega) [-getElem?_pos,g306B0,hi',hnm',e1,k0,e2,e3,e5,k1,k2,k3,k4,e6,k5,k6,k7,k8,k9,h4,h3,h2,h2b,tn,tsh,tl,g1,g3,r1,r2',r3',hb2,tn2,az,aK,hA.dR,hA.flat,hA.iC,hA.len,hA.leaf,tA,ec,hS1,bW]
         · simp at hc;subst hc;simp [bB] at k7 k8 k9;conv=>lhs;rw [g306L0e]
           simp (disch:=omega) [-getElem?_pos,g306B0,hi',hnm',e1,k0,e2,e3,e5,k1,k2,k3,k4,e6,k5,k6,k7,k8,k9,h4,h3,h2,h2b,tn,tsh,tl,g1,g3,r1,r2',r3',hb2,tn2,az,aK,hA.dR,hA.flat,hA.iC,hA.len,hA.leaf,tA,ec,hS1,bW,bB]
       · simp at hc;subst hc;simp [bB] at k7 k8 k9;conv=>lhs;rw [g306L0e]
         simp (disch:=omega) [-getElem?_pos,g306B0,hi',hnm',e1,k0,e2,e3,e5,k1,k2,k3,k4,e6,k5,k6,k7,k8,k9,h4,h3,h2,h2b,tn,tsh,tl,g1,g3,r1,r2',r3',hb2,tn2,az,aK,hA.dR,hA.flat,hA.iC,hA.len,hA.leaf,tA,ec,hS1,bW,bB]
 · have h4b:(r4 == 1)=false:=(by simpa using h4);by_cases h3:r3=0
   · simp [h3,Ty.av] at e4 e3;by_cases h2:r2=0
     · simp [h4,h2,bW] at e1 e5 e6 hc tn2;subst hc
       try simp at k9
       conv=>lhs;rw [g306L0e]
       simp (disch:=omega) [-getElem?_pos,g306B0,hi',hnm',e1,k0,e2,e3,e4,e5,k1,k2,k3,k4,e6,k5,k6,k7,k8,k9,h4,h3,h2,h4b,tn,tsh,tl,g1,g3,r1,r2',r3',hb2,tn2,az,aK,hA.dR,hA.flat,hA.iC,hA.len,hA.leaf,tA,ec,hS1,bW]
     · have h2b:(r2 == 0)=false:=(by simpa using h2);simp [h4,h2,bW] at e1 e5 e6 hc tn2;cases b10
       · cases b11
         · simp at hc;subst hc
           try simp at k9
           conv=>lhs;rw [g306L0e]
           simp (disch:=omega) [-getElem?_pos,g306B0,hi',hnm',e1,k0,e2,e3,e4,e5,k1,k2,k3,k4,e6,k5,k6,k7,k8,k9,h4,h3,h2,h2b,h4b,tn,tsh,tl,g1,g3,r1,r2',r3',hb2,tn2,az,aK,hA.dR,hA.flat,hA.iC,hA.len,hA.leaf,tA,ec,hS1,bW]
         · simp at hc;subst hc;simp [bB] at k7 k8 k9;conv=>lhs;rw [g306L0e]
           simp (disch:=omega) [-getElem?_pos,g306B0,hi',hnm',e1,k0,e2,e3,e4,e5,k1,k2,k3,k4,e6,k5,k6,k7,k8,k9,h4,h3,h2,h2b,h4b,tn,tsh,tl,g1,g3,r1,r2',r3',hb2,tn2,az,aK,hA.dR,hA.flat,hA.iC,hA.len,hA.leaf,tA,ec,hS1,bW,bB]
       · simp at hc;subst hc;simp [bB] at k7 k8 k9;conv=>lhs;rw [g306L0e]
         simp (disch:=omega) [-getElem?_pos,g306B0,hi',hnm',e1,k0,e2,e3,e4,e5,k1,k2,k3,k4,e6,k5,k6,k7,k8,k9,h4,h3,h2,h2b,h4b,tn,tsh,tl,g1,g3,r1,r2',r3',hb2,tn2,az,aK,hA.dR,hA.flat,hA.iC,hA.len,hA.leaf,tA,ec,hS1,bW,bB]
   · simp [h3] at e4;obtain ⟨rfl,rfl⟩:=e4;by_cases h2:r2=0
     · simp [h4,h2,bW] at e1 e5 e6 hc tn2;subst hc
       try simp at k9
       conv=>lhs;rw [g306L0e]
       simp (disch:=omega) [-getElem?_pos,g306B0,hi',hnm',e1,k0,e2,e3,e5,k1,k2,k3,k4,e6,k5,k6,k7,k8,k9,h4,h3,h2,h4b,tn,tsh,tl,g1,g3,r1,r2',r3',hb2,tn2,az,aK,hA.dR,hA.flat,hA.iC,hA.len,hA.leaf,tA,ec,hS1,bW]
     · have h2b:(r2 == 0)=false:=(by simpa using h2);simp [h4,h2,bW] at e1 e5 e6 hc tn2;cases b10
       · cases b11
         · simp at hc;subst hc
           try simp at k9
           conv=>lhs;rw [g306L0e]
           simp (disch:=omega) [-getElem?_pos,g306B0,hi',hnm',e1,k0,e2,e3,e5,k1,k2,k3,k4,e6,k5,k6,k7,k8,k9,h4,h3,h2,h2b,h4b,tn,tsh,tl,g1,g3,r1,r2',r3',hb2,tn2,az,aK,hA.dR,hA.flat,hA.iC,hA.len,hA.leaf,tA,ec,hS1,bW]
         · simp at hc;subst hc;simp [bB] at k7 k8 k9;conv=>lhs;rw [g306L0e]
           simp (disch:=omega) [-getElem?_pos,g306B0,hi',hnm',e1,k0,e2,e3,e5,k1,k2,k3,k4,e6,k5,k6,k7,k8,k9,h4,h3,h2,h2b,h4b,tn,tsh,tl,g1,g3,r1,r2',r3',hb2,tn2,az,aK,hA.dR,hA.flat,hA.iC,hA.len,hA.leaf,tA,ec,hS1,bW,bB]
       · simp at hc;subst hc;simp [bB] at k7 k8 k9;conv=>lhs;rw [g306L0e]
         simp (disch:=omega) [-getElem?_pos,g306B0,hi',hnm',e1,k0,e2,e3,e5,k1,k2,k3,k4,e6,k5,k6,k7,k8,k9,h4,h3,h2,h2b,h4b,tn,tsh,tl,g1,g3,r1,r2',r3',hb2,tn2,az,aK,hA.dR,hA.flat,hA.iC,hA.len,hA.leaf,tA,ec,hS1,bW,bB]
theorem Dl {L:List Int}:Tape L 0 (tp L) where
 get:=fun i=>by simp
 set:=fun i j=>by simp
 quiet:=fun i=>bA.one (by intro v hv;simp at hv;rcases hv with rfl | rfl<;>exact ⟨_,rfl⟩)
theorem P6 {L:List Int} (hL:Sm L) {ds:List Dt} (hD:tO ds) {N:Nat} (h0:0<N) (hN:N≤4) {j:Nat} (hj:j≤L.length):∃(b:Bd) (l':List En) (j':Nat),pc 100 b∧Ctx 1 l'∧j'≤L.length ∧
   cl AP g306L0 ⟨[(4,.aG 4 0),(5,.br 0 0),(6,.aG 6 0),(7,.own [] 0),(8,.pv (vI N)),(9,.pv (vI 0))],[(4,[.own [] 1,.own [] 2]),(6,[.pv (.aI (ds.map Dt.pv)),.own [] 3])],tp L j,[0,0,0,0]⟩ =
   cl AP g306L0 ⟨[(4,.aG 4 0),(5,.br 0 0),(6,.aG 6 0),(7,.pv (.aI (l'.map En.pv))),(8,.pv (vI N)),(9,.pv (vI 1))],[(4,[.own [] 0,.own [] 1]),(6,[.pv (.aI (ds.map Dt.pv)),.bE 1 20 1 true])],qK L 0 [b] j',[0,0]⟩:=by
 have hT:=Dl (L:=L);obtain ⟨r4,r3,r2,x1,x,u,sc,c',e,A,b10,b11,j1,j2,j3,j4,j5,j6,I⟩:=P4 hT hL hD (l:=[]) ⟨by simp,by simp,by simp⟩ hj [112] (by simp);obtain ⟨e1,k0,e2,e3,e4,e5,k1,k2,k3,k4,e6,hA,k5,k6,k7,k8,hc,k9,Mi,ty,sx,hj6⟩:=I
 refine ⟨la [112] r4 r2 x e,[⟨[112],c'⟩],j6,Dk (by simp) sx ty,⟨by simp,by
   intro y hy;simp at hy;subst hy;exact Mi,by
   intro y hy;simp at hy;subst hy;simp⟩,hj6,?_⟩
 have tn:=hT.norm;have tsh:=hT.shift;have tl:=hT.take;have g3:∀i,(tp L i).length=1:=fun i=>rfl
 have ec:=Ex.bS e;have hi':=h0;have hz:N≠0:=by omega
 have hq:bA (qK L 0 [la [112] r4 r2 x e] j6):=(jm (L:=L) (k:=0) (bs:=[la [112] r4 r2 x e])).quiet j6;have tn2:=hq.norm;have bc:(la [112] r4 r2 x e).cells=[vI 0,.bool (decide (r4=1)),.str [112],.bool (decide (r2=0)),vI (if r2=0 then x else bW).kind,.str (if r2=0 then x else bW).name,vI (if r2=0 then x else bW).id,vI (if r2=0 then x else bW).home,.aI ((if r2=0 then x else bW).args.map Ty.pv)]++e.cells:=rfl;have sheq:qK L 0 [la [112] r4 r2 x e] j6=tp L j6++[some ((la [112] r4 r2 x e).cells.map .pv)]:=by simp [qK,nn,b_]
 rw [sheq] at tn2 ⊢;rw [bc] at tn2 ⊢;generalize tp L=TP at *;have tA:A.take 11=A:=List.take_of_length_le (by rw [hA.len];omega);clear sheq;rw [ec];rw [ec] at tn2;simp [Ty.av] at e1 k0 e2 e3 e5 k1 k2 k3 k4 e6 k5 k6 k7 k8 k9;by_cases h4:r4=1
 · by_cases h3:r3=0
   · simp [h3,Ty.av] at e4 e3;by_cases h2:r2=0
     · simp [h4,h2,bW] at e1 e5 e6 hc tn2;subst hc
       try simp at k9
       conv=>lhs;rw [g306L0e]
       simp (disch:=omega) [-getElem?_pos,g306B0,hi',hz,e1,k0,e2,e3,e4,e5,k1,k2,k3,k4,e6,k5,k6,k7,k8,k9,h4,h3,h2,tn,tsh,tl,g3,tn2,az,aK,hA.dR,hA.flat,hA.iC,hA.len,hA.leaf,tA,ec,bW];conv=>lhs;rw [g306L0e]
       conv=>rhs;rw [g306L0e]
       simp [h4,h2,tn2,bW]
     · have h2b:(r2 == 0)=false:=(by simpa using h2);simp [h4,h2,bW] at e1 e5 e6 hc tn2;cases b10
       · cases b11
         · simp at hc;subst hc
           try simp at k9
           conv=>lhs;rw [g306L0e]
           simp (disch:=omega) [-getElem?_pos,g306B0,hi',hz,e1,k0,e2,e3,e4,e5,k1,k2,k3,k4,e6,k5,k6,k7,k8,k9,h4,h3,h2,h2b,tn,tsh,tl,g3,tn2,az,aK,hA.dR,hA.flat,hA.iC,hA.len,hA.leaf,tA,ec,bW];conv=>lhs;rw [g306L0e]
           conv=>rhs;rw [g306L0e]
           simp [h4,h2,h2b,tn2,bW]
         · simp at hc;subst hc;simp [bB] at k7 k8 k9;conv=>lhs;rw [g306L0e]
           simp (disch:=omega) [-getElem?_pos,g306B0,hi',hz,e1,k0,e2,e3,e4,e5,k1,k2,k3,k4,e6,k5,k6,k7,k8,k9,h4,h3,h2,h2b,tn,tsh,tl,g3,tn2,az,aK,hA.dR,hA.flat,hA.iC,hA.len,hA.leaf,tA,ec,bW,bB];conv=>lhs;rw [g306L0e]
           conv=>rhs;rw [g306L0e]
           simp [h4,h2,h2b,tn2,bW]
       · simp at hc;subst hc;simp [bB] at k7 k8 k9;conv=>lhs;rw [g306L0e]
         simp (disch:=omega) [-getElem?_pos,g306B0,hi',hz,e1,k0,e2,e3,e4,e5,k1,k2,k3,k4,e6,k5,k6,k7,k8,k9,h4,h3,h2,h2b,tn,tsh,tl,g3,tn2,az,aK,hA.dR,hA.flat,hA.iC,hA.len,hA.leaf,tA,ec,bW,bB];conv=>lhs;rw [g306L0e]
         conv=>rhs;rw [g306L0e]
         simp [h4,h2,h2b,tn2,bW]
   · simp [h3] at e4;obtain ⟨rfl,rfl⟩:=e4;by_cases h2:r2=0
     · simp [h4,h2,bW] at e1 e5 e6 hc tn2;subst hc
       try simp at k9
       conv=>lhs;rw [g306L0e]
       simp (disch:=omega) [-getElem?_pos,g306B0,hi',hz,e1,k0,e2,e3,e5,k1,k2,k3,k4,e6,k5,k6,k7,k8,k9,h4,h3,h2,tn,tsh,tl,g3,tn2,az,aK,hA.dR,hA.flat,hA.iC,hA.len,hA.leaf,tA,ec,bW];conv=>lhs;rw [g306L0e]
       conv=>rhs;rw [g306L0e]
       simp [h4,h2,tn2,bW]
     · have h2b:(r2 == 0)=false:=(by simpa using h2);simp [h4,h2,bW] at e1 e5 e6 hc tn2;cases b10
       · cases b11
         · simp at hc;subst hc
           try simp at k9
           conv=>lhs;rw [g306L0e]
           simp (disch:=omega) [-getElem?_pos,g306B0,hi',hz,e1,k0,e2,e3,e5,k1,k2,k3,k4,e6,k5,k6,k7,k8,k9,h4,h3,h2,h2b,tn,tsh,tl,g3,tn2,az,aK,hA.dR,hA.flat,hA.iC,hA.len,hA.leaf,tA,ec,bW];conv=>lhs;rw [g306L0e]
           conv=>rhs;rw [g306L0e]
           simp [h4,h2,h2b,tn2,bW]
         · simp at hc;subst hc;simp [bB] at k7 k8 k9;conv=>lhs;rw [g306L0e]
           simp (disch:=omega) [-getElem?_pos,g306B0,hi',hz,e1,k0,e2,e3,e5,k1,k2,k3,k4,e6,k5,k6,k7,k8,k9,h4,h3,h2,h2b,tn,tsh,tl,g3,tn2,az,aK,hA.dR,hA.flat,hA.iC,hA.len,hA.leaf,tA,ec,bW,bB];conv=>lhs;rw [g306L0e]
           conv=>rhs;rw [g306L0e]
           simp [h4,h2,h2b,tn2,bW]
       · simp at hc;subst hc;simp [bB] at k7 k8 k9;conv=>lhs;rw [g306L0e]
         simp (disch:=omega) [-getElem?_pos,g306B0,hi',hz,e1,k0,e2,e3,e5,k1,k2,k3,k4,e6,k5,k6,k7,k8,k9,h4,h3,h2,h2b,tn,tsh,tl,g3,tn2,az,aK,hA.dR,hA.flat,hA.iC,hA.len,hA.leaf,tA,ec,bW,bB];conv=>lhs;rw [g306L0e]
         conv=>rhs;rw [g306L0e]
         simp [h4,h2,h2b,tn2,bW]
 · have h4b:(r4 == 1)=false:=(by simpa using h4);by_cases h3:r3=0
   · simp [h3,Ty.av] at e4 e3;by_cases h2:r2=0
     · simp [h4,h2,bW] at e1 e5 e6 hc tn2;subst hc
       try simp at k9
       conv=>lhs;rw [g306L0e]
       simp (disch:=omega) [-getElem?_pos,g306B0,hi',hz,e1,k0,e2,e3,e4,e5,k1,k2,k3,k4,e6,k5,k6,k7,k8,k9,h4,h3,h2,h4b,tn,tsh,tl,g3,tn2,az,aK,hA.dR,hA.flat,hA.iC,hA.len,hA.leaf,tA,ec,bW];conv=>lhs;rw [g306L0e]
       conv=>rhs;rw [g306L0e]
       simp [h4,h2,h4b,tn2,bW]
     · have h2b:(r2 == 0)=false:=(by simpa using h2);simp [h4,h2,bW] at e1 e5 e6 hc tn2;cases b10
       · cases b11
         · simp at hc;subst hc
           try simp at k9
           conv=>lhs;rw [g306L0e]
           simp (disch:=omega) [-getElem?_pos,g306B0,hi',hz,e1,k0,e2,e3,e4,e5,k1,k2,k3,k4,e6,k5,k6,k7,k8,k9,h4,h3,h2,h2b,h4b,tn,tsh,tl,g3,tn2,az,aK,hA.dR,hA.flat,hA.iC,hA.len,hA.leaf,tA,ec,bW];conv=>lhs;rw [g306L0e]
           conv=>rhs;rw [g306L0e]
           simp [h4,h2,h2b,h4b,tn2,bW]
         · simp at hc;subst hc;simp [bB] at k7 k8 k9;conv=>lhs;rw [g306L0e]
           simp (disch:=omega) [-getElem?_pos,g306B0,hi',hz,e1,k0,e2,e3,e4,e5,k1,k2,k3,k4,e6,k5,k6,k7,k8,k9,h4,h3,h2,h2b,h4b,tn,tsh,tl,g3,tn2,az,aK,hA.dR,hA.flat,hA.iC,hA.len,hA.leaf,tA,ec,bW,bB];conv=>lhs;rw [g306L0e]
           conv=>rhs;rw [g306L0e]
           simp [h4,h2,h2b,h4b,tn2,bW]
       · simp at hc;subst hc;simp [bB] at k7 k8 k9;conv=>lhs;rw [g306L0e]
         simp (disch:=omega) [-getElem?_pos,g306B0,hi',hz,e1,k0,e2,e3,e4,e5,k1,k2,k3,k4,e6,k5,k6,k7,k8,k9,h4,h3,h2,h2b,h4b,tn,tsh,tl,g3,tn2,az,aK,hA.dR,hA.flat,hA.iC,hA.len,hA.leaf,tA,ec,bW,bB];conv=>lhs;rw [g306L0e]
         conv=>rhs;rw [g306L0e]
         simp [h4,h2,h2b,h4b,tn2,bW]
   · simp [h3] at e4;obtain ⟨rfl,rfl⟩:=e4;by_cases h2:r2=0
     · simp [h4,h2,bW] at e1 e5 e6 hc tn2;subst hc
       try simp at k9
       conv=>lhs;rw [g306L0e]
       simp (disch:=omega) [-getElem?_pos,g306B0,hi',hz,e1,k0,e2,e3,e5,k1,k2,k3,k4,e6,k5,k6,k7,k8,k9,h4,h3,h2,h4b,tn,tsh,tl,g3,tn2,az,aK,hA.dR,hA.flat,hA.iC,hA.len,hA.leaf,tA,ec,bW];conv=>lhs;rw [g306L0e]
       conv=>rhs;rw [g306L0e]
       simp [h4,h2,h4b,tn2,bW]
     · have h2b:(r2 == 0)=false:=(by simpa using h2);simp [h4,h2,bW] at e1 e5 e6 hc tn2;cases b10
       · cases b11
         · simp at hc;subst hc
           try simp at k9
           conv=>lhs;rw [g306L0e]
           simp (disch:=omega) [-getElem?_pos,g306B0,hi',hz,e1,k0,e2,e3,e5,k1,k2,k3,k4,e6,k5,k6,k7,k8,k9,h4,h3,h2,h2b,h4b,tn,tsh,tl,g3,tn2,az,aK,hA.dR,hA.flat,hA.iC,hA.len,hA.leaf,tA,ec,bW];conv=>lhs;rw [g306L0e]
           conv=>rhs;rw [g306L0e]
           simp [h4,h2,h2b,h4b,tn2,bW]
         · simp at hc;subst hc;simp [bB] at k7 k8 k9;conv=>lhs;rw [g306L0e]
           simp (disch:=omega) [-getElem?_pos,g306B0,hi',hz,e1,k0,e2,e3,e5,k1,k2,k3,k4,e6,k5,k6,k7,k8,k9,h4,h3,h2,h2b,h4b,tn,tsh,tl,g3,tn2,az,aK,hA.dR,hA.flat,hA.iC,hA.len,hA.leaf,tA,ec,bW,bB];conv=>lhs;rw [g306L0e]
           conv=>rhs;rw [g306L0e]
           simp [h4,h2,h2b,h4b,tn2,bW]
       · simp at hc;subst hc;simp [bB] at k7 k8 k9;conv=>lhs;rw [g306L0e]
         simp (disch:=omega) [-getElem?_pos,g306B0,hi',hz,e1,k0,e2,e3,e5,k1,k2,k3,k4,e6,k5,k6,k7,k8,k9,h4,h3,h2,h2b,h4b,tn,tsh,tl,g3,tn2,az,aK,hA.dR,hA.flat,hA.iC,hA.len,hA.leaf,tA,ec,bW,bB];conv=>lhs;rw [g306L0e]
         conv=>rhs;rw [g306L0e]
         simp [h4,h2,h2b,h4b,tn2,bW]
theorem P7 {L:List Int} (hL:Sm L) {ds:List Dt} (hD:tO ds) {N:Nat} (hN:N≤4):∀(n i:Nat),N-i=n→i≤N→∀(l:List En) (k:Nat) (bs:List Bd) (j:Nat),Ctx (900-n) l→bs.length=i→(∀b∈bs,pc 100 b)→j≤L.length→∃(l':List En) (k':Nat) (bs':List Bd) (j':Nat),bs'.length=N∧(∀b∈bs',pc 100 b)∧j'≤L.length ∧
   cl AP g306L0 ⟨[(4,.aG 4 0),(5,.br 0 0),(6,.aG 6 0),(7,.pv (.aI (l.map En.pv))),(8,.pv (vI N)),(9,.pv (vI i))],[(4,[.own [] 0,.own [] 1]),(6,[.pv (.aI (ds.map Dt.pv)),.bE (1+k) 20 bs.length true])],qK L k bs j,[0,0]⟩ =
     some (.exit 0,⟨[(4,.aG 4 0),(5,.br 0 0),(6,.aG 6 0),(7,.pv (.aI (l'.map En.pv))),(8,.pv (vI N)),(9,.pv (vI N)),(26,.pv (.bool false))],[(4,[.own [] 0,.own [] 1]),(6,[.pv (.aI (ds.map Dt.pv)),.bE (1+k') 20 bs'.length true])],qK L k' bs' j',[0,0]⟩)
 | 0,i,hn,hi,l,k,bs,j,hl,hb,ho,hj=>by
   have:i=N:=by omega
   subst this;refine ⟨l,k,bs,j,hb,ho,hj,?_⟩;have tn:=((jm (L:=L) (k:=k) (bs:=bs)).quiet j).norm;generalize qK L k bs j=S at *;rw [g306L0e];simp [g306B0,tn]
 | n+1,i,hn,hi,l,k,bs,j,hl,hb,ho,hj=>by
   obtain ⟨b,l1,j1,b1,b2,b3,e⟩:=P5 hL hD (l:=l) (N:=N) (k:=k) (hl.gW (by omega)) (by omega) hN hb hj;have hll:=hl.len
   obtain ⟨l',k',bs',j',q1,q2,q3,e'⟩:=P7 hL hD hN n (i+1) (by omega) (by omega) l1 (k+1) (bs++[b]) j1 (b2.gW (by omega)) (by simp;omega) (by
     intro y hy;simp at hy;rcases hy with hy | rfl
     · exact ho y hy
     · exact b1) b3
   refine ⟨l',k',bs',j',q1,q2,q3,?_⟩;rw [e];exact e'
theorem c306 {L:List Int} (hL:Sm L) (bits:Int):∃(ds:List Dt) (bs:List Bd) (k j:Nat),tO ds∧0<bs.length∧bs.length≤4∧(∀b∈bs,pc 100 b) ∧
   (aP AP).i 306 [.pv (vI bits),.pv (.aI (L.map vI))] [] []=some ([.agg [.pv (.aI (ds.map Dt.pv)),.bE (1+k) 20 bs.length true]],qK L k bs j,[]):=by
 obtain ⟨ds,k1,d1,d2⟩:=c32 bits;have hD:tO ds:=⟨d1,d2⟩;obtain ⟨r,j0,e1,r0,r1,hj0⟩:=nj (Dl (L:=L)) hL (i:=0) (by omega) (n:=4) (by omega) (by omega);obtain ⟨r,rfl,hr⟩:=kW (n:=4) r0 (by simpa using r1);obtain ⟨b,l1,j1,b1,b2,b3,e2⟩:=P6 hL hD (N:=1+r) (by omega) (by omega) hj0;obtain ⟨l',k',bs',j',q1,q2,q3,e3⟩:=P7 hL hD (N:=1+r) (by omega) _ 1 rfl (by omega) l1 0 [b] j1 (b2.gW (by omega)) rfl (by simpa using b1) b3;refine ⟨ds,bs',k',j',hD,by omega,by omega,q2,?_⟩;have e4:∀y,cl AP g306L0 ⟨[(4,.aG 4 0),(5,.br 0 0),(6,.aG 6 0),(7,.own [] 0),(8,.pv (vI (1+r:Nat))),(9,.pv (vI 0))],[(4,[.own [] 1,.own [] 2]),(6,[.pv (.aI (ds.map Dt.pv)),.own [] 3])],tp L j0,[0,0,0,0]⟩=y↔_=y:=fun y=>by rw [e2]
 have e5:=e2.trans e3;have tn:=((jm (L:=L) (k:=k') (bs:=bs')).quiet j').norm;have tsh:=((jm (L:=L) (k:=k') (bs:=bs')).quiet j').shift;generalize qK L k' bs' j'=S at *;clear e2 e3 e4;rw [g306L0e] at e5;have hw:(1:Int)+r=((1+r:Nat):Int):=by omega
 simp at k1 e1 e5;rw [aR (af:=g306) rfl (by simp [g306])];simp (disch:=omega) [g306,k1,e1,az,g306L0e,e5,tn,tsh]
theorem NH {e:Ex} (h:zd e) {c:List Ex} (hl:c.length=e.ch.length) (hc:∀y∈c,zd y):zd (e.s8 c):=by
 rw [Ex.iI] at hl;have hch:=Cf hl;have hk:(e.s8 c).kids.length=e.kids.length:=by rw [Ex.s8,if_pos hl];simp;omega
 have ha:(e.s8 c).bu.map (fun a=>(a.iV,a.vars))=e.bu.map (fun a=>(a.iV,a.vars)):=by rw [Ex.s8,if_pos hl];simp only [wA]
 have ha2:(e.s8 c).bu.length=e.bu.length:=by have:=congrArg List.length ha;simpa using this
 have hkd:(e.s8 c).kind=e.kind:=by rw [Ex.s8,if_pos hl]
 have hty:(e.s8 c).ty=e.ty:=by rw [Ex.s8,if_pos hl]
 refine ⟨.mk (by have:=h.ok.k;omega) (by have:=h.ok.a;omega) ?_ (by rw [hty];exact h.ok.t) (by rw [hch];exact fun y hy=>(hc y hy).ok),.mk (by rw [hkd,hk];exact h.one.h) (by rw [hch];exact fun y hy=>(hc y hy).one),.mk (by rw [hty];exact h.cw.h) (by rw [hch];exact fun y hy=>(hc y hy).cw)⟩;intro a hm;have:(a.iV,a.vars)∈e.bu.map (fun a=>(a.iV,a.vars)):=by rw [←ha];exact List.mem_map_of_mem hm
 simp only [List.mem_map] at this;obtain ⟨b,hb,hq⟩:=this;have:=h.ok.v b hb;simp at hq;rw [←hq.2];exact this
theorem P8 {e:Ex} {c:List Ex} (hl:c.length=e.ch.length) {n:Nat} (hc:∀y∈c,y.zc n):(e.s8 c).zc (n+1):=by
 rw [Ex.iI] at hl;exact .mk (by rw [Cf hl];exact hc)
theorem P9 {sz:Nat} {l:List PV} (h1:1≤l.length) (hs:bC sz l=true):cO false sz true false false [.pv (.aI l),.pv (.int .i64 1)]=some (.pv (.aI (l.drop 1))):=by
 have h2:(1:Int)≤l.length:=by omega
 simp [cO,cR,dZ,h2,hs]
def Ex.kU (x:Ex):List Int→Ex→Ex×Bool
 | [],_=>(x,true)
 | q::p,e=>if 0≤q∧q<e.ch.length then match e.ch[q.toNat]? with
     | some c=>match Ex.kU x p c with
       | (y,true)=>(e.s8 (e.ch.set q.toNat y),true)
       | (_,false)=>(e,false)
     | none=>(e,false)
   else (e,false)
theorem c359f {x:Ex}:∀(p:List Int) (e:Ex),p.length<1000000→zd e→(aP AP).p 359 [e.pv,.aI (p.map vI),x.pv]=some [(Ex.kU x p e).1.pv,.bool (Ex.kU x p e).2]
 | [],e,hp,he=>by
   rw [aw (af:=g359) rfl rfl (by decide)];simp [g359,Ex.kU]
 | q::p,e,hp,he=>by
   have hk:=he.ok.k;have ha:=he.ok.a;have hlen:=Ex.iI (e:=e);have hz:¬(p.length:Int)+1=0:=(by omega);simp at hp
   have no:(q<0∨e.ch.length≤q)→(aP AP).p 359 [e.pv,.aI ((q::p).map vI),x.pv]=some [e.pv,.bool false]:=by
     intro hq;obtain ⟨k0,c1⟩:=c145i (e:=e) (A:=.pv (.aI (e.bu.map Ar.pv))) hk ha (X:=[]) (by intro cs h;simp at h) (.inl rfl);have cj:=c145j (e:=e) (X:=[]);rw [c1] at cj;clear c1;by_cases z:e.ch=[]
     · rw [if_pos z] at cj;have z0:e.ch.length=0:=by rw [z];rfl
       simp at cj;rw [aw (af:=g359) rfl rfl (by decide)];by_cases q0:q<0
       · simp [g359,hz,cj,q0]
       · have q1:0≤q:=(by omega);simp [g359,hz,cj,q0,q1]
     · rw [if_neg z] at cj;have hqn:=((eM k0).app (bA.one (cJ (f:=Ex.cells) (l:=e.ch)))).norm;have hqs:=((eM k0).app (bA.one (cJ (f:=Ex.cells) (l:=e.ch)))).shift;simp only [List.nil_append,List.length_nil,Nat.zero_add] at cj;generalize nn k0++[some (b_ Ex.cells e.ch)]=S0 at *;simp at cj;rw [aw (af:=g359) rfl rfl (by decide)];by_cases q0:q<0
       · simp [g359,hz,cj,q0,hqn,hqs]
       · have q1:(e.ch.length:Int)≤q:=(by omega);simp [g359,hz,cj,q0,q1,hqn,hqs]
   by_cases hq:0≤q∧q<e.ch.length
   · obtain ⟨q0,q1⟩:=hq;obtain ⟨i,rfl⟩:∃i:Nat,q=i:=⟨q.toNat,by omega⟩;have hi:i<e.ch.length:=by omega
     obtain ⟨c,hc⟩:=bD hi;have hcm:=bt hc;have k1:=c359f (x:=x) p c (by omega) (he.c hcm);generalize hpr:Ex.kU x p c=yb at k1;obtain ⟨y,b⟩:=yb
     have hR:Ex.kU x ((i:Int)::p) e=if b=true then (e.s8 (e.ch.set i y),true) else (e,false):=by
       rw [Ex.kU,if_pos ⟨q0,q1⟩,Int.toNat_natCast,hc];simp only [hpr];cases b<;>rfl
     rw [hR];clear hR;have z:¬e.ch=[]:=by intro z;rw [z] at hi;simp at hi
     obtain ⟨k0,c1⟩:=c145i (e:=e) (A:=.pv (.aI (e.bu.map Ar.pv))) hk ha (X:=[]) (by intro cs h;simp at h) (.inl rfl);have cj:=c145j (e:=e) (X:=[]);rw [c1,if_neg z] at cj;clear c1;have hqn:=((eM k0).app (bA.one (cJ (f:=Ex.cells) (l:=e.ch)))).norm;have hqs:=((eM k0).app (bA.one (cJ (f:=Ex.cells) (l:=e.ch)))).shift;have hqn1:=((eM k0).app (bA.one (cJ (f:=Ex.cells) (l:=e.ch.set i y)))).norm;simp only [List.nil_append,List.length_nil,Nat.zero_add] at cj;have hget:=qz ej hc (o:=0) (k:=11) (by omega)
     have ht:(((c.cells.drop 0).take 11).map AV.pv)=c.cl:=by
       rw [List.drop_zero,List.take_of_length_le (by rw [ej.len];omega),Ex.sH]
     rw [ht,Nat.add_zero] at hget
     have hset:=qA ej hc (y:=y) (o:=0) (vs:=y.cells) (by rw [ej.len];omega) (by
       have h1:=ej.len c;have h2:=ej.len y;simp [h1,h2])
     rw [Ex.sH,Nat.add_zero] at hset;have hB:dr (b_ Ex.cells e.ch)=false:=dw cJ;have hlen2:(b_ Ex.cells e.ch).length=e.ch.length*11:=d7 ej;have hle:i*11+11≤e.ch.length*11:=by omega
     have hs1:(nn k0++[some (b_ Ex.cells e.ch)])[k0]?=some (some (b_ Ex.cells e.ch)):=(by simp);have hs2:(nn k0++[some (b_ Ex.cells e.ch)]).set k0 (some (b_ Ex.cells (e.ch.set i y)))=nn k0++[some (b_ Ex.cells (e.ch.set i y))]:=(by simp);have hs3:(nn k0++[some (b_ Ex.cells (e.ch.set i y))])[k0]?=some (some (b_ Ex.cells (e.ch.set i y))):=(by simp);have hlst:=B' (l:=e.ch.set i y);have hlen3:(b_ Ex.cells (e.ch.set i y)).length=e.ch.length*11:=(by rw [d7 ej,List.length_set]);rw [List.length_set] at hlst;have c2:=c374 (e:=e) hk ha (c:=e.ch.set i y);have hsl:=P9 (sz:=1) (l:=(((i:Int)::p).map vI)) (by simp) (kB.head _);cases b with
     | false=>
       rw [if_neg (by simp)];generalize nn k0++[some (b_ Ex.cells (e.ch.set i y))]=S1 at *;generalize nn k0++[some (b_ Ex.cells e.ch)]=S0 at *;generalize b_ Ex.cells (e.ch.set i y)=T1 at *;generalize b_ Ex.cells e.ch=T at *;simp at cj k1 hsl;simp [Ex.cl] at hget;rw [aw (af:=g359) rfl rfl (by decide)];simp (disch:=omega) [-getElem?_pos,g359,hz,cj,q1,hi,hqn,hqs,hsl,hs1,hB,hlen2,hle,hget,k1]
     | true=>
       rw [if_pos rfl];generalize e.s8 (e.ch.set i y)=Y at *;generalize nn k0++[some (b_ Ex.cells (e.ch.set i y))]=S1 at *;generalize nn k0++[some (b_ Ex.cells e.ch)]=S0 at *;generalize b_ Ex.cells (e.ch.set i y)=T1 at *;generalize b_ Ex.cells e.ch=T at *;simp at cj k1 hsl c2 hlst;simp [Ex.cl] at hget hset;rw [aw (af:=g359) rfl rfl (by decide)];simp (disch:=omega) [-getElem?_pos,g359,hz,cj,q1,hi,hqn,hqs,hqn1,hsl,hs1,hs2,hs3,hB,hlen2,hlen3,hle,hget,k1,hset,hlst,c2]
   · rw [Ex.kU,if_neg hq];exact no (by omega)
theorem NI {e:Ex} {c:List Ex} (hl:c.length=e.ch.length):(e.s8 c).sz=1+(c.map Ex.sz).sum:=by
 rw [Ex.iI] at hl;rw [Ex.p8,Cf hl]
theorem NJ {e:Ex} (h:mm e) {c:List Ex} (hl:c.length=e.ch.length) (hc:∀y∈c,mm y):mm (e.s8 c):=by
 rw [Ex.iI] at hl;have hw:e.s8 c=⟨e.kind,e.pos,e.name,e.num,c.take e.kids.length,jo e.bu (c.drop e.kids.length),e.ty⟩:=by rw [Ex.s8,if_pos hl]
 have hno:e.bu=[]→jo e.bu (c.drop e.kids.length)=[]:=by intro q;rw [q];rfl
 have one:∀{a:Ex},e.kids=[a]→e.bu=[]→∃y∈c,c.take e.kids.length=[y]:=by
   intro a q1 q2;rw [q1,q2] at hl
   match c,hl with
   | [y],_=>exact ⟨y,by simp,by rw [q1];rfl⟩
 have two:∀{a b:Ex},e.kids=[a,b]→e.bu=[]→∃y∈c,∃z∈c,c.take e.kids.length=[y,z]:=by
   intro a b q1 q2;rw [q1,q2] at hl
   match c,hl with
   | [y,z],_=>exact ⟨y,by simp,z,by simp,by rw [q1];rfl⟩
 rw [hw];cases h with
 | leaf h1 h2 h3=>exact .leaf h1 (by simp [h2]) (hno h3)
 | lam h1 h2 h3 h4 _=>
   obtain ⟨y,hy,q⟩:=one h3 h4;exact .lam h1 h2 q (hno h4) (hc y hy)
 | app h1 h2 h3 _ _=>
   obtain ⟨y,hy,z,hz,q⟩:=two h2 h3;exact .app h1 q (hno h3) (hc y hy) (hc z hz)
 | y7 h1 h2 h3 h4 _ _=>
   obtain ⟨y,hy,z,hz,q⟩:=two h3 h4;exact .y7 h1 h2 q (hno h4) (hc y hy) (hc z hz)
 | LN h1 h2 h3 h4 h5 _=>
   obtain ⟨y,hy,q⟩:=one h2 h3;exact .LN h1 q (hno h3) h4 h5 (hc y hy)
 | held h1 h2 h3 _=>
   obtain ⟨y,hy,q⟩:=one h2 h3;exact .held h1 q (hno h3) (hc y hy)
 | @sK _ a h1 h2 h3 h4 h5 h6=>
   rw [h2] at hl ⊢
   match c,hl with
   | [],hl=>simp at hl;omega
   | y::r,hl=>
     have hlr:r.length=e.bu.length:=(by simp at hl;omega);have hcv:=wA (as:=e.bu) (xs:=r);have hlen:(jo e.bu r).length=e.bu.length:=by have:=congrArg List.length hcv;simpa using this
     refine .sK h1 rfl (hc y (by simp)) (by simp only [List.length_singleton,List.drop_succ_cons,List.drop_zero];omega) ?_ ?_
     · intro x hx;simp only [List.length_singleton,List.drop_succ_cons,List.drop_zero] at hx;have:(x.iV,x.vars)∈e.bu.map (fun a=>(a.iV,a.vars)):=by rw [←hcv];exact List.mem_map_of_mem hx
       simp only [List.mem_map] at this;obtain ⟨b,hb,hq⟩:=this;simp at hq;rw [←hq.1,←hq.2];exact h5 b hb
     · intro x hx;simp only [List.length_singleton,List.drop_succ_cons,List.drop_zero] at hx;have hb:=lU hlr;have:x.body∈(jo e.bu r).map eA.body:=List.mem_map_of_mem hx;rw [hb] at this;exact hc _ (List.mem_cons_of_mem _ this)
theorem Lv {l:List Ex} {i:Nat} {c y:Ex} (h:l[i]?=some c):((l.set i y).map Ex.sz).sum+c.sz=(l.map Ex.sz).sum+y.sz:=by
 induction l generalizing i with
 | nil=>simp at h
 | cons a r ih=>
   cases i with
   | zero=>simp at h;subst h;simp;omega
   | succ i=>
     have:=ih (i:=i) (by simpa using h);simp only [List.set_cons_succ,List.map_cons,List.sum_cons];omega
theorem Dm {x:Ex} (hx:zd x) {m:Nat} (hm:x.zc m):∀(p:List Int) (e:Ex) (n:Nat),zd e→e.zc n →
   zd (Ex.kU x p e).1∧(Ex.kU x p e).1.zc (n+m)∧(mm x→mm e→mm (Ex.kU x p e).1)∧(Ex.kU x p e).1.sz≤e.sz+x.sz
 | [],e,n,he,hh=>⟨hx,jJ hm (by omega),fun h _=>h,by simp only [Ex.kU];omega⟩
 | q::p,e,n,he,hh=>by
   have stay:zd e∧e.zc (n+m)∧(mm x→mm e→mm e)∧e.sz≤e.sz+x.sz:=⟨he,jJ hh (by omega),fun _ h=>h,by omega⟩;rw [Ex.kU];split
   · rename_i hq;split
     · rename_i c hc;have hcm:=bt hc;cases hh with
       | @mk n _ hh=>
         obtain ⟨h1,h2,h3,h4⟩:=Dm hx hm p c n (he.c hcm) (hh c hcm);split
         · rename_i y hy;rw [hy] at h1 h2 h3 h4;have hcl:(e.ch.set q.toNat y).length=e.ch.length:=by simp
           have hce:∀w∈e.ch.set q.toNat y,zd w:=by
             intro w hw;rcases List.mem_or_eq_of_mem_set hw with hw | rfl
             · exact he.c hw
             · exact h1
           have hch:∀w∈e.ch.set q.toNat y,w.zc (n+m):=by
             intro w hw;rcases List.mem_or_eq_of_mem_set hw with hw | rfl
             · exact jJ (hh w hw) (by omega)
             · exact h2
           refine ⟨NH he hcl hce,by rw [show n+1+m=n+m+1 by omega];exact P8 hcl hch,fun tx te=>NJ te hcl ?_,?_⟩
           · intro w hw;rcases List.mem_or_eq_of_mem_set hw with hw | rfl
             · exact te.c w hw
             · exact h3 tx (te.c c hcm)
           · have:=Lv (y:=y) hc;simp only;rw [NI hcl,e.p8];simp only at h4;omega
         · exact stay
     · exact stay
   · exact stay
theorem c359 {x:Ex} (hx:zd x) {m:Nat} (hm:x.zc m) (p:List Int) (e:Ex) (n:Nat) (hp:p.length<1000000) (he:zd e) (hh:e.zc n):∃(y:Ex) (b:Bool),(aP AP).p 359 [e.pv,.aI (p.map vI),x.pv]=some [y.pv,.bool b]∧zd y∧y.zc (n+m)∧(mm x→mm e→mm y)∧y.sz≤e.sz+x.sz:=
 ⟨_,_,c359f p e hp he,Dm hx hm p e n he hh⟩
theorem gp.Rz {ds:List Dt} (hD:tO ds) {n:Nat} {e:Ex} (h:gp ds n e):uN (12*(n+1)) e:=by
 have hD8:∀d∈ds,D8 d:=fun d hd=>IY d (hD.all d hd)
 have hdn:∀d∈ds,d.name.length≤100:=fun d hd=>(kI d (hD.all d hd)).1
 induction h with
 | var hs=>exact (eD (.inl ⟨.inl rfl,fM _ hs⟩)).up (by omega)
 | int h0 h4=>exact (eD (.inr (.inl ⟨rfl,h0,h4⟩))).up (by omega)
 | iV hd hc=>exact (eD (.inl ⟨.inr rfl,(kI _ (hD.all _ hd)).2 _ hc⟩)).up (by omega)
 | gone=>exact (eD (.inl ⟨.inr rfl,by simp⟩)).up (by omega)
 | hole=>exact (eD (.inr (.inr rfl))).up (by omega)
 | lam hs _ ih=>exact fE (by decide) (by simp) iJ iK (by simpa using ih) (.lam rfl (fM _ hs) rfl rfl ih.tx)
 | app _ _ iha ihb=>exact fE (by decide) (by simp) iJ iK (by simpa using ⟨iha,ihb⟩) (.app rfl rfl rfl iha.tx ihb.tx)
 | y7 hk hs _ _ iha ihb=>exact fE (by rcases hk with rfl | rfl<;>decide) (by simp) iJ iK (by simpa using ⟨iha,ihb⟩) (.y7 hk (fM _ hs) rfl rfl iha.tx ihb.tx)
 | LN _ ht ih=>
   have g:=kJ (fun d hd=>(hD8 d hd).1) hdn (by simp) ht;have gn:=ht.small (fun d hd=>(hD8 d hd).1) (by simp);exact fE (by decide) (by simp) g.ok g.kn.cw (by simpa using ih) (.LN rfl rfl rfl ((qa hdn (by simp) ht).imp (fun k hk=>.inr hk)) (by simp only;omega) ih.tx)
 | held _ ih=>exact fE (by decide) (by simp) iJ iK (by simpa using ih) (.held rfl rfl rfl ih.tx)
 | up _ ih=>exact ih.up (by omega)
 | @sK n d a as hd ha hl hb hv hc iha ihb=>
   obtain ⟨_,_,h8a,h8b⟩:=hD8 _ hd;refine zA iha (by omega) fun x hx=>⟨?_,ihb x hx⟩
   have hvx:=(hv x hx).2;obtain ⟨i,hi,rfl⟩:=List.getElem_of_mem hx;obtain ⟨c,hcc⟩:=bD (show i<_ from hl ▸ hi);obtain ⟨q1,q2⟩:=hc i c _ hcc (List.getElem?_eq_getElem hi);have:=h8b c (bt hcc);exact ⟨by rw [q1];exact (kI _ (hD.all _ hd)).2 c (bt hcc),by omega,fun v hv'=>fM _ (hvx v hv')⟩
theorem Q7 {L:List Int} {tm:Nat} {TP:Int→Sh} (hT:Tape L tm TP) {i:Nat}:(aP AP).i 162 [.br tm 0] (TP i) []=some ([.pv (.bool (decide (L.length≤i)))],TP i,[]):=by
 have tn:=hT.norm;have tsh:=hT.shift;have tl:=hT.take;have tg:=hT.get;rw [aR (af:=g162) rfl (by simp [g162])];simp [g162,tn,tsh,tl,tg]
def Ju (L:List Int) (ds:List Dt) (tm b N i:Nat) (path:List Int) (e:Ex) (n:Int) (S:Sh):St:=⟨[(2,.aG 2 0),(4,.aG 4 0),(5,.br tm 0),(6,.pv (vI i)),(7,.own (path.map vI) 0),(8,.aG 8 0),(9,.pv (vI n))],[(2,[.pv (.aI (ds.map Dt.pv)),.bE b 20 N true]),(4,[.own [] 1,.own [] 2]),(8,e.cl)],S,[path.length,0,0]⟩
def Jv (L:List Int) (ds:List Dt) (tm b N i:Nat) (path:List Int) (e:Ex) (n:Int) (S:Sh) (l:Bool):Option (bH×St):=some (.exit 0,⟨[(2,.aG 2 0),(4,.aG 4 0),(5,.br tm 0),(6,.pv (vI i)),(7,.own (path.map vI) 0),(8,.aG 8 0),(9,.pv (vI n))]++(if l then [(39,.pv (.bool false))] else [(10,.pv (.aI [])),(46,.pv (.bool true))]),[(2,[.pv (.aI (ds.map Dt.pv)),.bE b 20 N true]),(4,[.own [] 1,.own [] 2]),(8,e.cl)],S,[path.length,0,0]⟩)
theorem P_ {L:List Int} {tm:Nat} {TP:Int→Sh} (hT:Tape L tm TP) (hL:Sm L) {ds:List Dt} {b N i:Nat}:∀(n:Nat),n≤5→∀(path:List Int) (e:Ex) (I:Nat),path.length+n≤5→e.Ok→I≤L.length→∃(path':List Int) (e':Ex) (n':Int) (J:Nat) (l:Bool),path'.length≤5∧J≤L.length ∧
   cl AP g335L0 (Ju L ds tm b N i path e n (TP I))=Jv L ds tm b N i path' e' n' (TP J) l
 | 0,hn,path,e,I,hp,he,hI=>by
   have tn:=hT.norm;refine ⟨path,e,0,I,true,by omega,hI,?_⟩;rw [g335L0e];simp [g335B0,Ju,Jv,tn,Ex.cl]
 | n+1,hn,path,e,I,hp,he,hI=>by
   have tn:=hT.norm;have tsh:=hT.shift;have tl:=hT.take;have k1:=c145 he;have hk:=he.k;have ha:=he.a;have hlen:=Ex.iI (e:=e);have hn0:(0:Int)<(n:Int)+1:=(by omega);have hn1:(n:Int)+1-1=n:=(by omega);by_cases z:e.ch=[]
   · refine ⟨path,e,((n+1:Nat):Int),I,false,by omega,hI,?_⟩;rw [z] at k1;simp at k1;rw [g335L0e];simp [g335B0,Ju,Jv,tn,Ex.cl,hn0,k1]
   · have hpos:0<e.ch.length:=List.length_pos_iff.2 z;obtain ⟨r,j,e1,r0,r1,hj⟩:=nj hT hL hI (n:=e.ch.length) (by omega) (by omega);obtain ⟨r,rfl,hr⟩:=kW r0 r1;obtain ⟨x,hx⟩:=bD hr;obtain ⟨path',e',n',J,l,q1,q2,ih⟩:=P_ hT hL (ds:=ds) (b:=b) (N:=N) (i:=i) n (by omega) (path++[(r:Int)]) x j (by simp;omega) (he.c x (bt hx)) hj;refine ⟨path',e',n',J,l,q1,q2,?_⟩;have hb:(path.length+1)*8≤140737488355328:=(by omega);have hh:bC 1 (path.map vI)=true:=kB.head path;rw [←ih];simp at k1 e1;conv=>lhs;rw [g335L0e]
     simp (disch:=omega) [-getElem?_pos,g335B0,Ju,tn,tsh,tl,Ex.cl,hn0,hn1,k1,z,e1,hx,hb,hh,az]
theorem NK {L:List Int} {j:Int}:bA [some [AV.pv (.aI (L.map vI)),AV.pv (vI j)]]:=bA.one (by intro v hv;simp at hv;rcases hv with rfl | rfl<;>exact ⟨_,rfl⟩)
theorem Jw {L:List Int} {S:Sh} (hS:bA S):Tape L S.length (fun j=>S++[some [.pv (.aI (L.map vI)),.pv (vI j)]]) where
 get:=fun i=>by simp
 set:=fun i j=>by simp
 quiet:=fun i=>hS.app NK
theorem Co {S:Sh} (hS:bA S) {b:Nat}:bA (S.set b none):=by
 intro cs hcs;rcases List.mem_or_eq_of_mem_set hcs with h | h
 · exact hS cs h
 · cases h
theorem Gp {S:Sh} (hS:bA S) {b:Nat} {cs:List AV} (h:∀v∈cs,∃p,v=AV.pv p):bA (S.set b (some cs)):=by
 intro c hc;rcases List.mem_or_eq_of_mem_set hc with q | q
 · exact hS c q
 · cases q;exact h
def Bd.put (b:Bd) (e:Ex):Bd:={ b with body:=e }
theorem wI (b:Bd) (e:Ex):(b.put e).cells=b.cells.take 9++e.cells++b.cells.drop (9+e.cells.length):=by
 have h1:=ej.len e;have h2:=ej.len b.body;simp [Bd.cells,Bd.put,h1,h2]
theorem pc.up {n m:Nat} {b:Bd} (h:pc n b) (hm:n≤m):pc m b:=⟨h.sc,jJ h.h hm,h.so,h.sw,h.sn,h.nm,h.st,Nat.le_trans h.w (Nat.mul_le_mul_left _ hm),h.tx⟩
structure NL (Q:Nat) (ds:List Dt) (bs:List Bd) (b:Nat) (S:Sh):Prop where
 d:tO ds
 pos:0<bs.length
 len:bs.length≤4
 ok:∀x∈bs,pc Q x
 quiet:bA S
 Ga:S[b]?=some (some (b_ Bd.cells bs))
theorem c335 {M:List Int} (hM:Sm M) {ds:List Dt} {bs:List Bd} {b:Nat} {S:Sh} (H:NL 100 ds bs b S):∃(bs':List Bd) (b':Nat) (S':Sh),bs'.length=bs.length∧NL 200 ds bs' b' S' ∧
   (aP AP).i 335 [.agg [.pv (.aI (ds.map Dt.pv)),.bE b 20 bs.length true],.pv (.aI (M.map vI))] S []=some ([.agg [.pv (.aI (ds.map Dt.pv)),.bE b' 20 bs'.length true]],S',[]):=by
 obtain ⟨hD,hpos,h4,ho,hS,hb⟩:=H;have hbl:b<S.length:=(List.getElem?_eq_some_iff.1 hb).1;have hT:=Jw (L:=M) hS;have hT0:∀j:Int,(S++[some [.pv (.aI (M.map vI)),.pv (vI j)]])=(fun j=>S++[some [.pv (.aI (M.map vI)),.pv (vI j)]]) j:=fun _=>rfl
 have hget:∀j:Int,((fun j=>S++[some [.pv (.aI (M.map vI)),.pv (vI j)]]) j:Sh)[b]?=some (some (b_ Bd.cells bs)):=fun j=>by simp [List.getElem?_append_left hbl,hb]
 have hkill:∀j:Int,((fun j=>S++[some [.pv (.aI (M.map vI)),.pv (vI j)]]) j:Sh).set b none=S.set b none++[some [.pv (.aI (M.map vI)),.pv (vI j)]]:=fun j=>by simp [List.set_append_left,hbl]
 have hlen:∀j:Int,((fun j=>S++[some [.pv (.aI (M.map vI)),.pv (vI j)]]) j:Sh).length=S.length+1:=fun j=>by simp
 generalize hTP:(fun j:Int=>S++[some [AV.pv (.aI (M.map vI)),AV.pv (vI j)]])=TP at *;have tn:=hT.norm;have tsh:=hT.shift;have tl:=hT.take;have k0:=Q7 hT (i:=0);have nS:=hS.norm;have sS:=hS.shift;have hz:bs≠[]:=List.length_pos_iff.1 hpos;have r1:(b_ Bd.cells bs).length=bs.length*20:=d7 lZ;have hB:dr (b_ Bd.cells bs)=false:=dw cJ;have h0:=hT0 0;by_cases hE:M=[]
 · refine ⟨bs,b,S,rfl,⟨hD,hpos,h4,fun x hx=>(ho x hx).up (by omega),hS,hb⟩,?_⟩;have ht:List.take S.length (TP 0)=S:=by rw [←h0];simp
   subst hE;simp at k0 h0;rw [aR (af:=g335) rfl (by simp [g335])];simp [g335,hz,k0,tn,tsh,nS,sS,h0,hbl,ht]
 · have hMp:0<M.length:=List.length_pos_iff.2 hE;have hM0:¬M.length≤0:=(by omega);rw [decide_eq_false hM0] at k0;obtain ⟨q,j1,e1,q0,q1,hj1⟩:=nj hT hM (i:=0) (by omega) (n:=bs.length) (by omega) (by omega);obtain ⟨i,rfl,hi⟩:=kW q0 q1;obtain ⟨x,hx⟩:=bD hi;have hxo:=ho x (bt hx);obtain ⟨n,j2,e2,n0,n1,hj2⟩:=nj hT hM hj1 (n:=5) (by omega) (by omega);obtain ⟨n,rfl,hn⟩:=kW (n:=5) n0 (by simpa using n1);obtain ⟨path,ex,n',J,l,hp,hJ,e3⟩:=P_ hT hM (ds:=ds) (b:=b) (N:=bs.length) (i:=i) n (by omega) [] x.body j2 (by simp;omega) hxo.sc.ok hj2;have hS2:=Co hS (b:=b);have hT2:=Dh (L:=M) (A:=S.set b none) (B:=[some (b_ Bd.cells bs)]) hS2 (bA.one cJ);rw [List.length_set] at hT2;have hk2:∀j:Int,(TP j).set b none++[some (b_ Bd.cells bs)]=(fun i:Int=>S.set b none++[some [.pv (.aI (M.map vI)),.pv (vI i)]]++[some (b_ Bd.cells bs)]) j:=fun j=>by rw [hkill]
   have hk3:∀j:Int,S.set b none++[some [.pv (.aI (M.map vI)),.pv (vI j)],some (b_ Bd.cells bs)]=(fun i:Int=>S.set b none++[some [.pv (.aI (M.map vI)),.pv (vI i)]]++[some (b_ Bd.cells bs)]) j:=fun j=>by simp
   have hg2:∀j:Int,((fun i:Int=>S.set b none++[some [.pv (.aI (M.map vI)),.pv (vI i)]]++[some (b_ Bd.cells bs)]) j:Sh)[S.length+1]?=some (some (b_ Bd.cells bs)):=fun j=>by simp [List.getElem?_append_right]
   have hs2:∀(j:Int) (c:List Bd),∃S',((fun i:Int=>S.set b none++[some [.pv (.aI (M.map vI)),.pv (vI i)]]++[some (b_ Bd.cells bs)]) j:Sh).set (S.length+1) (some (b_ Bd.cells c))=S'∧bA S'∧S'[S.length+1]?=some (some (b_ Bd.cells c)):=fun j c=>⟨_,rfl,Gp (hT2.quiet j) cJ,by simp [List.getElem?_append_right,List.set_append_right]⟩
   generalize (fun i:Int=>S.set b none++[some [AV.pv (.aI (M.map vI)),AV.pv (vI i)]]++[some (b_ Bd.cells bs)])=TQ at *;have un:=hT2.norm;have ush:=hT2.shift;have ul:=hT2.take;obtain ⟨y,f1,f2,f3,j4,e4,hy,hj4⟩:=PX hT2 hM (ds:=ds) (by have:=hD.len;omega) (fun d hd=>IY d (hD.all d hd)) 2 (by omega) J hJ;have hyE:=hy.Rz hD;have hA:=ek f1 f2 f3 y;generalize eo f1 f2 f3 y=A at e4 hA;have ac:=Ex.bS y;obtain ⟨w,ok,k5,w1,w2,w3,w4⟩:=c359 hyE.sc hyE.h path x.body 100 (by omega) hxo.sc hxo.h;obtain ⟨S',s1,s2,s3⟩:=hs2 j4 (bs.set i (x.put w));refine ⟨bs.set i (x.put w),S.length+1,S',by simp,⟨hD,by simpa using hpos,by simpa using h4,?_,s2,s3⟩,?_⟩
   · intro z hz;rcases List.mem_or_eq_of_mem_set hz with hz | rfl
     · exact (ho z hz).up (by omega)
     · exact ⟨w1,jJ w2 (by omega),hxo.so,hxo.sw,hxo.sn,hxo.nm,hxo.st,by have h1:=hxo.w;have h2:=hyE.w;rw [sL] at h2;change w.sz≤_;omega,w3 hyE.tx hxo.tx⟩
   · have hsub:=qz lZ hx (o:=9) (k:=11) (by omega)
     have jA:(((x.cells.drop 9).take 11).map AV.pv)=x.body.cl:=by
       have h2:=ej.len x.body
       have h3:(x.cells.drop 9).take 11=x.body.cells:=by
         simp only [Bd.cells,List.cons_append,List.nil_append,List.drop_succ_cons,List.drop_zero];exact List.take_of_length_le (by omega)
       rw [h3,Ex.sH]
     rw [jA] at hsub;have hset:=qA lZ hx (y:=x.put w) (o:=9) (vs:=w.cells) (by rw [ej.len];omega) (wI x w);rw [Ex.sH] at hset;have hle:i*20+9+11≤bs.length*20:=by omega
     have hlst:=Cn (l:=bs);have hmap:=NG (l:=bs);have hbb:bs.length*256≤140737488355328:=(by omega);have hib:(i:Int)<bs.length:=(by omega);have hg2':=hg2 j4;have hnl:¬S.length+1<S.length:=(by omega);have hf:∀S:Sh,dR S (.aG 2 0)=none:=fun _=>rfl
     have hxpv:(bs.map Bd.pv)[i]?=some x.pv:=(by simp [hx]);have hn5:(n:Int)<5:=(by omega);have nS':=s2.norm;have sS':=s2.shift;clear hS2 hT2 hs2 hT hTP;generalize b_ Bd.cells (bs.set i (x.put w))=F2 at *;generalize b_ Bd.cells bs=F at *;rw [g335L0e] at e3;simp [Ju,Ex.cl,tn] at e3;simp at k0 e1 e2 e4 k5;simp [Ex.cl] at hsub hset;rw [aR (af:=g335) rfl (by simp [g335])];cases l with
     | true=>
       simp [Jv,Ex.cl] at e3;simp (disch:=omega) [-getElem?_pos,g335,hz,k0,tn,tsh,tl,un,ush,ul,nS,sS,h0,hbl,e1,hget,hB,r1,hle,hsub,hx,hi,e2,g335L0e,e3,hlst,hk3,hkill,hmap,hbb,e4,hlen,hA.dR,hA.flat,hA.iC,hA.len,hA.leaf,ac,k5,hg2',hset,s1,hf,hnl,nS',sS']
     | false=>
       simp [Jv,Ex.cl] at e3;simp (disch:=omega) [-getElem?_pos,g335,hz,k0,tn,tsh,tl,un,ush,ul,nS,sS,h0,hbl,e1,hget,hB,r1,hle,hsub,hx,hi,e2,g335L0e,e3,hlst,hk3,hkill,hmap,hbb,e4,hlen,hA.dR,hA.flat,hA.iC,hA.len,hA.leaf,ac,k5,hg2',hset,s1,hf,hnl,nS',sS']
theorem P' {sz:Nat} {l:List PV} {k:Nat} (h:k≤l.length) (hs:bC sz l=true):cO false sz true false false [.pv (.aI l),.pv (.int .i64 (k:Int))]=some (.pv (.aI (l.drop k))):=by
 have h2:(k:Int)≤l.length:=by omega
 simp [cO,cR,dZ,h2,hs]
theorem c310 {L:List Int} (hL:L.length≤100000) (bits way:Int):∃(ds:List Dt) (bs:List Bd),tO ds∧0<bs.length∧bs.length≤4∧(∀x∈bs,pc 200 x) ∧
   (aP AP).p 310 [vI bits,.aI (L.map vI),vI way]=some [.agg [.aI (ds.map Dt.pv),.aI (bs.map Bd.pv)]]:=by
 obtain ⟨ds,bs,k,j,hD,h0,h4,ho,k1⟩:=c306 (by unfold Sm;omega:Sm L) bits;have H:NL 100 ds bs (1+k) (qK L k bs j):=⟨hD,h0,h4,ho,(jm (L:=L)).quiet j,Dj⟩;generalize qK L k bs j=S at *;have tn:=H.quiet.norm;have tsh:=H.quiet.shift;obtain ⟨r,k2,r0,r1⟩:=c26 (n:=way) (m:=3) (by omega) (by omega);by_cases hr:r=1
 · obtain ⟨bs',b',S',hl,H',k3⟩:=c335 (M:=L.drop (min L.length 3)) (by unfold Sm;simp;omega) H;refine ⟨ds,bs',H'.d,H'.pos,H'.len,H'.ok,?_⟩;have tn':=H'.quiet.norm;have tsh':=H'.quiet.shift;have g:=H'.Ga;have rl:(b_ Bd.cells bs').length=bs'.length*20:=d7 lZ;have hlst:=Cn (l:=bs');have hmn:(if (3:Int)<L.length then (3:Int) else L.length)=((min L.length 3:Nat):Int):=by split<;>omega
   have hsl:=P' (sz:=1) (l:=L.map vI) (k:=min L.length 3) (by simp;omega) (kB.head L);generalize min L.length 3=q at *;generalize b_ Bd.cells bs'=F at *;subst hr;simp at k1 k2 k3 hsl hlst;rw [aw (af:=g310) rfl rfl (by decide)];simp [uE,C8,C9,ze,g310,k1,k2,hmn,hsl,k3,tn,tsh,tn',tsh',aK,g,rl,hlst]
 · refine ⟨ds,bs,hD,h0,h4,fun x hx=>(ho x hx).up (by omega),?_⟩;have g:=H.Ga;have rl:(b_ Bd.cells bs).length=bs.length*20:=d7 lZ;have hlst:=Cn (l:=bs);generalize b_ Bd.cells bs=F at *;simp at k1 k2 hlst;rw [aw (af:=g310) rfl rfl (by decide)];simp [g310,k1,k2,hr,tn,tsh,aK,g,rl,hlst]
def mE (ds:List Dt) (bs:List Bd):List AV:=[.pv (.aI (ds.map Dt.pv)),.pv (.aI (bs.map Bd.pv))]
def Gt:List Bd→Nat
 | []=>0
 | b::r=>b.body.hl.length+Gt r
def eO:Nat→List Bd→Int→Option (Nat×List Int)
 | _,[],_=>none
 | i,b::r,h=>if h<b.body.hl.length then (b.body.hl[h.toNat]?).map fun p=>(i,p) else eO (i+1) r (h-b.body.hl.length)
def jY:Option (Nat×List Int)→List PV
 | some (i,p)=>[vI i,oz p,.bool true]
 | none=>[vI 0,.aI [],.bool false]
def Lx (bs:List Bd):Prop:=bs.length≤1000∧∀b∈bs,b.body.Ok∧b.body.sz≤100000000
theorem Lx.c {bs:List Bd} (h:Lx bs) {b:Bd} (hb:b∈bs):(aP AP).p 543 [b.body.pv]=some [.aI (b.body.hl.map oz)]∧(aP AP).p 539 [b.body.pv]=some [.aI (b.body.hl.map oz)]∧b.body.hl.length≤100000000:=by
 obtain ⟨h1,h2⟩:=h.2 b hb;exact ⟨c543 _ h1 h2,c539 _ h1 h2,Nat.le_trans (sO _) h2⟩
theorem Qa {ds:List Dt} {bs:List Bd} (H:Lx bs):∀(n i:Nat),bs.length-i=n→i≤bs.length→∀m:Nat,m≤100000000*i →
   cl AP g529L0 ⟨[(1,.aG 1 0),(3,.pv (vI m)),(4,.pv (vI i))],[(1,mE ds bs)],[],[]⟩ =
     some (.exit 0,⟨[(1,.aG 1 0),(3,.pv (vI (m+Gt (bs.drop i):Nat))),(4,.pv (vI bs.length)),(9,.pv (.bool false))],[(1,mE ds bs)],[],[]⟩)
 | 0,i,hn,hi,m,hm=>by
   have:i=bs.length:=by omega
   subst this;rw [g529L0e];simp [g529B0,Gt,mE]
 | n+1,i,hn,hi,m,hm=>by
   have hi:i<bs.length:=(by omega);have hl:=H.1;obtain ⟨b,hb⟩:=bD hi;obtain ⟨_,k,hk⟩:=H.c (bt hb);have ih:=Qa (ds:=ds) H n (i+1) (by omega) (by omega) (m+b.body.hl.length) (by omega);rw [cp hb];simp only [Gt];rw [←Nat.add_assoc];generalize b.body.hl=hs at *;generalize m+hs.length+Gt (bs.drop (i+1))=C at *;rw [g529L0e] at ih ⊢;simp [mE] at ih k;simp (disch:=omega) [-getElem?_pos,g529B0,mE,hb,hi,k,az];rw [g529L0e];simp [ih]
theorem c529 {ds:List Dt} {bs:List Bd} (H:Lx bs):(aP AP).p 529 [.agg [.aI (ds.map Dt.pv),.aI (bs.map Bd.pv)]]=some [vI (Gt bs)]:=by
 have e:=Qa (ds:=ds) H _ 0 rfl (by omega) 0 (by omega);rw [List.drop_zero,Nat.zero_add] at e;rw [g529L0e] at e;simp [mE] at e;rw [aw (af:=g529) rfl rfl (by decide)];simp [g529,g529L0e,e]
theorem uS {i:Nat} {b:Bd} {r:List Bd} {h:Int} (h0:0≤h) (hl:h<b.body.hl.length):∃p,b.body.hl[h.toNat]?=some p∧eO i (b::r) h=some (i,p):=by
 obtain ⟨p,hp⟩:=bD (show h.toNat<b.body.hl.length by omega);exact ⟨p,hp,by rw [eO,if_pos hl,hp];rfl⟩
theorem Qb {bs:List Bd} (H:Lx bs):∀(n i:Nat),bs.length-i=n→i≤bs.length→∀h:Int,0≤h→h≤9223372036854775807→∃h':Int,
   cl AP g530L0 ⟨[(1,.pv (vI h)),(13,.pv (.aI (bs.map Bd.pv))),(14,.pv (vI bs.length)),(15,.pv (vI i))],[],[],[]⟩ =
     some (match eO i (bs.drop i) h with
       | some (j,p)=>(.ret,⟨[(4,.pv (vI j)),(5,.pv (oz p)),(6,.pv (.bool true))],[],[],[]⟩)
       | none=>(.exit 0,⟨[(1,.pv (vI h')),(13,.pv (.aI (bs.map Bd.pv))),(14,.pv (vI bs.length)),(15,.pv (vI bs.length)),(16,.pv (.bool false))],[],[],[]⟩))
 | 0,i,hn,hi,h,h0,h1=>by
   have:i=bs.length:=by omega
   subst this;refine ⟨h,?_⟩;rw [List.drop_length,eO,g530L0e];simp [g530B0]
 | n+1,i,hn,hi,h,h0,h1=>by
   have hi:i<bs.length:=(by omega);have hl:=H.1;obtain ⟨b,hb⟩:=bD hi;obtain ⟨k,_,hk⟩:=H.c (bt hb);rw [cp hb];by_cases q:h<b.body.hl.length
   · obtain ⟨p,hp,e⟩:=uS (i:=i) (r:=bs.drop (i+1)) h0 q;refine ⟨0,?_⟩;rw [e];generalize b.body.hl=hs at *;simp at k;have hp':(hs.map oz)[h.toNat]?=some (oz p):=by simp [hp]
     have q1:h.toNat<hs.length:=(by omega);have q3:¬h<0:=(by omega);rw [g530L0e];simp (disch:=omega) [-getElem?_pos,g530B0,hb,hi,k,az,q,q3,h0,hp,q1]
   · obtain ⟨h',ih⟩:=Qb H n (i+1) (by omega) (by omega) (h-b.body.hl.length) (by omega) (by omega);refine ⟨h',?_⟩;rw [eO,if_neg q];generalize eO (i+1) (bs.drop (i+1)) (h-b.body.hl.length)=R at *;generalize b.body.hl=hs at *;rw [g530L0e] at ih ⊢;simp at ih k;simp (disch:=omega) [-getElem?_pos,g530B0,hb,hi,k,az,q];rw [g530L0e];simp [ih]
theorem c530 {ds:List Dt} {bs:List Bd} (H:Lx bs) {h:Int} (h1:h≤9223372036854775807):(aP AP).p 530 [.agg [.aI (ds.map Dt.pv),.aI (bs.map Bd.pv)],vI h]=some (jY (if h<0 then none else eO 0 bs h)):=by
 rw [aw (af:=g530) rfl rfl (by decide)];by_cases h0:h<0
 · simp [g530,h0,jY]
 · rw [if_neg h0];obtain ⟨h',e⟩:=Qb H _ 0 rfl (by omega) h (by omega) h1;rw [List.drop_zero] at e;rw [g530L0e] at e;cases hf:eO 0 bs h with
   | none=>rw [hf] at e;simp at e;simp [g530,h0,g530L0e,e,jY]
   | some r=>obtain ⟨j,p⟩:=r;rw [hf] at e;simp at e;simp [g530,h0,g530L0e,e,jY]
theorem Qc {ds:List Dt} {bs:List Bd} (H:Lx bs):∀(n i:Nat),bs.length-i=n→i≤bs.length→∀h:Int,0≤h→h≤9223372036854775807→∃(h':Int) (b17:Bool) (l':List (Nat×AV)),
   cl AP g531L0 ⟨[(1,.pv (vI h)),(2,.aG 2 0),(7,.pv (vI i))],[(2,mE ds bs)],[],[]⟩ =
     some (match eO i (bs.drop i) h with
       | some (j,p)=>(.ret,⟨[(4,.pv (vI j)),(5,.pv (oz p)),(6,.pv (.bool true))],[],[],[]⟩)
       | none=>(.exit 0,⟨[(1,.pv (vI h')),(2,.aG 2 0),(7,.pv (vI bs.length)),(17,.pv (.bool false))],[(2,mE ds bs)],[],[]⟩))
 | 0,i,hn,hi,h,h0,h1=>by
   have:i=bs.length:=by omega
   subst this;refine ⟨h,true,[],?_⟩;rw [List.drop_length,eO,g531L0e];simp [g531B0,mE]
 | n+1,i,hn,hi,h,h0,h1=>by
   have hi:i<bs.length:=(by omega);have hl:=H.1;obtain ⟨b,hb⟩:=bD hi;obtain ⟨_,k,hk⟩:=H.c (bt hb);rw [cp hb];by_cases q:h<b.body.hl.length
   · obtain ⟨p,hp,e⟩:=uS (i:=i) (r:=bs.drop (i+1)) h0 q;refine ⟨0,true,[],?_⟩;rw [e];generalize b.body.hl=hs at *;simp at k;have q1:h.toNat<hs.length:=by omega
     have q3:¬h<0:=(by omega);rw [g531L0e];simp (disch:=omega) [-getElem?_pos,g531B0,mE,hb,hi,k,az,q,q3,h0,hp,q1]
   · obtain ⟨h',b',l',ih⟩:=Qc (ds:=ds) H n (i+1) (by omega) (by omega) (h-b.body.hl.length) (by omega) (by omega);refine ⟨h',b',l',?_⟩;rw [eO,if_neg q];generalize eO (i+1) (bs.drop (i+1)) (h-b.body.hl.length)=R at *;generalize b.body.hl=hs at *;rw [g531L0e] at ih ⊢;simp [mE] at ih k;simp (disch:=omega) [-getElem?_pos,g531B0,mE,hb,hi,k,az,q,h0];rw [g531L0e];simp [ih,mE]
theorem c531 {ds:List Dt} {bs:List Bd} (H:Lx bs) {h:Int} (h1:h≤9223372036854775807):(aP AP).p 531 [.agg [.aI (ds.map Dt.pv),.aI (bs.map Bd.pv)],vI h]=some (jY (if h<0 then none else eO 0 bs h)):=by
 rw [aw (af:=g531) rfl rfl (by decide)];by_cases h0:h<0
 · have h0':¬0≤h:=(by omega);by_cases z:bs=[]
   · subst z;simp [g531,h0,jY,g531L0e,g531B0]
   · have hp:0<bs.length:=List.length_pos_iff.2 z;simp [g531,h0,h0',hp,jY,g531L0e,g531B0]
 · rw [if_neg h0];obtain ⟨h',_,_,e⟩:=Qc (ds:=ds) H _ 0 rfl (by omega) h (by omega) h1;rw [List.drop_zero] at e;rw [g531L0e] at e;cases hf:eO 0 bs h with
   | none=>rw [hf] at e;simp [mE] at e;simp [g531,h0,g531L0e,e,jY]
   | some r=>obtain ⟨j,p⟩:=r;rw [hf] at e;simp [mE] at e;simp [g531,h0,g531L0e,e,jY]
theorem Jx {s:List cS} (hS:s.length<1000000):∀(n i:Nat),s.length-i=n→i≤s.length→∀acc:List cS,acc.length≤i →
   cl AP g532L1 ⟨[(9,.own (s.map .str) 0),(13,.own (acc.map .str) 1),(58,.pv (.aI (s.map .str))),(59,.pv (vI s.length)),(60,.pv (vI i))],[],[],[s.length,acc.length]⟩ =
     some (.exit 2,⟨[(9,.own (s.map .str) 0),(13,.own ((acc++eB (s.drop i)).map .str) 1),(58,.pv (.aI (s.map .str))),(59,.pv (vI s.length)),(60,.pv (vI s.length)),(61,.pv (.bool false))],[],[],[s.length,(acc++eB (s.drop i)).length]⟩)
 | 0,i,hn,hi,acc,ha=>by
   have:i=s.length:=by omega
   subst this;rw [List.drop_length];simp only [eB,List.append_nil];rw [g532L1e];simp [g532B1]
 | n+1,i,hn,hi,acc,ha=>by
   have hi:i<s.length:=(by omega);obtain ⟨x,hx⟩:=bD hi;have c:=c214 (s:=s.drop (i+1)) (by unfold Sm;simp;omega) (y:=x);have hsl:=Ma (sz:=1) (τ:=0) (l:=s.map PV.str) (k:=.i64) (h:=(i:Int)+1) (by omega) (by simp;omega) (lK.head s);have h1:((i:Int)+1).toNat=i+1:=(by omega);rw [h1] at hsl;have hb:(acc.length+1)*16≤140737488355328:=(by omega);rw [cp hx,g532L1e];by_cases e:x∈s.drop (i+1)
   · have ih:=Jx hS n (i+1) (by omega) (by omega) acc (by omega);simp only [eB,if_pos e];rw [decide_eq_true e] at c;simp at ih c hsl;simp (disch:=omega) [-getElem?_pos,g532B1,hx,hi,az,hsl,c,ih]
   · have ih:=Jx hS n (i+1) (by omega) (by omega) (acc++[x]) (by simp;omega);simp only [eB,if_neg e];rw [decide_eq_false e] at c;simp at ih c hsl;simp (disch:=omega) [-getElem?_pos,g532B1,hx,hi,az,hsl,c,hb,ih]
theorem Mm {ds:List Dt} {bs l:List Bd} {I:Nat} {p:List Int} (hl:l.length≤1000):∀(n i:Nat),l.length-i=n→i≤l.length→∀acc:List cS,acc.length≤i →
   cl AP g532L0 ⟨[(2,.aG 2 0),(6,.pv (vI I)),(7,.pv (.aI (p.map vI))),(9,.own (acc.map .str) 0),(28,.pv (.aI (l.map Bd.pv))),(29,.pv (vI l.length)),(30,.pv (vI i))],[(2,mE ds bs)],[],[acc.length]⟩ =
     some (.exit 0,⟨[(2,.aG 2 0),(6,.pv (vI I)),(7,.pv (.aI (p.map vI))),(9,.own ((acc++(l.drop i).map Bd.name).map .str) 0),(28,.pv (.aI (l.map Bd.pv))),(29,.pv (vI l.length)),(30,.pv (vI l.length)),(31,.pv (.bool false))],[(2,mE ds bs)],[],[(acc++(l.drop i).map Bd.name).length]⟩)
 | 0,i,hn,hi,acc,ha=>by
   have:i=l.length:=by omega
   subst this;rw [List.drop_length,List.map_nil,List.append_nil,g532L0e];simp [g532B0,mE]
 | n+1,i,hn,hi,acc,ha=>by
   have hi:i<l.length:=(by omega);obtain ⟨b,hb⟩:=bD hi;have ih:=Mm (ds:=ds) (bs:=bs) (I:=I) (p:=p) hl n (i+1) (by omega) (by omega) (acc++[b.name]) (by simp;omega);have hbb:(acc.length+1)*16≤140737488355328:=(by omega);rw [cp hb,List.map_cons];rw [g532L0e] at ih ⊢;simp [mE] at ih;simp (disch:=omega) [-getElem?_pos,g532B0,mE,hb,hi,hbb,az];rw [g532L0e];simp [ih]
theorem Qd {ds:List Dt} {bs:List Bd} {I:Nat} {p:List Int} (hl:bs.length≤1000) (hI:I≤bs.length):∀(n i:Nat),I-i=n→i≤I→∀acc:List cS,acc.length≤i →
   cl AP g533L0 ⟨[(2,.aG 2 0),(6,.pv (vI I)),(7,.pv (.aI (p.map vI))),(9,.own (acc.map .str) 0),(10,.pv (vI i))],[(2,mE ds bs)],[],[acc.length]⟩ =
     some (.exit 0,⟨[(2,.aG 2 0),(6,.pv (vI I)),(7,.pv (.aI (p.map vI))),(9,.own ((acc++((bs.take I).drop i).map Bd.name).map .str) 0),(10,.pv (vI I)),(22,.pv (.bool false))],[(2,mE ds bs)],[],[(acc++((bs.take I).drop i).map Bd.name).length]⟩)
 | 0,i,hn,hi,acc,ha=>by
   have:i=I:=by omega
   subst this;have e:(bs.take i).drop i=[]:=by apply List.drop_eq_nil_of_le;simp;omega
   rw [e,List.map_nil,List.append_nil,g533L0e];simp [g533B0,mE]
 | n+1,i,hn,hi,acc,ha=>by
   have hi:i<I:=(by omega);obtain ⟨b,hb⟩:=bD (show i<bs.length by omega);have hb':(bs.take I)[i]?=some b:=(by rw [List.getElem?_take_of_lt hi];exact hb);have hib:i<bs.length:=(by omega);have ih:=Qd (ds:=ds) (p:=p) hl hI n (i+1) (by omega) (by omega) (acc++[b.name]) (by simp;omega);have hbb:(acc.length+1)*16≤140737488355328:=(by omega);rw [cp hb',List.map_cons];generalize ((bs.take I).drop (i+1)).map Bd.name=R at *;rw [g533L0e] at ih ⊢;simp [mE] at ih;simp (disch:=omega) [-getElem?_pos,g533B0,mE,hb,hi,hib,hbb,az];rw [g533L0e];simp [ih]
theorem pd:∀l:List cS,(eB l).length≤l.length
 | []=>by simp [eB]
 | x::r=>by
   have:=pd r;simp only [eB];split<;>simp<;>omega
theorem ou:∀{l:List Bd} {i j:Nat} {h:Int} {p:List Int},eO i l h=some (j,p)→∃(k:Nat) (b:Bd),j=i+k∧l[k]?=some b∧p∈b.body.hl
 | [],i,j,h,p,e=>by simp [eO] at e
 | b::r,i,j,h,p,e=>by
   rw [eO] at e;split at e
   · simp only [Option.map_eq_some_iff] at e;obtain ⟨q,hq,e⟩:=e;cases e;exact ⟨0,b,rfl,rfl,bt hq⟩
   · obtain ⟨k,c,h1,h2,h3⟩:=ou e;exact ⟨k+1,c,by omega,by simpa using h2,h3⟩
noncomputable def Cp (bs:List Bd) (i:Nat) (b:Bd) (p:List Int):List cS:=(bs.take i).map Bd.name++((if b.rc=true then [b.name] else [])++wv b.body p)
noncomputable def pe (bs:List Bd) (h:Int):List PV:=match (if h<0 then none else eO 0 bs h) with
 | none=>[.aI [],vI 16]
 | some (i,p)=>match bs[i]? with
   | some b=>[.aI ((eB (Cp bs i b p)).map .str),vI 0]
   | none=>[]
structure Qe (bs:List Bd):Prop where
 h:Lx bs
 one:∀b∈bs,b.body.One
 dp:∀b∈bs,∀p∈b.body.hl,p.length≤500
theorem wJ {e:Ex} (he:e.Ok) {p:List Int} (hp:p.length≤500):(wv e p).length≤500000:=by
 unfold wv;cases hx:e.at p with
 | none=>simp
 | some y=>
   have h1:=wu he hx;have h2:=pd (e.sM p);simp only;omega
theorem c532 {ds:List Dt} {bs:List Bd} (H:Qe bs) {h:Int} (h1:h≤9223372036854775807):(aP AP).p 532 [.agg [.aI (ds.map Dt.pv),.aI (bs.map Bd.pv)],vI h]=some (pe bs h):=by
 have k:=c530 (ds:=ds) H.h h1;unfold pe;rw [aw (af:=g532) rfl rfl (by decide)];cases hf:(if h<0 then none else eO 0 bs h) with
 | none=>
   rw [hf] at k;simp [jY] at k;simp [g532,k]
 | some r=>
   obtain ⟨i,p⟩:=r
   have hf':eO 0 bs h=some (i,p):=by
     split at hf
     · cases hf
     · exact hf
   obtain ⟨j,b,hj,hb,hp⟩:=ou hf';have:j=i:=by omega
   subst this;have hi:=(List.getElem?_eq_some_iff.1 hb).1;have hbm:=bt hb;have hl:=H.h.1;obtain ⟨hok,hsz⟩:=H.h.2 b hbm;have hp5:=H.dp b hbm p hp;have kv:=c404 hok (H.one b hbm) (p:=p) (by omega);have vl:=wJ hok hp5;rw [hf] at k;simp only [hb,Cp];have htl:(bs.take j).length=j:=by simp;omega
   have e0:=Mm (ds:=ds) (bs:=bs) (l:=bs.take j) (I:=j) (p:=p) (by omega) _ 0 rfl (by omega) [] (by simp);rw [htl,List.drop_zero,List.nil_append] at e0;have hnl:((bs.take j).map Bd.name).length=j:=(by rw [List.length_map];exact htl);generalize (bs.take j).map Bd.name=N at *;generalize wv b.body p=V at *;have e1:=Jx (s:=N++((if b.rc=true then [b.name] else [])++V)) (by simp only [List.length_append];split<;>simp<;>omega) _ 0 rfl (by omega) [] (by simp);rw [List.drop_zero,List.nil_append] at e1;have hb1:(N.length+1)*16≤140737488355328:=(by omega);have hb2:(N.length+V.length)*16≤140737488355328:=(by omega);have hb3:(N.length+1+V.length)*16≤140737488355328:=(by omega);have hh:=lK.head V;have hh3:bC 1 (N.map PV.str++[PV.str b.name])=true:=by have:=lK.head (N++[b.name]);simpa only [List.map_append,List.map_cons,List.map_nil] using this
   have hslb:cO false 20 false true false [.pv (.aI (bs.map Bd.pv)),.pv (.int .i64 (j:Int))]=some (.pv (.aI ((bs.take j).map Bd.pv))):=by
     have:=Pq (sz:=20) (l:=bs.map Bd.pv) (k:=.i64) (h:=(j:Int)) (by omega) (by simp;omega);simpa using this
   rw [g532L0e] at e0;rw [g532L1e] at e1;simp [jY] at k kv hh hslb;simp [mE,htl] at e0;have hb4:N.length*16≤140737488355328:=by omega
   cases hr:b.rc
   · simp [hr] at e1;by_cases z:V=[]
     · subst z;simp at e1 kv;simp (disch:=omega) [-getElem?_pos,g532,k,hslb,htl,g532L0e,e0,hb,hi,hr,hb1,hb2,hb3,hb4,hh3,kv,g532L1e,e1]
     · simp (disch:=omega) [-getElem?_pos,g532,k,hslb,htl,g532L0e,e0,hb,hi,hr,hb1,hb2,hb3,hh,hh3,z,kv,g532L1e,e1]
   · simp [hr] at e1;by_cases z:V=[]
     · subst z;simp at e1 kv;simp (disch:=omega) [-getElem?_pos,g532,k,hslb,htl,g532L0e,e0,hb,hi,hr,hb1,hb2,hb3,hb4,hh3,kv,g532L1e,e1]
     · simp (disch:=omega) [-getElem?_pos,g532,k,hslb,htl,g532L0e,e0,hb,hi,hr,hb1,hb2,hb3,hh,hh3,z,kv,g532L1e,e1]
theorem c533 {ds:List Dt} {bs:List Bd} (H:Qe bs) {h:Int} (h1:h≤9223372036854775807):(aP AP).p 533 [.agg [.aI (ds.map Dt.pv),.aI (bs.map Bd.pv)],vI h]=some (pe bs h):=by
 have k:=c531 (ds:=ds) H.h h1;unfold pe;rw [aw (af:=g533) rfl rfl (by decide)];cases hf:(if h<0 then none else eO 0 bs h) with
 | none=>
   rw [hf] at k;simp [jY] at k;simp [g533,k]
 | some r=>
   obtain ⟨i,p⟩:=r
   have hf':eO 0 bs h=some (i,p):=by
     split at hf
     · cases hf
     · exact hf
   obtain ⟨j,b,hj,hb,hp⟩:=ou hf';have:j=i:=by omega
   subst this;have hi:=(List.getElem?_eq_some_iff.1 hb).1;have hbm:=bt hb;have hl:=H.h.1;obtain ⟨hok,hsz⟩:=H.h.2 b hbm;have hp5:=H.dp b hbm p hp;have kv:=c432 hok (H.one b hbm) (p:=p) (by omega);have vl:=wJ hok hp5;rw [hf] at k;simp only [hb,Cp];have htl:(bs.take j).length=j:=by simp;omega
   have e0:=Qd (ds:=ds) (bs:=bs) (I:=j) (p:=p) hl (by omega) _ 0 rfl (by omega) [] (by simp);rw [List.drop_zero,List.nil_append] at e0;have hnl:((bs.take j).map Bd.name).length=j:=(by rw [List.length_map];exact htl);generalize (bs.take j).map Bd.name=N at *;generalize wv b.body p=V at *;have k4:=c440 (s:=N++((if b.rc=true then [b.name] else [])++V)) (by simp only [List.length_append];split<;>simp<;>omega);have hb1:(N.length+1)*16≤140737488355328:=(by omega);have hb2:(N.length+V.length)*16≤140737488355328:=(by omega);have hb3:(N.length+1+V.length)*16≤140737488355328:=(by omega);have hh:=lK.head V;have hh3:bC 1 (N.map PV.str++[PV.str b.name])=true:=by have:=lK.head (N++[b.name]);simpa only [List.map_append,List.map_cons,List.map_nil] using this
   have hb4:N.length*16≤140737488355328:=(by omega);rw [g533L0e] at e0;simp [jY] at k kv hh;simp [mE] at e0;cases hr:b.rc
   · simp [hr] at k4;by_cases z:V=[]
     · subst z;simp at k4 kv;simp (disch:=omega) [-getElem?_pos,g533,k,g533L0e,e0,hb,hi,hr,hb1,hb2,hb3,hb4,kv,k4]
     · simp (disch:=omega) [-getElem?_pos,g533,k,g533L0e,e0,hb,hi,hr,hb1,hb2,hb3,hh,z,kv,k4]
   · simp [hr] at k4;by_cases z:V=[]
     · subst z;simp at k4 kv;simp (disch:=omega) [-getElem?_pos,g533,k,g533L0e,e0,hb,hi,hr,hb1,hb2,hb3,hb4,hh3,kv,k4]
     · simp (disch:=omega) [-getElem?_pos,g533,k,g533L0e,e0,hb,hi,hr,hb1,hb2,hb3,hh,hh3,z,kv,k4]
theorem Qf {s:List cS} (hS:s.length<1000000000):∀(n i:Nat),s.length-i=n→i≤s.length →
   cl AP g534L0 ⟨[(0,.pv (.aI (s.map .str))),(1,.pv (.aI (s.map .str))),(5,.pv (vI i))],[],[],[]⟩ =
     some (.exit 0,⟨[(0,.pv (.aI (s.map .str))),(1,.pv (.aI (s.map .str))),(5,.pv (vI s.length)),(14,.pv (.bool false))],[],[],[]⟩)
 | 0,i,hn,hi=>by
   have:i=s.length:=by omega
   subst this;rw [g534L0e];simp [g534B0]
 | n+1,i,hn,hi=>by
   have hi:i<s.length:=(by omega);obtain ⟨x,hx⟩:=bD hi;have ih:=Qf hS n (i+1) (by omega) (by omega);rw [g534L0e] at ih ⊢;simp at ih;simp (disch:=omega) [-getElem?_pos,g534B0,hx,hi,az];rw [g534L0e];simp [ih]
theorem c534 {s:List cS} (hS:s.length<1000000000):(aP AP).p 534 [.aI (s.map .str),.aI (s.map .str)]=some [.bool true]:=by
 have e:=Qf hS _ 0 rfl (by omega);rw [g534L0e] at e;simp at e;rw [aw (af:=g534) rfl rfl (by decide)];simp [g534,g534L0e,e]
theorem Dn:∀{p:List Int} {e x:Ex} {n:Nat},e.at p=some x→e.zc n→p.length≤n
 | [],_,_,_,_,_=>by simp
 | i::r,e,x,n,h,hh=>by
   rw [Ex.at] at h;split at h
   · cases hy:e.ch[i.toNat]? with
     | none=>rw [hy] at h;cases h
     | some y=>
       rw [hy] at h;cases hh with
       | @mk n _ hc=>
         have:=Dn (p:=r) h (hc y (bt hy));simp only [List.length_cons];omega
   · cases h
theorem RA {bs:List Bd} (h4:bs.length≤4) (ho:∀b∈bs,pc 200 b):Qe bs where
 h:=⟨by omega,fun b hb=>⟨(ho b hb).sc.ok,by have:=(ho b hb).w;omega⟩⟩
 one:=fun b hb=>(ho b hb).sc.one
 dp:=fun b hb p hp=>by
   obtain ⟨_,x,hx,_⟩:=C6 b.body p hp;have:=Dn hx (ho b hb).h;omega
theorem NM {bs:List Bd} (ho:∀b∈bs,pc 200 b):Gt bs≤bs.length*14000000:=by
 induction bs with
 | nil=>simp [Gt]
 | cons b r ih=>
   have h1:=ih fun x hx=>ho x (by simp [hx])
   have h2:=sO b.body;have h3:=(ho b (by simp)).w;simp only [Gt,List.length_cons];omega
def Qg (k p:Int) (s:cS):List PV:=[.int .i64 k,.int .i64 p,.str s,.int .i64 0,.aI [],.aI [],.int .i64 0,.str [],.int .i64 0,.int .i64 0,.aI []]
def QA (b:List PV):PV:=.agg [.aI [],.aI [
 .agg ([.int .i64 0,.bool false,.str [120],.bool false,.int .i64 0,.str [],.int .i64 0,.int .i64 0,.aI []]++Qg 10 8 []),
 .agg ([.int .i64 11,.bool false,.str [121],.bool false,.int .i64 0,.str [],.int .i64 0,.int .i64 0,.aI []]++[.int .i64 4,.int .i64 19,.str [120],.int .i64 0,.aI [.agg b],.aI [],.int .i64 0,.str [],.int .i64 0,.int .i64 0,.aI []])]]
def QB (b:UInt8):cS:=[108,101,116,32,120,32,61,32,63,59,32,108,101,116,32,121,32,61,32,92,120,46,32,b,59]
theorem c535a:(aP AP).p 535 [.str (QB 63)]=some [QA (Qg 10 23 [])]:=Fc.M1 (k:=400) (n:=40) (by kernel_rfl)
theorem c535b:(aP AP).p 535 [.str (QB 120)]=some [QA (Qg 1 23 [120])]:=Fc.M1 (k:=400) (n:=40) (by kernel_rfl)
def Rk (g:Nat) (x:List PV):Option (List PV):=if g=535 then match x with
 | [.str s]=>if s=QB 63 then some [QA (Qg 10 23 [])] else if s=QB 120 then some [QA (Qg 1 23 [120])] else none
 | _=>none
 else none
theorem NN:∀g x r,Rk g x=some r→(aP AP).p g x=some r:=by
 intro g x r h;unfold Rk at h;split at h
 · rename_i e;subst e;split at h
   · split at h
     · rename_i e;subst e;rw [←h];exact c535a
     · split at h
       · rename_i e;subst e;rw [←h];exact c535b
       · cases h
   · cases h
 · cases h
theorem c527:(aP AP).p 527 []=some [.bool true]:=Fc.LI (k:=400) (n:=40) NN (by kernel_rfl)
theorem zD {bs:List Bd} (H:Qe bs) (h:Int):∃(l:List cS) (e:Int),pe bs h=[.aI (l.map .str),vI e]∧l.length≤600000:=by
 unfold pe;cases hf:(if h<0 then none else eO 0 bs h) with
 | none=>exact ⟨[],16,rfl,by simp⟩
 | some r=>
   obtain ⟨i,p⟩:=r
   have hf':eO 0 bs h=some (i,p):=by
     split at hf
     · cases hf
     · exact hf
   obtain ⟨j,b,hj,hb,hp⟩:=ou hf';have:j=i:=by omega
   subst this;have hl:=H.h.1;have h1:=wJ (H.h.2 b (bt hb)).1 (H.dp b (bt hb) p hp);have h2:=pd (Cp bs j b p)
   have h3:(Cp bs j b p).length≤1000+1+500000:=by
     unfold Cp;simp only [List.length_append,List.length_map,List.length_take];split<;>simp<;>omega
   exact ⟨eB (Cp bs j b p),0,by simp only [hb],by omega⟩
theorem Qh {ds:List Dt} {bs:List Bd} (H:Qe bs) {K:List Int} (hK:∀k∈K,k≤9223372036854775807) (hl:K.length≤1000):∀(n j:Nat),K.length-j=n→j≤K.length →
   cl AP g522L0 ⟨[(9,.aG 9 0),(31,.own (K.map vI) 0),(32,.pv (vI K.length)),(33,.pv (vI j))],[(9,mE ds bs)],[],[K.length]⟩ =
     some (.exit 0,⟨[(9,.aG 9 0),(31,.own (K.map vI) 0),(32,.pv (vI K.length)),(33,.pv (vI K.length)),(34,.pv (.bool false))],[(9,mE ds bs)],[],[K.length]⟩)
 | 0,j,hn,hj=>by
   have:j=K.length:=by omega
   subst this;rw [g522L0e];simp [g522B0,mE]
 | n+1,j,hn,hj=>by
   have hj:j<K.length:=(by omega);obtain ⟨k,hk⟩:=bD hj;have ih:=Qh (ds:=ds) H hK hl n (j+1) (by omega) (by omega);have k1:=c532 (ds:=ds) H (hK k (bt hk));have k2:=c533 (ds:=ds) H (hK k (bt hk));obtain ⟨l,e,e1,hp⟩:=zD H k;rw [e1] at k1 k2;have k3:=c534 (s:=l) (by omega);rw [g522L0e] at ih ⊢;simp [mE] at k1 k2 k3 ih;simp (disch:=omega) [-getElem?_pos,g522B0,mE,hk,hj,k1,k2,k3,az];rw [g522L0e];simp [ih]
theorem NO (bits:Int) (L:List Int) (way h:Int) (hh:h≤9223372036854775807):(aP AP).p 522 [vI bits,.aI (L.map vI),vI way,vI h]=some [.bool true]:=by
 have c0:=c527;have c1:=c15 (l:=L);rw [aw (af:=g522) rfl rfl (by decide)];by_cases hL:L.length≤60
 · simp [hL] at c1;obtain ⟨ds,bs,hD,_,h4,ho,e1⟩:=c310 (L:=L) (by omega) bits way;have H:=RA h4 ho;have k2:=c529 (ds:=ds) H.h;have hc:=NM ho;have hc2:Gt bs≤56000000:=by omega
   obtain ⟨r,k3,r0,r1⟩:=c26 (n:=h) (m:=(Gt bs:Int)+1) (by omega) (by omega);have e2:=Qh (ds:=ds) H (K:=[h,r]) (by simp;omega) (by simp) _ 0 rfl (by simp);generalize Gt bs=C at *;rw [g522L0e] at e2;simp [mE] at e1 k2 k3 e2;simp (disch:=omega) [-getElem?_pos,g522,c0,c1,e1,k2,k3,az,g522L0e,e2]
 · simp [hL] at c1;simp [g522,c0,c1]
end Go.Ab.Lw
