import Derived.Test.YthcoecdbgdhihaaGreatDoorLibA
/-
  The reference's unifier: binding a variable, the loops.
  The reference's unifier: binding a variable.
  The reference's unifier: binding a variable, the walk.
  The reference's unifier: ends of walks, the loop over the arguments.
  The reference's unifier.
  The reference's unifier, from outside; marking a variable.
  The search's reference: a variable is marked; new variables aU a store fit.
  Chapter 9: written type variables become quantified ones.
  Chapter 9: the names of written type variables.
  Chapter 9: declarations off the tape.
  Chapter 9: the scheme of a constructor.
  Chapter 9: the first error of a list of declarations, by the program.
  The chosen declarations, to the letter.
  The law DeclareFinds.
  The law DeclareFields.
  The law EnvironSeen.
  Valid schemes: the program's and the reference's answers are one.
  Closing and mono, by the program.
  Signatures of the reference.
  The maker of programs: small parts, 2.
  The maker of programs: the scheme of a let.
  The maker of programs: does an expression have a part of a kind?
  The search's reference: canonical variables.
  The search's reference: a scheme under a substitution; the beginning of a store.
  The search's reference: the beginning of a store, new variables.
  The search's reference: the beginning of a store.
  The search's reference: an element, its new variables.
  The reference's store: kinds of resolved types; a variable becomes an arrow.
  The search's reference: an element, its arguments.
  The search's reference: an element, its resolved types.
  Matching, by the program.
  Instances, by the program.
  Instances, by the reference.
  Matching, by the reference.
  Both matchings are one.
  When a closed type is general.
  The reference's Instance; the law SchemeInstances.
  The search's reference: an element.
  The search's reference: heads.
  The search's reference: the schemes of constructors; the list of heads.
  The search's reference: the list of heads, the walk.
  A tape anywhere in shared memory: the makers of types and of raw expressions.
  The law ScopeVisible.
  The maker of typed expressions: what it gives; leaves.
  The maker of typed expressions: leaves, functions, applications, annotations, held ones.
  The maker of programs: the scheme of a let is closed.
  The maker of typed expressions: lets.
  The maker of typed expressions: heads with arguments.
  The maker of typed expressions: cases.
  The maker of typed expressions: cases; all depths.
  The maker of programs: signatures.
  The maker of programs: bindings.
  The maker of programs: one binding.
  The maker of programs: the first binding; all bindings.
  A part of an expression is replaced.
  A program is changed in one place: the walk down.
  A program is changed in one place.
  Texts of programs: declarations, and the reference's loops.
  The holes of a program: how many, and where.
  Where a hole of a program is.
  The names at a hole.
  The law ScopeVisible: all of it.
  The names at a hole: the same by both.
  The law ShowPrograms.
  The laws SpliceFinds and SpliceNames.
  Chapter 12's first example.
  Depths of types and expressions.
-/
set_option linter.unusedVariables false
set_option linter.unusedSimpArgs false
set_option linter.unnecessarySimpa false
set_option maxRecDepth 100000
set_option maxHeartbeats 8000000
namespace Go.Ab.Lw
open Ev
def zS:List AV:=[.own [] 0,.own [] 1]
def qL(v:Sl):List AV:=[.pv (.bool v.bd),.pv (vI v.ty.kind),.pv (.str v.ty.name),.pv (vI v.ty.id),.pv (vI v.ty.home),.pv (.au (v.ty.args.map Ty.pv)),.pv (vI v.home),.pv (.bool v.base)]
def MI(s:dO)(q:aG):Option (bg×St):=some (.ret,⟨[(6,.az 6 0),(7,.pv (vI 13))],[(6,sC s)],[],q⟩)
theorem Qm{s:dO}{i:Nat}{t:Ty}{v:Sl}{out:List Int}{r:List Ty}(hr:Sm r):∀(n k:Nat),r.length-k=n→k≤r.length →
   (∃q,cl AP g398L0 ⟨[(1,.pv (vI i)),(3,.az 3 0),(5,.az 5 0),(6,.az 6 0),(8,.az 8 0),(9,.pv (.au (out.map vI))),(15,.pv (.au (r.map Ty.pv))),(16,.pv (vI k))],[(3,sC s),(5,tC t),(6,zS),(8,qL v)],[],[0,0]⟩=MI s q) ∨
   cl AP g398L0 ⟨[(1,.pv (vI i)),(3,.az 3 0),(5,.az 5 0),(6,.az 6 0),(8,.az 8 0),(9,.pv (.au (out.map vI))),(15,.pv (.au (r.map Ty.pv))),(16,.pv (vI k))],[(3,sC s),(5,tC t),(6,zS),(8,qL v)],[],[0,0]⟩ =
     some (.exit 0,⟨[(1,.pv (vI i)),(3,.az 3 0),(5,.az 5 0),(6,.az 6 0),(8,.az 8 0),(9,.pv (.au (out.map vI))),(15,.pv (.au (r.map Ty.pv))),(16,.pv (vI r.length)),(57,.pv (.bool false))],[(3,sC s),(5,tC t),(6,zS),(8,qL v)],[],[0,0]⟩)
 |0,k,hn,hk=>by
   have:k=r.length:=by omega
   subst this;refine .inr ?_;rw[g398L0e];simp[g398B0,sC,tC,zS,qL]
 |n+1,k,hn,hk=>by
   have hk:k<r.length:=(by omega);obtain⟨x,hx⟩:=aV hk;unfold Sm at hr;by_cases hg:v.home<x.home
   ·refine .inl ?_;rw[g398L0e];simp (disch:=omega) [-getElem?_pos,g398B0,sC,tC,zS,qL,MI,hx,hk,hg]
   · have ih:=Qm (s:=s) (i:=i) (t:=t) (v:=v) (out:=out) hr n (k+1) (by omega) (by omega)
     have e1:cl AP g398L0 ⟨[(1,.pv (vI i)),(3,.az 3 0),(5,.az 5 0),(6,.az 6 0),(8,.az 8 0),(9,.pv (.au (out.map vI))),(15,.pv (.au (r.map Ty.pv))),(16,.pv (vI k))],[(3,sC s),(5,tC t),(6,zS),(8,qL v)],[],[0,0]⟩=cl AP g398L0 ⟨[(1,.pv (vI i)),(3,.az 3 0),(5,.az 5 0),(6,.az 6 0),(8,.az 8 0),(9,.pv (.au (out.map vI))),(15,.pv (.au (r.map Ty.pv))),(16,.pv (vI (k+1:Nat)))],[(3,sC s),(5,tC t),(6,zS),(8,qL v)],[],[0,0]⟩:=by
       conv=>lhs;rw[g398L0e]
       simp (disch:=omega) [-getElem?_pos,g398B0,sC,tC,zS,qL,hx,hk,hg,ah]
     rw[e1];exact ih
theorem Qn{s:dO}{i:Nat}{t:Ty}{v:Sl}{out:List Int}(hr:Sm out):∀(n k:Nat),out.length-k=n→k≤out.length →
   (∃q,cl AP g398L1 ⟨[(1,.pv (vI i)),(3,.az 3 0),(5,.az 5 0),(6,.az 6 0),(8,.az 8 0),(9,.pv (.au (out.map vI))),(17,.pv (vI k))],[(3,sC s),(5,tC t),(6,zS),(8,qL v)],[],[0,0]⟩=MI s q) ∨
   cl AP g398L1 ⟨[(1,.pv (vI i)),(3,.az 3 0),(5,.az 5 0),(6,.az 6 0),(8,.az 8 0),(9,.pv (.au (out.map vI))),(17,.pv (vI k))],[(3,sC s),(5,tC t),(6,zS),(8,qL v)],[],[0,0]⟩ =
     some (.exit 2,⟨[(1,.pv (vI i)),(3,.az 3 0),(5,.az 5 0),(6,.az 6 0),(8,.az 8 0),(9,.pv (.au (out.map vI))),(17,.pv (vI out.length)),(72,.pv (.bool false))],[(3,sC s),(5,tC t),(6,zS),(8,qL v)],[],[0,0]⟩)
 |0,k,hn,hk=>by
   have:k=out.length:=by omega
   subst this;refine .inr ?_;rw[g398L1e];simp[g398B1,sC,tC,zS,qL]
 |n+1,k,hn,hk=>by
   have hk:k<out.length:=(by omega);obtain⟨x,hx⟩:=aV hk;unfold Sm at hr;by_cases hg:(s.sl.length:Int)≤x∧v.home<0
   ·obtain⟨g1,g2⟩:=hg;refine .inl ?_;rw[g398L1e];simp (disch:=omega) [-getElem?_pos,g398B1,sC,tC,zS,qL,MI,hx,hk,g1,g2]
   · have ih:=Qn (s:=s) (i:=i) (t:=t) (v:=v) (out:=out) hr n (k+1) (by omega) (by omega)
     have e1:cl AP g398L1 ⟨[(1,.pv (vI i)),(3,.az 3 0),(5,.az 5 0),(6,.az 6 0),(8,.az 8 0),(9,.pv (.au (out.map vI))),(17,.pv (vI k))],[(3,sC s),(5,tC t),(6,zS),(8,qL v)],[],[0,0]⟩=cl AP g398L1 ⟨[(1,.pv (vI i)),(3,.az 3 0),(5,.az 5 0),(6,.az 6 0),(8,.az 8 0),(9,.pv (.au (out.map vI))),(17,.pv (vI (k+1:Nat)))],[(3,sC s),(5,tC t),(6,zS),(8,qL v)],[],[0,0]⟩:=by
       conv=>lhs;rw[g398L1e]
       by_cases g1:(s.sl.length:Int)≤x
       ·have g2:¬v.home<0:=fun h=>hg ⟨g1,h⟩;simp (disch:=omega) [-getElem?_pos,g398B1,sC,tC,zS,qL,hx,hk,g1,g2,ah]
       ·simp (disch:=omega) [-getElem?_pos,g398B1,sC,tC,zS,qL,hx,hk,g1,ah]
     rw[e1];exact ih
structure Kp(s s':dO)(c:Nat):Prop where
 len:s'.sl.length=s.sl.length
 tr:s'.tr.length≤s.tr.length+c
 NI:∀(k:Nat) o',s'.sl[k]?=some o'→∃o,s.sl[k]?=some o∧o'.bd=o.bd∧o'.ty=o.ty
 ub:ub s'.sl=ub s.sl
theorem Kp.Ju{s s':dO}{c:Nat}(h:Kp s s' c){i v:Int}(e:Edge s'.sl i v):Edge s.sl i v:=by
 obtain⟨k,x,rfl,hx,hb,ho⟩:=e;obtain⟨o,hk,h1,h2⟩:=h.NI k x hx;exact⟨k,o,rfl,hk,by rw[←h1];exact hb,by rw[←h2];exact ho⟩
theorem Kp.set{s s':dO}{c:Nat}(h:Kp s s' c){k:Nat}{o x:Sl}(ho:s'.sl[k]?=some o)(hb:x.bd=o.bd)(ht:x.ty=o.ty):Kp s (gX s' k o x) (c+1) where
 len:=by rw[bX,List.length_set,h.len]
 tr:=by rw[nk];have:=h.tr;omega
 NI:=by
   intro j o' hj;rw[bX,List.getElem?_set]at hj;by_cases e:k=j
   · subst e;have hl:k<s'.sl.length:=by obtain⟨h,_⟩:=List.getElem?_eq_some_iff.1 ho;exact h
     rw[if_pos rfl,if_pos hl]at hj;cases hj;obtain⟨p,h1,h2,h3⟩:=h.NI k o ho;exact⟨p,h1,by rw[hb,h2],by rw[ht,h3]⟩
   ·rw[if_neg e]at hj;exact h.NI j o' hj
 ub:=by rw[bX,sP ho hb,h.ub]
theorem Kp.refl{s:dO}:Kp s s 0:=⟨rfl,by omega,fun k o h=>⟨o,h,rfl,rfl⟩,rfl⟩
theorem Kp.gY{s s':dO}{c d:Nat}(h:Kp s s' c)(hd:c≤d):Kp s s' d:=⟨h.len,by have:=h.tr;omega,h.NI,h.ub⟩
def oJ(n:Nat)(l:List Int):Nat:=(l.filter fun w:Int=>decide (w<(n:Int))).length
theorem Gc{n:Nat}{l:List Int}(hd:l.Nodup)(h0:∀w∈l,0≤w):oJ n l≤n:=by
 have h1:(l.filter fun w=>decide (w<(n:Int))).Nodup:=hd.filter _
 have h2:∀x∈(l.filter fun w=>decide (w<(n:Int))),x∈(List.range n).map (fun k:Nat=>(k:Int)):=by
   intro x hx;simp at hx;simp;exact⟨x.toNat,by have:=h0 x hx.1;omega,by have:=h0 x hx.1;omega⟩
 have:=gF h1 h2;simpa[oJ] using this
theorem Kp.NH{n M:Nat}{S:List Int}{s s':dO}{c:Nat}(I:Inv n M S s)(h:Kp s s' c)(hc:c≤n):s'.Ok n (M+n+10):=⟨by rw[h.len,I.len];omega,by have:=h.tr;have:=I.NG;have:0≤(n+2)*Lw.ub s.sl:=Nat.zero_le _;omega,by
 intro x hx;obtain⟨k,hk⟩:=List.mem_iff_getElem?.1 hx;obtain⟨o,ho,_,e⟩:=h.NI k x hk;rw[e];exact I.ok o (aR ho)⟩
theorem Gd{N M:Nat}{S:List Int}{s:dO}(I:Inv N M S s)(hN:N≤1000000)(hM:M≤100000000){i:Nat}{t:Ty}{v:Sl}{out:List Int}(hr:Sm out)(hd:out.Nodup)(h0:∀w∈out,0≤w):∀(n k:Nat),out.length-k=n→k≤out.length→∀s':dO,Kp s s' (oJ N (out.take k))→∃s2,Kp s s2 (oJ N out) ∧
   cl AP g398L2 ⟨[(1,.pv (vI i)),(3,.az 3 0),(5,.az 5 0),(6,.az 6 0),(8,.az 8 0),(9,.pv (.au (out.map vI))),(18,.pv (vI k))],[(3,sC s'),(5,tC t),(6,zS),(8,qL v)],[],[0,0]⟩ =
     some (.exit 4,⟨[(1,.pv (vI i)),(3,.az 3 0),(5,.az 5 0),(6,.az 6 0),(8,.az 8 0),(9,.pv (.au (out.map vI))),(18,.pv (vI out.length)),(92,.pv (.bool false))],[(3,sC s2),(5,tC t),(6,zS),(8,qL v)],[],[0,0]⟩)
 |0,k,hn,hk,s',hK=>by
   have:k=out.length:=by omega
   subst this;refine⟨s',by simpa using hK,?_⟩;rw[g398L2e];simp[g398B2,sC,tC,zS,qL]
 |n+1,k,hn,hk,s',hK=>by
   have hk:k<out.length:=(by omega);obtain⟨x,hx⟩:=aV hk;have hx0:=h0 x (aR hx);have hl:=hK.len;rw[I.len]at hl;have htk:out.take (k+1)=out.take k++[x]:=(by rw[List.take_add_one,hx];rfl);have hsub:oJ N (out.take k)≤N:=Gc (hd.sublist (List.take_sublist _ _)) (fun w hw=>h0 w (List.mem_of_mem_take hw));have hs:=hr;unfold Sm at hr;by_cases hg:x<(N:Int)
   · obtain⟨j,rfl⟩:∃j:Nat,x=j:=⟨x.toNat,by omega⟩;have hj:j<s'.sl.length:=by omega
     obtain⟨o,ho⟩:=aV hj
     have hcnt:oJ N (out.take (k+1))=oJ N (out.take k)+1:=by
       rw[htk];simp[oJ,hg]
     by_cases hh:v.home<o.home
     ·have c:=c393 (hK.NH I hsub) hN (by omega) ho ⟨o.bd,o.ty,v.home,o.base⟩;have hK2:=hK.set (x:=⟨o.bd,o.ty,v.home,o.base⟩) ho rfl rfl;rw[←hcnt]at hK2;obtain⟨s2,h2,e⟩:=Gd (i:=i) (t:=t) (v:=v) I hN hM hs hd h0 n (k+1) (by omega) (by omega) _ hK2;refine⟨s2,h2,?_⟩;generalize gX s' j o ⟨o.bd,o.ty,v.home,o.base⟩=s1 at *;rw[g398L2e]at e⊢;simp[sC,tC,zS,qL]at e;simp at c;simp (disch:=omega) [-getElem?_pos,g398B2,sC,tC,zS,qL,hx,hk,hj,ho,hh,c,ah];rw[g398L2e];simp[e]
     ·have hK2:Kp s s' (oJ N (out.take (k+1))):=hK.gY (by omega);obtain⟨s2,h2,e⟩:=Gd (i:=i) (t:=t) (v:=v) I hN hM hs hd h0 n (k+1) (by omega) (by omega) s' hK2;refine⟨s2,h2,?_⟩;rw[g398L2e]at e⊢;simp[sC,tC,zS,qL]at e;simp (disch:=omega) [-getElem?_pos,g398B2,sC,tC,zS,qL,hx,hk,hj,ho,hh,ah];rw[g398L2e];simp[e]
   · have hcnt:oJ N (out.take (k+1))=oJ N (out.take k):=by
       rw[htk];simp[oJ,hg]
     have hK2:Kp s s' (oJ N (out.take (k+1))):=(by rw[hcnt];exact hK);obtain⟨s2,h2,e⟩:=Gd (i:=i) (t:=t) (v:=v) I hN hM hs hd h0 n (k+1) (by omega) (by omega) s' hK2;refine⟨s2,h2,?_⟩;have hg':¬x<(s'.sl.length:Int):=(by omega);rw[g398L2e]at e⊢;simp[sC,tC,zS,qL]at e;simp (disch:=omega) [-getElem?_pos,g398B2,sC,tC,zS,qL,hx,hk,hg',ah];rw[g398L2e];simp[e]
def UR(n M:Nat)(S:List Int)(s s':dO)(e:Int):Prop:=e=0→Inv n M S s'∧(s'=s∨ub s'.sl<ub s.sl)
theorem BQ{n M:Nat}{S:List Int}{s s2:dO}(I:Inv n M S s){i:Nat}{v:Sl}{t:Ty}(hv:s.sl[i]?=some v)(fi:¬qJ s.sl (i:Int)){c:Nat}(hK:Kp s s2 c)(hc:c≤n){o:Sl}(ho:s2.sl[i]?=some o)(ht:t.Ok)(hwf:t.Kw)(hw:∀w,iA t w→w∈S)(hnr:¬RT s.sl t i){x:Sl}(hb:x.bd=true)(hx:x.ty=t) :
   Inv n M S (gX s2 i o x)∧ub (gX s2 i o x).sl<ub s.sl:=by
 have hob:o.bd=false:=by
   obtain⟨o2,h1,h2,_⟩:=hK.NI i o ho;rw[hv]at h1;cases h1;rw[h2];exact yW hv fi
 have u2:=yS ho hob hb;have hu:=hK.ub;have hp:=I.NG;have hl:=I.len;refine⟨⟨by rw[bX,List.length_set,hK.len,I.len],?_,?_,?_,?_,?_⟩,?_⟩
 · rw[nk,bX];have:(n+2)*ub s.sl=(n+2)*ub (s2.sl.set i x)+(n+2):=by rw[←hu,←u2,Nat.mul_add,Nat.mul_one]
   have:=hK.tr;omega
 · intro y hy;rw[bX]at hy;rcases mem_set hy with rfl|hy
   ·rw[hx];exact ht
   ·obtain⟨k,hk⟩:=List.mem_iff_getElem?.1 hy;obtain⟨p,h1,_,h3⟩:=hK.NI k y hk;rw[h3];exact I.ok p (aR h1)
 · intro y hy w hw2;rw[bX]at hy;rcases mem_set hy with rfl|hy
   ·rw[hx]at hw2;exact hw w hw2
   ·obtain⟨k,hk⟩:=List.mem_iff_getElem?.1 hy;obtain⟨p,h1,_,h3⟩:=hK.NI k y hk;rw[h3]at hw2;exact I.nj p (aR h1) w hw2
 · rw[bX];refine BL (I.MG.of fun a b=>hK.Ju) ?_;intro w ho2 hr;rw[hx]at ho2;refine hnr ⟨w,ho2,?_⟩
   have key:∀{a b:Int},Gb s2.sl a b→Gb s.sl a b:=by
     intro a b h;induction h with
     |refl=>exact .refl _
     |step e _ ih=>exact .step (hK.Ju e) ih
   exact key hr
 · intro y hy;rw[bX]at hy;rcases mem_set hy with rfl|hy
   ·rw[hx];exact hwf
   ·obtain⟨k,hk⟩:=List.mem_iff_getElem?.1 hy;obtain⟨p,h1,_,h3⟩:=hK.NI k y hk;rw[h3];exact I.wf p (aR h1)
 ·rw[bX];omega
theorem c398{n M:Nat}{S:List Int}{s:dO}(I:Inv n M S s)(hn:n≤1000000)(hM:M≤100000000)(hf:S.length<1099511627776)(hS0:∀w∈S,0≤w){i:Nat}(hi:i<n)(fi:¬qJ s.sl (i:Int)){t:Ty}(ht:t.Ok)(hwf:t.Kw)(hw:∀w,iA t w→w∈S) :
   ∃s' e,(aC AP).p 398 [s.pv,vI i,t.pv]=some [s'.pv,vI e]∧UR n M S s s' e:=by
 have hl:=I.len;have his:i<s.sl.length:=by omega
 obtain⟨v,hv⟩:=aV his;obtain⟨out,k1,hc,hall⟩:=c372 (by omega) I.MG I.ok I.nj hf ht hw;have hsm:=hc.len;have k2:=c95 hsm (y:=(i:Int));obtain⟨a,b,ar,k3,_⟩:=c194g ht;have hsl:Sm s.sl:=by unfold Sm;omega
 obtain⟨u,bb,k4,hu,hun⟩:=c358 hsl I.ok ht;obtain⟨r,k5,hr⟩:=c59t hu hun;have A:=Qm (s:=s) (i:=i) (t:=t) (v:=v) (out:=out) hr _ 0 rfl (by omega);have B:=Qn (s:=s) (i:=i) (t:=t) (v:=v) (out:=out) hsm _ 0 rfl (by omega);have h0:∀w∈out,0≤w:=fun w hw=>hS0 w (hc.sub w hw)
 obtain⟨s2,hK,C⟩:=Gd (i:=i) (t:=t) (v:=v) I hn hM hsm hc.nodup h0 _ 0 rfl (by omega) s (by simpa[oJ] using Kp.refl);have hcn:oJ n out≤n:=Gc hc.nodup h0;have hi2:i<s2.sl.length:=by rw[hK.len];exact his
 obtain⟨o,ho⟩:=aV hi2;let x:Sl:=⟨true,t,v.home,v.base⟩;have k6:=c393 (hK.NH I hcn) hn (by omega) ho x;by_cases q1:(i:Int)∈out
 ·rw[decide_eq_true q1]at k2;refine⟨s,12,?_,by intro h;cases h⟩;rw[ae (af:=g398) rfl rfl (by decide)];simp at k1;simp (disch:=omega) [-getElem?_pos,g398,his,hv,k1,k2]
 · rw[decide_eq_false q1]at k2;have hnr:¬RT s.sl t i:=fun h=>q1 (hall i h fi)
   have J:=BQ I (x:=x) hv fi hK hcn ho ht hwf hw hnr rfl rfl;generalize gX s2 i o x=s3 at *;simp[x]at k6;simp at k1 k3 k4 k5;rw[g398L0e]at A;rw[g398L1e]at B;rw[g398L2e]at C;simp[sC,tC,zS,qL,MI]at A B C;by_cases q2:ar=true∧v.base=true
   ·obtain⟨q3,q4⟩:=q2;refine⟨s,14,?_,by intro h;cases h⟩;rw[ae (af:=g398) rfl rfl (by decide)];simp (disch:=omega) [-getElem?_pos,g398,his,hv,k1,k2,k3,q3,q4]
   · rcases A with⟨q,A⟩|A
     · refine⟨s,13,?_,by intro h;cases h⟩;rw[ae (af:=g398) rfl rfl (by decide)];cases ar with
       |true=>
         have q4:v.base=false:=by cases e:v.base with|false=>rfl|true=>exact absurd ⟨rfl,e⟩ q2
         simp[q4]at A;simp (disch:=omega) [-getElem?_pos,g398,his,hv,k1,k2,k3,k4,k5,q4,g398L0e,A]
       |false=>simp (disch:=omega) [-getElem?_pos,g398,his,hv,k1,k2,k3,k4,k5,g398L0e,A]
     · rcases B with⟨q,B⟩|B
       · refine⟨s,13,?_,by intro h;cases h⟩;rw[ae (af:=g398) rfl rfl (by decide)];cases ar with
         |true=>
           have q4:v.base=false:=by cases e:v.base with|false=>rfl|true=>exact absurd ⟨rfl,e⟩ q2
           simp[q4]at A B;simp (disch:=omega) [-getElem?_pos,g398,his,hv,k1,k2,k3,k4,k5,q4,g398L0e,A,g398L1e,B]
         |false=>simp (disch:=omega) [-getElem?_pos,g398,his,hv,k1,k2,k3,k4,k5,g398L0e,A,g398L1e,B]
       · refine⟨s3,0,?_,fun _=>⟨J.1,.inr J.2⟩⟩;rw[ae (af:=g398) rfl rfl (by decide)];cases ar with
         |true=>
           have q4:v.base=false:=by cases e:v.base with|false=>rfl|true=>exact absurd ⟨rfl,e⟩ q2
           simp[q4]at A B C k6;simp (disch:=omega) [-getElem?_pos,g398,his,hv,k1,k2,k3,k4,k5,q4,g398L0e,A,g398L1e,B,g398L2e,C,k6]
         |false=>simp (disch:=omega) [-getElem?_pos,g398,his,hv,k1,k2,k3,k4,k5,g398L0e,A,g398L1e,B,g398L2e,C,k6]
theorem BR{s:List Sl}{rk:Int→Nat}(hr:∀i v,Edge s i v→rk v<rk i):∀(m:Nat) (t:Ty),iL s (wk s m t)≠none→∃(i:Nat) (l:List Nat),t.kind=1∧t.id=i∧l.length=m∧(i::l).Pairwise (fun a b:Nat=>rk (b:Int)<rk (a:Int))∧∀a∈i::l,a<s.length
 |0,t,h=>by
   cases hb:iL s t with
   |none=>exact absurd hb h
   |some x=>
     obtain⟨k,i,hi,hx,_⟩:=gA hb;have hl:i<s.length:=by obtain⟨h,_⟩:=List.getElem?_eq_some_iff.1 hx;exact h
     exact⟨i,[],k,hi,rfl,by simp,by simpa using hl⟩
 |m+1,t,h=>by
   cases hb:iL s t with
   |none=>
     have:wk s (m+1) t=t:=by simp[wk,hb]
     rw[this]at h;exact absurd hb h
   |some x=>
     obtain⟨k,i,hi,hx,hbd⟩:=gA hb;have hl:i<s.length:=by obtain⟨h,_⟩:=List.getElem?_eq_some_iff.1 hx;exact h
     have e:wk s (m+1) t=wk s m x.ty:=(by simp[wk,hb]);rw[e]at h;obtain⟨j,l,k2,hj,hn,hp,ha⟩:=BR hr m x.ty h;have ed:Edge s (i:Int) (j:Int):=⟨i,x,rfl,hx,hbd,by rw[←hj];exact .var k2⟩;have hlt:=hr _ _ ed;refine⟨i,j::l,k,hi,by simp[hn],?_,?_⟩
     · rw[List.pairwise_cons];refine⟨?_,hp⟩;intro b hb;simp only[List.mem_cons]at hb;rcases hb with rfl|hb
       ·exact hlt
       ·have:=(List.pairwise_cons.1 hp).1 b hb;omega
     · intro a hm;simp only[List.mem_cons]at hm;rcases hm with rfl|hm
       ·exact hl
       ·exact ha a (by simpa using hm)
theorem u_{s:List Sl}(h:JV s){t:Ty}:iL s (lA s t)=none:=by
 obtain⟨rk,hr⟩:=h;cases hb:iL s (lA s t) with
 |none=>rfl
 |some x=>
   exfalso;obtain⟨i,l,_,_,hl,hp,ha⟩:=BR hr (s.length+1) t (by unfold lA at hb;rw[hb];simp);have hd:(i::l).Nodup:=hp.imp (fun {a b} h e=>by rw[e]at h;omega);have:=gF hd (S:=List.range s.length) (fun a h=>by simpa using ha a h);simp at this;omega
theorem lB{s:List Sl}{S:List Int}(hs:∀x∈s,∀w,iA x.ty w→w∈S):∀{m:Nat} {t:Ty},(∀w,iA t w→w∈S)→∀w,iA (wk s m t) w→w∈S
 |0,t,h=>h
 |m+1,t,h=>by
   unfold wk;split
   ·rename_i x hx;obtain⟨_,i,_,hi,_⟩:=gA hx;exact lB hs (hs x (aR hi))
   ·exact h
theorem UY{n M:Nat}{S:List Int}{s:dO}{x y:Ty}(hx:x.Ok)(hxy:x.args.length=y.args.length)
   (H:∀s',Inv n M S s'→(s'=s∨ub s'.sl<ub s.sl)→∀(i:Nat) a b,x.args[i]?=some a→y.args[i]?=some b→∃s2 e,(aC AP).p 391 [s'.pv,a.pv,b.pv]=some [s2.pv,vI e]∧UR n M S s' s2 e) :
   ∀(m i:Nat),x.args.length-i=m→i≤x.args.length→∀(s':dO) (e:Int),UR n M S s s' e→∃(s2:dO) (e2:Int) (i2:Nat),
   cl AP g391L0 ⟨[(3,.az 3 0),(6,.az 6 0),(8,.az 8 0),(9,.az 9 0),(10,.pv (vI e)),(11,.pv (vI i))],[(3,sC s'),(6,zS),(8,tC x),(9,tC y)],[],[0,0]⟩ =
     some (.exit 1,⟨[(3,.az 3 0),(6,.az 6 0),(8,.az 8 0),(9,.az 9 0),(10,.pv (vI e2)),(11,.pv (vI i2)),(109,.pv (.bool false))],[(3,sC s2),(6,zS),(8,tC x),(9,tC y)],[],[0,0]⟩)∧UR n M S s s2 e2
 |0,i,hm,hi,s',e,h=>by
   have:i=x.args.length:=by omega
   subst this;refine⟨s',e,x.args.length,?_,h⟩;rw[g391L0e];simp[g391B0,sC,tC,zS]
 |m+1,i,hm,hi,s',e,h=>by
   have hi:i<x.args.length:=(by omega);obtain⟨a,ha⟩:=aV hi;have hiy:i<y.args.length:=(by omega);obtain⟨b,hb⟩:=aV hiy;have hsm:=hx.sm;unfold Sm at hsm;by_cases he:e=0
   · obtain⟨I,hu⟩:=h he;obtain⟨s1,e1,c,h1⟩:=H s' I hu i a b ha hb
     have h2:UR n M S s s1 e1:=fun q=>by
       obtain⟨J,ju⟩:=h1 q;refine⟨J,?_⟩;rcases ju with rfl|ju
       ·exact hu
       · rcases hu with rfl|hu
         ·exact .inr ju
         ·exact .inr (by omega)
     obtain⟨s2,e2,i2,eq,h3⟩:=UY hx hxy H m (i+1) (by omega) (by omega) s1 e1 h2;refine⟨s2,e2,i2,?_,h3⟩;rw[g391L0e]at eq⊢;simp[sC,tC,zS]at eq;simp at c;simp (disch:=omega) [-getElem?_pos,g391B0,sC,tC,zS,hi,hiy,ha,hb,he,c,ah];rw[g391L0e];simp[eq]
   ·refine⟨s',e,i,?_,h⟩;rw[g391L0e];simp (disch:=omega) [-getElem?_pos,g391B0,sC,tC,zS,hi,he]
theorem oK{s:List Sl}{t:Ty}(h:nN s t=true):t.kind=1∧∃i:Nat,t.id=i∧i<s.length:=by
 simp[nN]at h;exact⟨h.1,t.id.toNat,by omega,by omega⟩
theorem pR{s:List Sl}(hs:∀x∈s,x.ty.Kw):∀{m:Nat} {t:Ty},t.Kw→(wk s m t).Kw
 |0,t,h=>h
 |m+1,t,h=>by
   unfold wk;split
   ·rename_i x hx;obtain⟨_,i,_,hi,_⟩:=gA hx;exact pR hs (hs x (aR hi))
   ·exact h
theorem UZ{n M:Nat}{S:List Int}{s:dO}(I:Inv n M S s)(hn:n≤1000000)(hM:M≤100000000)(hf:S.length<1099511627776)(hS0:∀w∈S,0≤w){a b:Ty}(ha:a.Ok)(hb:b.Ok)(wa:a.Kw)(wb:b.Kw)(oa:∀w,iA a w→w∈S)(ob:∀w,iA b w→w∈S){r1:Nat}(k1:(aC AP).p 355 [s.pv,a.pv,vI (200:Nat)]=some [vI r1])
   (H:r1≤200→∀s',Inv n M S s'→(s'=s∨ub s'.sl<ub s.sl)→∀(i:Nat) x y,(lA s.sl a).args[i]?=some x→(lA s.sl b).args[i]?=some y→∃s2 e,(aC AP).p 391 [s'.pv,x.pv,y.pv]=some [s2.pv,vI e]∧UR n M S s' s2 e) :
   ∃s' e,(aC AP).p 391 [s.pv,a.pv,b.pv]=some [s'.pv,vI e]∧UR n M S s s' e:=by
 have hl:=I.len;have hsm:Sm s.sl:=by unfold Sm;omega
 obtain⟨r2,k2,_,_,_⟩:=c355 hsm I.ok (m:=200) (by omega) hb;have k3:=c386 hsm (t:=a);have k4:=c386 hsm (t:=b);have xf:=u_ I.MG (t:=a);have yf:=u_ I.MG (t:=b);have xO:(lA s.sl a).Ok:=mF I.ok ha;have yO:(lA s.sl b).Ok:=mF I.ok hb;have xo:∀w,iA (lA s.sl a) w→w∈S:=lB I.nj oa;have yo:∀w,iA (lA s.sl b) w→w∈S:=lB I.nj ob
 change (aC AP).p 386 [s.pv,a.pv]=some [(lA s.sl a).pv]at k3
 change (aC AP).p 386 [s.pv,b.pv]=some [(lA s.sl b).pv]at k4
 have xw:(lA s.sl a).Kw:=pR I.wf wa;have yw:(lA s.sl b).Kw:=pR I.wf wb;generalize lA s.sl a=x at *;generalize lA s.sl b=y at *;have k5:=c396 (s:=s) (t:=x);have k6:=c396 (s:=s) (t:=y);simp at k1 k2 k3 k4;by_cases h1:200<r1
 · refine⟨s,15,?_,by intro h;cases h⟩;have h1':(200:Int)<r1:=by omega
   rw[ae (af:=g391) rfl rfl (by decide)];simp[g391,k1,h1']
 · have h1':¬(200:Int)<r1:=(by omega);have H:=H (by omega);by_cases h2:200<r2
   · refine⟨s,15,?_,by intro h;cases h⟩;have h2':(200:Int)<r2:=by omega
     rw[ae (af:=g391) rfl rfl (by decide)];simp[g391,k1,k2,h1',h2']
   · have h2':¬(200:Int)<r2:=(by omega);cases sx:nN s.sl x with
     |true=>
       obtain⟨xk,i,xi,hi⟩:=oK sx;have fi:¬qJ s.sl (i:Int):=by rw[←xi];exact jF xk xf
       rw[sx]at k5;cases sy:nN s.sl y with
       |true=>
         obtain⟨yk,j,yj,hj⟩:=oK sy;have fj:¬qJ s.sl (j:Int):=by rw[←yj];exact jF yk yf
         rw[sy]at k6;obtain⟨s',c,J⟩:=c397 I hn hM xi yj (by omega) (by omega) fi fj (by rw[←xi];exact xo _ (.var xk)) (by rw[←yj];exact yo _ (.var yk));refine⟨s',0,?_,fun _=>J⟩;simp at k5 k6 c;rw[ae (af:=g391) rfl rfl (by decide)];simp[g391,k1,k2,k3,k4,k5,k6,h1',h2',c]
       |false=>
         rw[sy]at k6;obtain⟨s',e,c,J⟩:=c398 I hn hM hf hS0 (by omega) fi yO yw yo;refine⟨s',e,?_,J⟩;simp[xi]at k3 k5 k6 c;rw[ae (af:=g391) rfl rfl (by decide)];simp[g391,k1,k2,k3,k4,k5,k6,h1',h2',xi,c]
     |false=>
       rw[sx]at k5;cases sy:nN s.sl y with
       |true=>
         obtain⟨yk,j,yj,hj⟩:=oK sy;have fj:¬qJ s.sl (j:Int):=by rw[←yj];exact jF yk yf
         rw[sy]at k6;obtain⟨s',e,c,J⟩:=c398 I hn hM hf hS0 (by omega) fj xO xw xo;refine⟨s',e,?_,J⟩;simp[yj]at k4 k5 k6 c;rw[ae (af:=g391) rfl rfl (by decide)];simp[g391,k1,k2,k3,k4,k5,k6,h1',h2',yj,c]
       |false=>
         rw[sy]at k6;simp at k5 k6;by_cases q:x.kind=y.kind∧x.name=y.name∧x.id=y.id∧x.home=y.home∧x.args.length=y.args.length
         ·obtain⟨q1,q2,q3,q4,q5⟩:=q;obtain⟨s2,e2,i2,eq,U⟩:=UY xO q5 H _ 0 rfl (by omega) s 0 (fun _=>⟨I,.inl rfl⟩);refine⟨s2,e2,?_,U⟩;rw[g391L0e]at eq;simp[sC,tC,zS]at eq;rw[ae (af:=g391) rfl rfl (by decide)];simp[g391,k1,k2,k3,k4,k5,k6,h1',h2'];simp only[q1,q2,q3,q4,q5]at *;simp[g391L0e,eq]
         · refine⟨s,11,?_,by intro h;cases h⟩;rw[ae (af:=g391) rfl rfl (by decide)];by_cases q1:x.kind=y.kind
           · have p1:=eq_true q1;by_cases q2:x.name=y.name
             · have p2:=eq_true q2;by_cases q3:x.id=y.id
               · have p3:=eq_true q3;by_cases q4:x.home=y.home
                 · have p4:=eq_true q4;have q5:¬x.args.length=y.args.length:=fun e=>q ⟨q1,q2,q3,q4,e⟩
                   have q6:¬(x.args.length:Int)=y.args.length:=(by omega);clear q q1 q2 q3 q4;simp[g391,k1,k2,k3,k4,k5,k6,h1',h2',p1,p2,p3,p4,q5,q6]
                 ·clear q q1 q2 q3;simp[g391,k1,k2,k3,k4,k5,k6,h1',h2',p1,p2,p3,q4]
               ·clear q q1 q2;simp[g391,k1,k2,k3,k4,k5,k6,h1',h2',p1,p2,q3]
             ·clear q q1;simp[g391,k1,k2,k3,k4,k5,k6,h1',h2',p1,q2]
           ·simp[g391,k1,k2,k3,k4,k5,k6,h1',h2',q1]
theorem sR{S:List Int}{t:Ty}(hw:t.Kw)(h:∀w,iA t w→w∈S):∀z∈t.args,∀w,iA z w→w∈S:=by
 intro z hz w ho;by_cases k:t.kind=1
 ·rw[hw.var k]at hz;cases hz
 ·exact h w (.arg k hz ho)
def R0(n M:Nat)(S:List Int)(s:dO):Prop:=∀a b:Ty,a.Ok→b.Ok→a.Kw→b.Kw→(∀w,iA a w→w∈S)→(∀w,iA b w→w∈S)→∃s2 e,(aC AP).p 391 [s.pv,a.pv,b.pv]=some [s2.pv,vI e]∧UR n M S s s2 e
theorem c391r{n M:Nat}{S:List Int}{s:dO}(I:Inv n M S s)(hn:n≤1000000)(hM:M≤100000000)(hf:S.length<1099511627776)(hS0:∀w∈S,0≤w)
   (IH:∀s':dO,ub s'.sl<ub s.sl→Inv n M S s'→R0 n M S s') (r:Nat) :
   ∀a b:Ty,Tr s.sl a r→a.Ok→b.Ok→a.Kw→b.Kw→(∀w,iA a w→w∈S)→(∀w,iA b w→w∈S)→∃s2 e,(aC AP).p 391 [s.pv,a.pv,b.pv]=some [s2.pv,vI e]∧UR n M S s s2 e:=by
 induction r using Nat.strongRecOn with
 |ind r ih=>
   intro a b ht ha hb wa wb oa ob;have hl:=I.len;have hsm:Sm s.sl:=by unfold Sm;omega
   obtain⟨r1,k1,_,_,_⟩:=c355 hsm I.ok (m:=200) (by omega) ha;obtain⟨ns,hT,hr⟩:=ht.inv;have xO:(lA s.sl a).Ok:=mF I.ok ha;have yO:(lA s.sl b).Ok:=mF I.ok hb;have xw:(lA s.sl a).Kw:=pR I.wf wa;have yw:(lA s.sl b).Kw:=pR I.wf wb;have xo:=sR xw (lB I.nj oa:∀w,iA (lA s.sl a) w→w∈S);have yo:=sR yw (lB I.nj ob:∀w,iA (lA s.sl b) w→w∈S);refine UZ I hn hM hf hS0 ha hb wa wb oa ob k1 ?_;intro _ s' I' hu i x y hx hy;have hi:i<(lA s.sl a).args.length:=by obtain⟨h,_⟩:=List.getElem?_eq_some_iff.1 hx;exact h
   have mx:=aR hx;have my:=aR hy;rcases hu with rfl|hu
   ·obtain⟨m,hm⟩:=aV (l:=ns) (i:=i) (by rw[hT.1];exact hi);have:=yR hm;exact ih m (by omega) x y (hT.2 i x m hx hm) (xO.gw x mx) (yO.gw y my) (xw.gw x mx) (yw.gw y my) (xo x mx) (yo y my)
   ·exact IH s' hu I' x y (xO.gw x mx) (yO.gw y my) (xw.gw x mx) (yw.gw y my) (xo x mx) (yo y my)
theorem c391{n M:Nat}{S:List Int}(hn:n≤1000000)(hM:M≤100000000)(hf:S.length<1099511627776)(hS0:∀w∈S,0≤w)(u:Nat):∀s:dO,ub s.sl=u→Inv n M S s→R0 n M S s:=by
 induction u using Nat.strongRecOn with
 |ind u IH=>
   intro s hu I a b ha hb wa wb oa ob;have hl:=I.len;have hsm:Sm s.sl:=by unfold Sm;omega
   have IH':∀s':dO,ub s'.sl<ub s.sl→Inv n M S s'→R0 n M S s':=fun s' h I'=>IH _ (by omega) s' rfl I';obtain⟨r1,k1,_,_,ht⟩:=c355 hsm I.ok (m:=200) (by omega) ha;have xO:(lA s.sl a).Ok:=mF I.ok ha
   have yO:(lA s.sl b).Ok:=mF I.ok hb;have xw:(lA s.sl a).Kw:=pR I.wf wa;have yw:(lA s.sl b).Kw:=pR I.wf wb;have xo:=sR xw (lB I.nj oa:∀w,iA (lA s.sl a) w→w∈S);have yo:=sR yw (lB I.nj ob:∀w,iA (lA s.sl b) w→w∈S);refine UZ I hn hM hf hS0 ha hb wa wb oa ob k1 ?_;intro h200 s' I' hu i x y hx hy;have hi:i<(lA s.sl a).args.length:=by obtain⟨h,_⟩:=List.getElem?_eq_some_iff.1 hx;exact h
   have mx:=aR hx;have my:=aR hy;rcases hu with rfl|hu
   ·obtain⟨ns,hT,hr⟩:=(ht h200).inv;obtain⟨m,hm⟩:=aV (l:=ns) (i:=i) (by rw[hT.1];exact hi);exact c391r I' hn hM hf hS0 IH' m x y (hT.2 i x m hx hm) (xO.gw x mx) (yO.gw y my) (xw.gw x mx) (yw.gw y my) (xo x mx) (yo y my)
   ·exact IH' s' hu I' x y (xO.gw x mx) (yO.gw y my) (xw.gw x mx) (yw.gw y my) (xo x mx) (yo y my)
structure Fit(S:List Int)(t:Ty):Prop where
 ok:t.Ok
 wf:t.Kw
 nj:∀w,iA t w→w∈S
structure WM(n M:Nat)(S:List Int):Prop where
 n:n≤1000000
 m:M≤100000000
 Jn:S.length<1099511627776
 nn:∀w∈S,0≤w
theorem c385{n M:Nat}{S:List Int}(N:WM n M S){s:dO}(I:Inv n M S s){a b:Ty}(fa:Fit S a)(fb:Fit S b):∃s' e,(aC AP).p 385 [s.pv,a.pv,b.pv]=some [s'.pv,vI e]∧Inv n M S s':=by
 obtain⟨s',e,c,U⟩:=c391 N.n N.m N.Jn N.nn _ s rfl I a b fa.ok fb.ok fa.wf fb.wf fa.nj fb.nj;simp at c;by_cases he:e=0
 ·refine⟨s',0,?_,(U he).1⟩;subst he;rw[ae (af:=g385) rfl rfl (by decide)];simp[g385,c]
 ·refine⟨s,e,?_,I⟩;rw[ae (af:=g385) rfl rfl (by decide)];simp[g385,c,he]
theorem MJ{n M:Nat}{S:List Int}{s:dO}(I:Inv n M S s){i:Nat}{o x:Sl}(ho:s.sl[i]?=some o)(hb:x.bd=o.bd)(ht:x.ty=o.ty):Inv n (M+1) S (gX s i o x) where
 len:=by rw[bX,List.length_set,I.len]
 NG:=by rw[nk,bX,sP ho hb];have:=I.NG;omega
 ok:=by
   intro y hy;rw[bX]at hy;rcases mem_set hy with rfl|hy
   ·rw[ht];exact I.ok o (aR ho)
   ·exact I.ok y hy
 nj:=by
   intro y hy;rw[bX]at hy;rcases mem_set hy with rfl|hy
   ·rw[ht];exact I.nj o (aR ho)
   ·exact I.nj y hy
 MG:=by rw[bX];exact BK I.MG ho hb ht
 wf:=by
   intro y hy;rw[bX]at hy;rcases mem_set hy with rfl|hy
   ·rw[ht];exact I.wf o (aR ho)
   ·exact I.wf y hy
theorem Inv.gY{n M M':Nat}{S S':List Int}{s:dO}(I:Inv n M S s)(h:M≤M')(hS:∀w∈S,w∈S'):Inv n M' S' s:=⟨I.len,by have:=I.NG;omega,I.ok,fun x hx w ho=>hS w (I.nj x hx w ho),I.MG,I.wf⟩
theorem c394{n M:Nat}{S:List Int}(N:WM n M S)(hS:∀w∈S,w<n){s:dO}(I:Inv n M S s){t:Ty}(ft:Fit S t):∃s',(aC AP).p 394 [s.pv,t.pv]=some [s'.pv]∧Inv n (M+1) S s':=by
 have hl:=I.len;have hn:=N.n;have hM:=N.m;have hsm:Sm s.sl:=by unfold Sm;omega
 have k3:=c386 hsm (t:=t);have xo:∀w,iA (wk s.sl (s.sl.length+1) t) w→w∈S:=lB I.nj ft.nj;generalize wk s.sl (s.sl.length+1) t=x at *;by_cases k:x.kind=1
 ·have ho:=xo _ (.var k);have h0:=N.nn _ ho;have h1:=hS _ ho;obtain⟨i,hi⟩:∃i:Nat,x.id=i:=⟨x.id.toNat,by omega⟩;have hil:i<s.sl.length:=(by omega);obtain⟨o,hoo⟩:=aV hil;have c:=c393 I.NH hn (by omega) hoo ⟨o.bd,o.ty,o.home,true⟩;refine⟨_,?_,MJ I hoo (x:=⟨o.bd,o.ty,o.home,true⟩) rfl rfl⟩;generalize gX s i o ⟨o.bd,o.ty,o.home,true⟩=s1 at *;simp[k,hi]at k3;simp at c;rw[ae (af:=g394) rfl rfl (by decide)];simp (disch:=omega) [-getElem?_pos,g394,k3,hil,hoo,c]
 ·refine⟨s,?_,I.gY (by omega) (fun _ h=>h)⟩;simp at k3;rw[ae (af:=g394) rfl rfl (by decide)];simp[g394,k3,k]
def eJ(n:Nat):List Int:=(List.range n).map fun k:Nat=>(k:Int)
theorem eM{n:Nat}{w:Int}:w∈eJ n↔0≤w∧w<n:=by
 simp only[eJ,List.mem_map,List.mem_range];constructor
 ·rintro⟨k,h,rfl⟩;omega
 ·intro h;exact⟨w.toNat,by omega,by omega⟩
theorem R1{n M:Nat}(hn:n≤1000000)(hM:M≤100000000):WM n M (eJ n):=⟨hn,hM,by simp[eJ];omega,fun w h=>(eM.1 h).1⟩
theorem wX{n M:Nat}{s:dO}(I:Inv n M (eJ n) s)(home:Int)(b:Bool){M':Nat}(hM:M+ub s.sl+n+4≤M'):Inv (n+1) M' (eJ (n+1)) (cV s home b) where
 len:=by simp[cV,I.len]
 NG:=by
   have:=I.NG;have hu:ub (cV s home b).sl=ub s.sl+1:=by simp[cV,ub,List.countP_append]
   have ht:(cV s home b).tr.length=s.tr.length+1:=(by simp[cV]);rw[hu,ht];have:(n+1+2)*(ub s.sl+1)=(n+2)*ub s.sl+ub s.sl+n+3:=(by rw[Nat.mul_add,Nat.add_right_comm n 1 2,Nat.add_mul (n+2) 1];omega);omega
 ok:=by
   intro x hx;simp[cV]at hx;rcases hx with hx|rfl
   ·exact I.ok x hx
   ·exact cI rfl
 nj:=by
   intro x hx w ho;simp[cV]at hx;rcases hx with hx|rfl
   ·have:=eM.1 (I.nj x hx w ho);exact eM.2 (by omega)
   · cases ho with
     |var q=>simp[bq]at q
     |arg _ ha _=>simp[bq]at ha
 MG:=Mz I.MG rfl
 wf:=by
   intro x hx;simp[cV]at hx;rcases hx with hx|rfl
   ·exact I.wf x hx
   ·exact⟨by simp[bq],by simp[bq],by simp[bq]⟩
mutual
def Ty.mJ(l:List bt):Ty→Ty
 |⟨k,n,i,h,as⟩=>if k=5∧0≤pK l n then cy (pK l n) else ⟨k,n,i,h,Ty.MK l as⟩
def Ty.MK(l:List bt):List Ty→List Ty
 |[]=>[]
 |a::r=>a.mJ l::Ty.MK l r
end
theorem Ty.BS(l:List bt):∀as:List Ty,Ty.MK l as=as.map (Ty.mJ l)
 |[]=>by simp[Ty.MK]
 |a::r=>by simp[Ty.MK,Ty.BS l r]
theorem Ty.yX(l:List bt)(t:Ty):t.mJ l=if t.kind=5∧0≤pK l t.name then cy (pK l t.name) else ⟨t.kind,t.name,t.id,t.home,t.args.map (Ty.mJ l)⟩:=by
 cases t;simp only[Ty.mJ,Ty.BS]
theorem U0{l:List bt}{t:Ty}(hS:Sm t.args)(h:∀x∈t.args,(aC AP).p 198 [x.pv,.au (l.map .str)]=some [(x.mJ l).pv]):∀(n i:Nat),t.args.length-i=n→i≤t.args.length→∀acc:List Ty,acc=(t.args.take i).map (Ty.mJ l) →
   cl AP g198L0 ⟨[(1,.pv (.au (l.map .str))),(2,.az 2 0),(4,.az 4 0),(6,.az 6 0),(7,.pv (vI i))],
     [(2,RI t),(4,[.pv (vI 0),.pv (.str []),.pv (vI 0),.pv (vI 0),.own [] 0]),(6,[.pv (vI t.kind),.pv (.str t.name),.pv (vI t.id),.pv (vI t.home),.own (acc.map Ty.pv) 1])],[],[0,acc.length]⟩ =
     some (.exit 0,⟨[(1,.pv (.au (l.map .str))),(2,.az 2 0),(4,.az 4 0),(6,.az 6 0),(7,.pv (vI t.args.length)),(26,.pv (.bool false))],
     [(2,RI t),(4,[.pv (vI 0),.pv (.str []),.pv (vI 0),.pv (vI 0),.own [] 0]),(6,[.pv (vI t.kind),.pv (.str t.name),.pv (vI t.id),.pv (vI t.home),.own ((t.args.map (Ty.mJ l)).map Ty.pv) 1])],[],[0,t.args.length]⟩)
 |0,i,hn,hi,acc,ha=>by
   have:i=t.args.length:=by omega
   subst this;subst ha;rw[g198L0e];simp[g198B0]
 |n+1,i,hn,hi,acc,ha=>by
   have hi:i<t.args.length:=(by omega);obtain⟨x,hx⟩:=aV hi;unfold Sm at hS;have hb:(acc.length+1)*64≤140737488355328:=by subst ha;simp;omega
   have hc:=h x (aR hx);have ih:=U0 hS h n (i+1) (by omega) (by omega) (acc++[x.mJ l]) (by rw[List.take_add_one,hx,ha];simp);rw[g198L0e]at ih⊢;simp at ih hc;simp (disch:=omega) [-getElem?_pos,g198B0,hx,hi,hc,hb,ah];rw[g198L0e];simp[ih]
theorem c198{l:List bt}(hl:Sm l){t:Ty}(hO:t.Ok)(hC:t.Cw):(aC AP).p 198 [t.pv,.au (l.map .str)]=some [(t.mJ l).pv]:=by
 revert hO hC
 refine Ty.dF (p:=fun t=>t.Ok→t.Cw→(aC AP).p 198 [t.pv,.au (l.map .str)]=some [(t.mJ l).pv]) ?_ t;intro t ih hO hC;have k1:=c216 hl (y:=t.name);have k2:=c72 (n:=pK l t.name);have h:=U0 hO.sm (fun x hx=>ih x hx (hO.gw x hx) (hC.gw x hx)) t.args.length 0 (by omega) (by omega) [] (by simp);rw[ae (af:=g198) rfl rfl (by decide),Ty.yX];rw[g198L0e]at h;simp at k2 h;by_cases e1:t.kind=5
 · have ea:=hC.bare (by rw[e1];decide);by_cases e2:0≤pK l t.name
   ·simp[g198,k1,e1,e2,k2,cy]
   ·simp[g198,k1,e1,e2,ea]
 ·simp[g198,e1,g198L0e,h]
def eZ(out:List bt)(x:bt):List bt:=if x∈out then out else out++[x]
structure jU(S out:List bt):Prop where
 nodup:out.Nodup
 sub:∀x∈out,x∈S
 Jn:S.length<1099511627776
theorem jU.len{S out:List bt}(h:jU S out):Sm out:=by
 have:=gF h.nodup h.sub;have:=h.Jn;unfold Sm;omega
theorem jU.put{S out:List bt}(h:jU S out){x:bt}(hx:x∈S):jU S (eZ out x):=by
 unfold eZ;split
 ·exact h
 · rename_i e;refine⟨?_,?_,h.Jn⟩
   ·rw[List.nodup_append];refine⟨h.nodup,by simp,?_⟩;intro a ha b hb;simp at hb;subst hb;intro e';subst e';exact e ha
   · intro y hy;simp at hy;rcases hy with hy|rfl
     ·exact h.sub y hy
     ·exact hx
theorem jU.fold{S:List bt}:∀{l:List bt} {out:List bt},jU S out→(∀x∈l,x∈S)→jU S (l.foldl eZ out)
 |[],_,h,_=>h
 |x::r,out,h,hx=>by
   simp only[List.foldl_cons];exact jU.fold (h.put (hx x (by simp))) (fun y hy=>hx y (by simp[hy]))
theorem wY:∀{l:List bt} {out:List bt} {x:bt},x∈out→x∈l.foldl eZ out
 |[],_,_,h=>h
 |y::r,out,x,h=>by
   simp only[List.foldl_cons];apply wY;unfold eZ;split
   ·exact h
   ·simp[h]
mutual
def Ty.gp:Ty→List bt
 |⟨k,n,_,_,as⟩=>(if k=5 then [n] else [])++Ty.BT as
def Ty.BT:List Ty→List bt
 |[]=>[]
 |a::r=>a.gp++Ty.BT r
end
theorem Ty.wZ:∀l:List Ty,Ty.BT l=l.flatMap Ty.gp
 |[]=>by simp[Ty.BT]
 |a::r=>by simp[Ty.BT,Ty.wZ r]
theorem Ty.Ge(t:Ty):t.gp=(if t.kind=5 then [t.name] else [])++t.args.flatMap Ty.gp:=by
 cases t;simp only[Ty.gp,Ty.wZ]
def dT(t:Ty):List bt:=t.gp.foldl eZ []
theorem U1{S:List bt}{t:Ty}(hS:Sm t.args)(h:∀x∈t.args,∀out,jU S out→(aC AP).i 222 [.own (out.map .str) 0,.pv x.pv] [] [out.length]=some ([.own ((x.gp.foldl eZ out).map .str) 0],[],[(x.gp.foldl eZ out).length]))
   (hk:∀y∈t.args.flatMap Ty.gp,y∈S):∀(n i:Nat),t.args.length-i=n→i≤t.args.length→∀out,jU S out →
   cl AP g222L0 ⟨[(0,.own (out.map .str) 0),(3,.az 3 0),(5,.pv (vI i))],[(3,RI t)],[],[out.length]⟩ =
     some (.exit 0,⟨[(0,.own ((((t.args.drop i).flatMap Ty.gp).foldl eZ out).map .str) 0),(3,.az 3 0),(5,.pv (vI t.args.length)),(25,.pv (.bool false))],[(3,RI t)],[],[(((t.args.drop i).flatMap Ty.gp).foldl eZ out).length]⟩)
 |0,i,hn,hi,out,hc=>by
   have:i=t.args.length:=by omega
   subst this;rw[g222L0e];simp[g222B0]
 |n+1,i,hn,hi,out,hc=>by
   have hi:i<t.args.length:=(by omega);obtain⟨x,hx⟩:=aV hi;unfold Sm at hS;have hkx:∀y∈x.gp,y∈S:=fun y hy=>hk y (by simp only[List.mem_flatMap];exact⟨x,aR hx,hy⟩)
   have k:=h x (aR hx) out hc;have ih:=U1 (t:=t) (by unfold Sm;exact hS) h hk n (i+1) (by omega) (by omega) _ (hc.fold hkx);rw[g222L0e]at ih⊢;rw[bj hx];simp at k ih;simp (disch:=omega) [-getElem?_pos,g222B0,hx,hi,k,ah];rw[g222L0e];simp[ih]
theorem c222{S:List bt}{t:Ty}(hO:t.Ok)(hk:∀y∈t.gp,y∈S):∀out,jU S out →
   (aC AP).i 222 [.own (out.map .str) 0,.pv t.pv] [] [out.length]=some ([.own ((t.gp.foldl eZ out).map .str) 0],[],[(t.gp.foldl eZ out).length]):=by
 revert hO hk
 refine Ty.dF (p:=fun t=>t.Ok→(∀y∈t.gp,y∈S)→∀out,jU S out →
   (aC AP).i 222 [.own (out.map .str) 0,.pv t.pv] [] [out.length]=some ([.own ((t.gp.foldl eZ out).map .str) 0],[],[(t.gp.foldl eZ out).length])) ?_ t
 intro t ih hO hk out hc;rw[Ty.Ge]at hk⊢;have hkb:∀y∈(if t.kind=5 then [t.name] else []),y∈S:=fun y hy=>hk y (List.mem_append_left _ hy)
 have hka:∀y∈t.args.flatMap Ty.gp,y∈S:=fun y hy=>hk y (List.mem_append_right _ hy);have h:=U1 (S:=S) hO.sm (fun x hx out hc=>ih x hx (hO.gw x hx) (fun y hy=>hka y (by simp only[List.mem_flatMap];exact⟨x,hx,hy⟩)) out hc) hka _ 0 rfl (by omega) _ (hc.fold hkb)
 have hl:=hc.len;have k:=c216 hl (y:=t.name);have k2:=Mj (s:=out) (y:=t.name);unfold Sm at hl;have hb:(out.length+1)*16≤140737488355328:=by omega
 have hh:bf 1 (out.map PV.str)=true:=by cases out<;>simp
 rw[aE (af:=g222) rfl (by simp[g222]),List.foldl_append];rw[g222L0e]at h;by_cases e1:t.kind=5
 · by_cases e2:t.name∈out
   · simp[e2]at k2;have k3:¬pK out t.name<0:=by omega
     simp[e1,eZ,e2]at h;simp[g222,e1,k,k3,g222L0e,h,eZ,e2]
   ·simp[e2]at k2;simp[e1,eZ,e2]at h;simp[g222,e1,k,k2,g222L0e,h,eZ,e2,hb,hh]
 ·simp[e1]at h;simp[g222,e1,g222L0e,h]
theorem c196{S:List bt}(hS:S.length<1099511627776){t:Ty}(hO:t.Ok)(hk:∀y∈t.gp,y∈S):(aC AP).p 196 [t.pv]=some [.au ((dT t).map .str)]:=by
 have k:=c222 hO hk [] ⟨by simp,by simp,hS⟩;rw[ae (af:=g196) rfl rfl (by decide)];unfold dT;simp at k;simp[g196,k]
@[simp] theorem R2{l:List cR}:bf 3 (l.map cR.pv)=true:=by cases l<;>simp
structure Small(ds:List Dt):Prop where
 num:Sm ds
 par:∀d∈ds,Sm d.params
 cZ:∀d∈ds,Sm d.cons
 Xw:Sm (ds.flatMap Dt.cons)
 Xg:∀d∈ds,∀c∈d.cons,Sm c.fields∧(∀x∈c.fields,x.Ok)∧∀x∈c.fields,x.Cw
theorem O'{l:List Dt}{b:Nat}(h:∀d∈l,d.cons.length≤b):(l.flatMap Dt.cons).length≤l.length*b:=by
 induction l with
 |nil=>simp
 |cons a r ih=>
   have h1:=h a (by simp);have h2:=ih (fun x hx=>h x (by simp[hx]));simp only[List.flatMap_cons,List.length_append,List.length_cons,Nat.add_mul];omega
def BU(a b:Ty):Ty:=⟨4,[45,62],0,0,[a,b]⟩
def sr(n:Nat):List Ty:=(List.range n).map fun i:Nat=>cy i
theorem pS{n:Nat}:(sr n).length=n:=by simp[sr]
theorem Jx{n:Nat}:sr (n+1)=sr n++[cy n]:=by simp[sr,List.range_succ]
def WN(d:Dt):List AV:=[.pv (vI d.pos),.pv (.str d.name),.pv (.au (d.params.map .str)),.pv (.au (d.cons.map cR.pv))]
@[simp] theorem WO(d:Dt):WN d=[.pv (vI d.pos),.pv (.str d.name),.pv (.au (d.params.map .str)),.pv (.au (d.cons.map cR.pv))]:=rfl
def ML(d:Dt):Ty:=⟨4,d.name,0,0,sr d.params.length⟩
theorem U2{d:Dt}(hS:Sm d.params):∀(n i:Nat),d.params.length-i=n→i≤d.params.length →
   cl AP g221L0 ⟨[(1,.az 1 0),(2,.az 2 0),(3,.own ((sr i).map Ty.pv) 0),(4,.pv (vI i))],[(1,WN d),(2,[.pv (vI 0),.pv (.str []),.pv (vI 0),.pv (vI 0),.own [] 1])],[],[i,0]⟩ =
     some (.exit 0,⟨[(1,.az 1 0),(2,.az 2 0),(3,.own ((sr d.params.length).map Ty.pv) 0),(4,.pv (vI d.params.length)),(9,.pv (.bool false))],[(1,WN d),(2,[.pv (vI 0),.pv (.str []),.pv (vI 0),.pv (vI 0),.own [] 1])],[],[d.params.length,0]⟩)
 |0,i,hn,hi=>by
   have:i=d.params.length:=by omega
   subst this;have hl:=pS (n:=d.params.length);rw[g221L0e];simp[g221B0,hl]
 |n+1,i,hn,hi=>by
   have hi:i<d.params.length:=(by omega);unfold Sm at hS;have hl:=pS (n:=i);have hl2:=pS (n:=i+1);have hb:(i+1)*64≤140737488355328:=(by omega);have k:=c72 (n:=i);have ih:=U2 hS n (i+1) (by omega) (by omega);rw[g221L0e]at ih⊢;rw[Jx]at ih;simp[cy,hl]at ih k;simp (disch:=omega) [-getElem?_pos,g221B0,hi,k,hl,hb,ah];rw[g221L0e];simp[ih,hl]
theorem c221{d:Dt}(hS:Sm d.params):(aC AP).p 221 [d.pv]=some [(ML d).pv]:=by
 have h:=U2 hS _ 0 rfl (by omega);have hl:=pS (n:=d.params.length);have k:=c62 (s:=d.name) (l:=sr d.params.length) (by unfold Sm at hS⊢;omega);rw[ae (af:=g221) rfl rfl (by decide)];rw[g221L0e]at h;simp[sr]at h;simp[sr]at k;simp[g221,g221L0e,h,k,ML,sr]
def Fe(ps:List bt)(fs:List Ty)(t:Ty):Ty:=fs.foldr (fun f t=>BU (f.mJ ps) t) t
theorem Jy{ps:List bt}{fs:List Ty}{k:Nat}{x t:Ty}(h:fs[k]?=some x):Fe ps (fs.take (k+1)) t=Fe ps (fs.take k) (BU (x.mJ ps) t):=by
 rw[List.take_add_one,h];simp[Fe]
def rU(ds:List Dt)(s:bt):Option Sc:=(iu ds s 0).bind fun q=>(ds[q.1]?).bind fun d=>(d.cons[q.2]?).map fun c=>⟨d.params.length,Fe d.params c.fields (ML d)⟩
theorem U3{ds:List Dt}{i:Nat}{d:Dt}(hd:ds[i]?=some d)(hp:Sm d.params){fs:List Ty}(hS:Sm fs)(hO:∀x∈fs,x.Ok)(hC:∀x∈fs,x.Cw):∀(k:Nat),k≤fs.length→∀t:Ty,
   cl AP g193L0 ⟨[(0,.pv (.au (ds.map Dt.pv))),(4,.az 4 0),(6,.pv (vI i)),(9,.az 9 0),(10,.pv (.au (fs.map Ty.pv))),(11,.pv (vI ((k:Int)-1)))],
     [(4,[.pv (vI 0),.pv (vI 0),.pv (.str []),.pv (vI 0),.pv (vI 0),.own [] 0]),(9,RI t)],[],[0]⟩ =
   some (.exit 0,⟨[(0,.pv (.au (ds.map Dt.pv))),(4,.az 4 0),(6,.pv (vI i)),(9,.az 9 0),(10,.pv (.au (fs.map Ty.pv))),(11,.pv (vI (-1))),(40,.pv (.bool false))],
     [(4,[.pv (vI 0),.pv (vI 0),.pv (.str []),.pv (vI 0),.pv (vI 0),.own [] 0]),(9,RI (Fe d.params (fs.take k) t))],[],[0]⟩)
 |0,hk,t=>by
   rw[g193L0e];simp[g193B0,Fe]
 |k+1,hk,t=>by
   obtain⟨x,hx⟩:=aV (l:=fs) (i:=k) (by omega);unfold Sm at hS;have ih:=U3 hd hp (fs:=fs) (by unfold Sm;exact hS) hO hC k (by omega) (BU (x.mJ d.params) t);have e1:((k+1:Nat):Int)-1=k:=by omega
   have q1:=c198 hp (hO x (aR hx)) (hC x (aR hx));have q2:=c69 (a:=x.mJ d.params) (b:=t);rw[g193L0e,e1,Jy hx];simp[BU]at ih q1 q2;simp (disch:=omega) [-getElem?_pos,g193B0,hd,hx,q1,q2,ah,ih,BU]
theorem c193{ds:List Dt}(hS:Sm ds)(hc:∀d∈ds,Sm d.cons)(hp:∀d∈ds,Sm d.params)(hf:∀d∈ds,∀c∈d.cons,Sm c.fields∧(∀x∈c.fields,x.Ok)∧∀x∈c.fields,x.Cw){s:bt} :
   (aC AP).p 193 [.au (ds.map Dt.pv),.str s]=some (OX (rU ds s)):=by
 have k:=c191 hS hc (s:=s);rw[ae (af:=g193) rfl rfl (by decide)];cases e:iu ds s 0 with
 |none=>
   rw[e]at k;simp[rF]at k;simp[g193,k,rU,e,OX,mq]
 |some q=>
   rw[e]at k;obtain⟨_,d,c,hd,hcc,_⟩:=yU e;simp only[Nat.sub_zero]at hd;obtain⟨f1,f2,f3⟩:=hf d (aR hd) c (aR hcc);have k2:=c221 (hp d (aR hd));have h:=U3 hd (hp d (aR hd)) f1 f2 f3 c.fields.length (Nat.le_refl _) (ML d);rw[List.take_length]at h;rw[g193L0e]at h;unfold Sm at f1;simp[rF]at k;simp at k2 h;simp (disch:=omega) [-getElem?_pos,g193,k,hd,hcc,k2,rU,e,OX,ah,g193L0e,h]
def Ta:List bt→List bt→Bool
 |_,[]=>false
 |pre,s::r=>decide (s∈pre) || Ta (pre++[s]) r
def Xx(a b:List (PV×PV)):Sh:=[some [.gg a],some [.gg b]]
@[simp] theorem WQ(a b:List (PV×PV)):Xx a b=[some [.gg a],some [.gg b]]:=rfl
def WR(c:cR):List AV:=[.pv (vI c.pos),.pv (.str c.name),.pv (.au (c.fields.map Ty.pv))]
@[simp] theorem V8(c:cR):WR c=[.pv (vI c.pos),.pv (.str c.name),.pv (.au (c.fields.map Ty.pv))]:=rfl
mutual
def Ty.Qo:Ty→Bool
 |⟨k,_,_,_,as⟩=>(decide (k=4) || decide (as.length=0)) && decide (as.length≤100) && Ty.MM as
def Ty.MM:List Ty→Bool
 |[]=>true
 |a::r=>a.Qo && Ty.MM r
end
theorem Ty.BV:∀l:List Ty,Ty.MM l=l.all Ty.Qo
 |[]=>by simp[Ty.MM]
 |a::r=>by simp[Ty.MM,Ty.BV r]
theorem MN{t:Ty}:t.Qo=true→t.Ok∧t.Cw:=by
 refine Ty.dF (p:=fun t=>t.Qo=true→t.Ok∧t.Cw) ?_ t;intro t ih h
 have e:t.Qo=((decide (t.kind=4) || decide (t.args.length=0)) && decide (t.args.length≤100) && t.args.all Ty.Qo):=by
   cases t;simp only[Ty.Qo,Ty.BV]
 rw[e]at h;simp only[Bool.and_eq_true,Bool.or_eq_true,decide_eq_true_eq,List.all_eq_true]at h;obtain⟨⟨h1,h2⟩,h3⟩:=h;refine⟨⟨by unfold Sm;omega,fun x hx=>(ih x hx (h3 x hx)).1⟩,⟨fun hk=>?_,fun x hx=>(ih x hx (h3 x hx)).2⟩⟩;rcases h1 with h1|h1
 ·exact absurd h1 hk
 ·exact List.length_eq_zero_iff.1 h1
def MO(d:Dt):Bool:=decide (d.params.length≤8) && decide (d.cons.length≤8) && d.cons.all fun c=>decide (c.fields.length≤8) && c.fields.all Ty.Qo
theorem Ff:bz.all MO=true:=by decide +kernel
theorem Jz{d:Dt}(h:d∈bz):d.params.length≤100∧d.cons.length≤100∧∀c∈d.cons,c.fields.length≤100∧(∀x∈c.fields,x.Ok)∧∀x∈c.fields,x.Cw:=by
 have h1:=List.all_eq_true.1 Ff d h;unfold MO at h1;simp only[Bool.and_eq_true,decide_eq_true_eq,List.all_eq_true]at h1;obtain⟨⟨h1,h2⟩,h3⟩:=h1;refine⟨by omega,by omega,fun c hc=>?_⟩;obtain⟨h4,h5⟩:=h3 c hc;exact⟨by omega,fun x hx=>(MN (h5 x hx)).1,fun x hx=>(MN (h5 x hx)).2⟩
theorem Fg{l:List bt}{t:Ty}(h:t.Ok):(t.mJ l).Ok:=by
 revert h
 refine Ty.dF (p:=fun t=>t.Ok→(t.mJ l).Ok) ?_ t;intro t ih h;rw[Ty.yX];split
 ·exact cI rfl
 ·refine⟨by have:=h.sm;unfold Sm at this⊢;simpa using this,?_⟩;intro x hx;simp only[List.mem_map]at hx;obtain⟨y,hy,rfl⟩:=hx;exact ih y hy (h.gw y hy)
def fieldsOf(ds:List Dt)(s:bt)(as:List Ty):Option (List Ty):=(iu ds s 0).bind fun q=>(ds[q.1]?).bind fun d=>(d.cons[q.2]?).bind fun c=>if as.length=d.params.length then some (c.fields.map fun f=>(f.mJ d.params).nh as) else none
def U4(o:Option (List Ty)):List PV:=[.au ((o.getD []).map Ty.pv),.bool o.isSome]
theorem U5{ds:List Dt}{i:Nat}{d:Dt}(hd:ds[i]?=some d)(hp:Sm d.params){as:List Ty}(ha:Sm as){fs:List Ty}(hS:Sm fs)(hO:∀x∈fs,x.Ok)(hC:∀x∈fs,x.Cw):∀(n j:Nat),fs.length-j=n→j≤fs.length→∀acc:List Ty,acc=(fs.take j).map (fun f=>(f.mJ d.params).nh as) →
   cl AP g207L0 ⟨[(0,.pv (.au (ds.map Dt.pv))),(2,.pv (.au (as.map Ty.pv))),(8,.pv (vI i)),(11,.own (acc.map Ty.pv) 0),(12,.pv (.au (fs.map Ty.pv))),(13,.pv (vI j))],[],[],[acc.length]⟩ =
     some (.exit 0,⟨[(0,.pv (.au (ds.map Dt.pv))),(2,.pv (.au (as.map Ty.pv))),(8,.pv (vI i)),(11,.own ((fs.map (fun f=>(f.mJ d.params).nh as)).map Ty.pv) 0),(12,.pv (.au (fs.map Ty.pv))),(13,.pv (vI fs.length)),(46,.pv (.bool false))],[],[],[fs.length]⟩)
 |0,j,hn,hj,acc,hacc=>by
   have:j=fs.length:=by omega
   subst this;subst hacc;rw[g207L0e];simp[g207B0]
 |n+1,j,hn,hj,acc,hacc=>by
   have hj:j<fs.length:=(by omega);obtain⟨x,hx⟩:=aV hj;have q1:=c198 hp (hO x (aR hx)) (hC x (aR hx));have q2:=c48 ha (t:=x.mJ d.params) (Fg (hO x (aR hx)));unfold Sm at hS;have hb:(acc.length+1)*64≤140737488355328:=by subst hacc;simp;omega
   have ih:=U5 hd hp ha (fs:=fs) (by unfold Sm;exact hS) hO hC n (j+1) (by omega) (by omega) (acc++[(x.mJ d.params).nh as]) (by rw[List.take_add_one,hx,hacc];simp);generalize x.mJ d.params=u at q1 q2 ih;generalize u.nh as=v at q2 ih;rw[g207L0e]at ih⊢;simp at ih q1 q2;simp (disch:=omega) [-getElem?_pos,g207B0,hd,hx,hj,q1,q2,hb,ah];rw[g207L0e];simp[ih]
theorem c207{ds:List Dt}(h:Small ds){as:List Ty}(ha:Sm as){s:bt}:(aC AP).p 207 [.au (ds.map Dt.pv),.str s,.au (as.map Ty.pv)]=some (U4 (fieldsOf ds s as)):=by
 have k:=c191 h.num h.cZ (s:=s);rw[ae (af:=g207) rfl rfl (by decide)];cases e:iu ds s 0 with
 |none=>
   rw[e]at k;simp[rF]at k;simp[g207,k,fieldsOf,e,U4]
 |some q=>
   rw[e]at k;obtain⟨_,d,c,hd,hc,_⟩:=yU e;simp only[Nat.sub_zero]at hd;obtain⟨f1,f2,f3⟩:=h.Xg d (aR hd) c (aR hc);have hl:=U5 hd (h.par d (aR hd)) ha f1 f2 f3 _ 0 rfl (by omega) [] rfl;rw[g207L0e]at hl;simp[rF]at k;by_cases e2:as.length=d.params.length
   ·simp at hl;simp (disch:=omega) [-getElem?_pos,g207,k,hd,hc,fieldsOf,e,U4,e2,g207L0e,hl]
   ·have e3:¬(as.length:Int)=d.params.length:=(by omega);simp (disch:=omega) [-getElem?_pos,g207,k,hd,hc,fieldsOf,e,U4,e2,e3]
theorem BW{S:List Ty}(hf:S.length<1099511627776){l:List Ty}(hG:∀t∈l,Good S t):Sm (vars l):=by
 have c0:lQ (S.map Ty.id) []:=uK (by simpa using hf);refine (c0.fold (l:=l.flatMap Ty.nodes) ?_).len;intro x hx hk;simp only[List.mem_flatMap]at hx;obtain⟨t,ht,hx⟩:=hx;exact List.mem_map_of_mem ((hG t ht).sub x (wS (hG t ht).wf x hx hk))
mutual
def Ty.kh(k:Int):Ty→Bool
 |⟨q,_,_,_,as⟩=>decide (q=k) || Ty.BX k as
def Ty.BX(k:Int):List Ty→Bool
 |[]=>false
 |a::r=>a.kh k || Ty.BX k r
end
theorem Ty.w6(k:Int):∀l:List Ty,Ty.BX k l=l.any (Ty.kh k)
 |[]=>by simp[Ty.BX]
 |a::r=>by simp[Ty.BX,Ty.w6 k r]
theorem Ty.Gf(k:Int)(t:Ty):t.kh k=(decide (t.kind=k) || t.args.any (Ty.kh k)):=by
 cases t;simp only[Ty.kh,Ty.w6]
theorem U6{t:Ty}{k:Int}(hS:Sm t.args)(h:∀x∈t.args,(aC AP).p 351 [x.pv,vI k]=some [.bool (x.kh k)]):∀(n i:Nat),t.args.length-i=n→i≤t.args.length →
   cl AP g351L0 ⟨[(1,.pv (vI k)),(2,.az 2 0),(5,.pv (vI i))],[(2,[.pv (vI t.kind),.pv (.str t.name),.pv (vI t.id),.pv (vI t.home),.pv (.au (t.args.map Ty.pv))])],[],[]⟩ =
     if (t.args.drop i).any (Ty.kh k)=true then some (.ret,⟨[(4,.pv (.bool true))],[],[],[]⟩)
     else some (.exit 0,⟨[(1,.pv (vI k)),(2,.az 2 0),(5,.pv (vI t.args.length)),(14,.pv (.bool false))],[(2,[.pv (vI t.kind),.pv (.str t.name),.pv (vI t.id),.pv (vI t.home),.pv (.au (t.args.map Ty.pv))])],[],[]⟩)
 |0,i,hn,hi=>by
   have:i=t.args.length:=by omega
   subst this;rw[g351L0e];simp[g351B0]
 |n+1,i,hn,hi=>by
   have hi:i<t.args.length:=(by omega);obtain⟨x,hx⟩:=aV hi;unfold Sm at hS;have c:=h x (aR hx);have ih:=U6 hS h n (i+1) (by omega) (by omega);rw[g351L0e]at ih⊢;rw[bj hx,List.any_cons];cases e:x.kh k with
   |true=>
     rw[e]at c;simp at c;simp (disch:=omega) [-getElem?_pos,g351B0,hx,hi,c]
   |false=>
     rw[e]at c;simp at c;rw[Bool.false_or,←ih];simp (disch:=omega) [-getElem?_pos,g351B0,hx,hi,c,ah];rw[g351L0e];simp[g351B0]
theorem c351{t:Ty}{k:Int}(hO:t.Ok):(aC AP).p 351 [t.pv,vI k]=some [.bool (t.kh k)]:=by
 revert hO
 refine Ty.dF (p:=fun t=>t.Ok→(aC AP).p 351 [t.pv,vI k]=some [.bool (t.kh k)]) ?_ t;intro t ih hO;have h:=U6 (k:=k) hO.sm (fun x hx=>ih x hx (hO.gw x hx)) _ 0 rfl (by omega);rw[ae (af:=g351) rfl rfl (by decide),Ty.Gf];rw[g351L0e]at h;by_cases e:t.kind=k
 ·simp[g351,e]
 · cases e':t.args.any (Ty.kh k) with
   |true=>simp only[List.drop_zero,e']at h;simp at h;simp[g351,e,g351L0e,h]
   |false=>simp only[List.drop_zero,e']at h;simp at h;simp[g351,e,g351L0e,h]
def vr(x:Ty):List Int:=if x.kind=1 then [x.id] else []
def lC(h:Int):Nat→List Ty
 |0=>[]
 |n+1=>lC h n++[ll h n]
theorem mK(h:Int):∀n,(lC h n).length=n
 |0=>rfl
 |n+1=>by simp[lC,mK h n]
theorem U7{T:Ty}{h:Int}{nm:List bt}{q:List AV}(hq7:q=T.cl)(hS:nm.length<1000000000):∀(n i:Nat),nm.length-i=n→i≤nm.length →
   cl AP g327L0 ⟨[(1,.pv (vI h)),(4,.az 4 0),(5,.az 5 0),(6,.pv (.au (nm.map .str))),(7,.az 7 0),(8,.own ((lC h i).map Ty.pv) 0),(9,.pv (vI i))],
     [(4,[.pv (vI 0),.pv (.str []),.pv (vI 0),.pv (vI 0),.own [] 1]),(5,[.pv (vI 0),.pv (vI 0),.pv (.str []),.pv (vI 0),.pv (vI 0),.own [] 2]),(7,q)],[],[i,0,0]⟩ =
     some (.exit 0,⟨[(1,.pv (vI h)),(4,.az 4 0),(5,.az 5 0),(6,.pv (.au (nm.map .str))),(7,.az 7 0),(8,.own ((lC h nm.length).map Ty.pv) 0),(9,.pv (vI nm.length)),(18,.pv (.bool false))],
     [(4,[.pv (vI 0),.pv (.str []),.pv (vI 0),.pv (vI 0),.own [] 1]),(5,[.pv (vI 0),.pv (vI 0),.pv (.str []),.pv (vI 0),.pv (vI 0),.own [] 2]),(7,q)],[],[nm.length,0,0]⟩)
 |0,i,hn,hi=>by
   have:i=nm.length:=by omega
   subst this;have hl:=mK h nm.length;subst hq7;generalize lC h nm.length=R at *;rw[g327L0e];simp[g327B0,hl,Ty.cl]
 |n+1,i,hn,hi=>by
   have hi:i<nm.length:=(by omega);have ih:=U7 (h:=h) hq7 hS n (i+1) (by omega) (by omega);have k:=c71 (n:=h) (m:=i);have hl:=mK h i;have hb:(i+1)*64≤140737488355328:=(by omega);have hr:(lC h (i+1)).map Ty.pv=(lC h i).map Ty.pv++[(ll h i).pv]:=(by simp[lC]);rw[hr]at ih;subst hq7;generalize lC h i=R at *;rw[g327L0e]at ih⊢;simp[hl,Ty.cl,ll]at ih k;simp (disch:=omega) [-getElem?_pos,g327B0,hi,hl,k,hb,Ty.cl,ah];rw[g327L0e];simp[hl,ih]
theorem c327{S:List bt}(hf:S.length<1000000000){t:Ty}(hO:t.Ok)(hC:t.Cw)(hk:∀y∈t.gp,y∈S){h:Int}:(aC AP).p 327 [t.pv,vI h]=some [((t.mJ (dT t)).nh (lC h (dT t).length)).pv,(As.mk (dT t).length (t.mJ (dT t))).pv]:=by
 have hcn:=jU.fold (S:=S) (l:=t.gp) (out:=[]) ⟨by simp,by simp,by omega⟩ hk
 have hnl:(dT t).length<1000000000:=by
   have:=gF hcn.nodup hcn.sub;unfold dT;omega
 have k1:=c196 (S:=S) (by omega) hO hk;have k2:=c198 (l:=dT t) (by unfold Sm;omega) hO hC;have hbO:=Fg (l:=dT t) hO;have k3:=c48 (s:=lC h (dT t).length) (by unfold Sm;rw[mK];omega) hbO;generalize dT t=nm at *;generalize t.mJ nm=T at *;have h4:=U7 (h:=h) (T:=T) (nm:=nm) rfl hnl _ 0 rfl (by omega);generalize lC h nm.length=R at *;generalize T.nh R=U at *;rw[g327L0e]at h4;simp[lC,Ty.cl]at h4;simp at k1 k2 k3;rw[ae (af:=g327) rfl rfl (by decide)];simp[g327,k1,k2,g327L0e,h4,k3]
theorem c325{S:List bt}(hf:S.length<1000000000){t:Ty}(hO:t.Ok)(hC:t.Cw)(hk:∀y∈t.gp,y∈S):(aC AP).p 325 [t.pv]=some [((t.mJ (dT t)).nh (lC 98 (dT t).length)).pv]:=by
 have k:=c327 hf hO hC hk (h:=98);generalize (t.mJ (dT t)).nh (lC 98 (dT t).length)=U at *;simp at k;rw[ae (af:=g325) rfl rfl (by decide)];simp[g325,k]
theorem U8{vs:List Int}(hv:Sm vs){t:Ty}:∀(n i:Nat),vs.length-i=n→i≤vs.length→∀acc:List As,acc.length≤i →
   cl AP g363L0 ⟨[(1,.az 1 0),(2,.az 2 0),(3,.pv (.au (vs.map vI))),(4,.own (acc.map As.pv) 0),(5,.pv (vI i))],[(1,tC t),(2,zC 1)],[],[acc.length,0]⟩ =
     some (.exit 0,⟨[(1,.az 1 0),(2,.az 2 0),(3,.pv (.au (vs.map vI))),(4,.own ((acc++(vs.drop i).map fun v=>As.mk v a0).map As.pv) 0),(5,.pv (vI vs.length)),(12,.pv (.bool false))],[(1,tC t),(2,zC 1)],[],[(acc++(vs.drop i).map fun v=>(⟨v,a0⟩:As)).length,0]⟩)
 |0,i,hn,hi,acc,ha=>by
   have:i=vs.length:=by omega
   subst this;rw[g363L0e];simp[g363B0,tC,zC]
 |n+1,i,hn,hi,acc,ha=>by
   have hi:i<vs.length:=(by omega);obtain⟨x,hx⟩:=aV hi;unfold Sm at hv;have hb:(acc.length+1)*72≤140737488355328:=(by omega);have k:=c34;have ih:=U8 (t:=t) hv n (i+1) (by omega) (by omega) (acc++[⟨x,a0⟩]) (by simp;omega);rw[g363L0e]at ih⊢;rw[bj hx];simp[tC,zC,a0]at ih k;simp (disch:=omega) [-getElem?_pos,g363B0,tC,zC,a0,hx,hi,k,ah,hb];rw[g363L0e];simp[ih]
theorem c363{S:List Ty}(hf:S.length<1099511627776)(hSo:∀x∈S,x.Ok){t:Ty}(hG:Good S t):(aC AP).p 363 [t.pv]=some [(t.sub ((vars [t]).map fun v=>As.mk v a0)).pv]:=by
 have k1:=EX hf hSo (l:=[t]) (by simp[Sm]) (by simpa using hG);have hv:=BW hf (l:=[t]) (by simpa using hG);have h:=U8 (t:=t) hv _ 0 rfl (by omega) [] (by simp);have k2:=c46 (s:=(vars [t]).map fun v=>As.mk v a0) (by unfold Sm at *;simpa using hv) hG.ok;generalize vars [t]=vs at *;rw[g363L0e]at h;simp[tC,zC]at h;simp at k1 k2;rw[ae (af:=g363) rfl rfl (by decide)];simp[g363,k1,k2,g363L0e,h]
def gz(k:Nat):List AV:=[.pv (vI 0),.pv (vI 0),.pv (.str []),.pv (vI 0),.pv (vI 0),.own [] k]
theorem U9{l:List Ex}(hl:l.length≤2000){k:Int}(IH:∀x∈l,∃b,(aC AP).p 307 [x.pv,vI k]=some [.bool b]):∀(n i:Nat),l.length-i=n→i≤l.length →
   cl AP g307L0 ⟨[(1,.pv (vI k)),(5,.pv (.au (l.map Ex.pv))),(6,.pv (vI i))],[],[],[]⟩=some (.ret,⟨[(4,.pv (.bool true))],[],[],[]⟩) ∨
   cl AP g307L0 ⟨[(1,.pv (vI k)),(5,.pv (.au (l.map Ex.pv))),(6,.pv (vI i))],[],[],[]⟩=some (.exit 0,⟨[(1,.pv (vI k)),(5,.pv (.au (l.map Ex.pv))),(6,.pv (vI l.length)),(16,.pv (.bool false))],[],[],[]⟩)
 |0,i,hn,hi=>by
   have:i=l.length:=by omega
   subst this;refine .inr ?_;rw[g307L0e];simp[g307B0]
 |n+1,i,hn,hi=>by
   have hi:i<l.length:=(by omega);obtain⟨x,hx⟩:=aV hi;obtain⟨b,c⟩:=IH x (aR hx);have he:=wR.len x;have ho:=wR.of x;cases b with
   |true=>
     refine .inl ?_;simp at c he ho;rw[g307L0e];simp (disch:=omega) [-getElem?_pos,g307B0,hx,hi,c,he,ho]
   |false=>
     have ih:=U9 hl IH n (i+1) (by omega) (by omega)
     have e1:cl AP g307L0 ⟨[(1,.pv (vI k)),(5,.pv (.au (l.map Ex.pv))),(6,.pv (vI i))],[],[],[]⟩=cl AP g307L0 ⟨[(1,.pv (vI k)),(5,.pv (.au (l.map Ex.pv))),(6,.pv (vI (i+1:Nat)))],[],[],[]⟩:=by
       conv=>lhs;rw[g307L0e]
       simp at c he ho;simp (disch:=omega) [-getElem?_pos,g307B0,hx,hi,c,ah,he,ho]
     rw[e1];exact ih
theorem c307{e:Ex}(h:e.Ok)(k:Int):∃b,(aC AP).p 307 [e.pv,vI k]=some [.bool b]:=by
 induction h with
 | @mk e hk ha hv ht hc ih=>
   have k1:=c145 (Ex.Ok.mk hk ha hv ht hc);have hl:e.ch.length≤2000:=(by rw[Ex.dQ];omega);have L:=U9 hl ih _ 0 rfl (by omega);rw[g307L0e]at L;simp at L k1;by_cases q:e.kind=k
   ·refine⟨true,?_⟩;rw[ae (af:=g307) rfl rfl (by decide)];simp[g307,q]
   · rcases L with L|L
     ·refine⟨true,?_⟩;rw[ae (af:=g307) rfl rfl (by decide)];simp[g307,q,k1,g307L0e,L]
     ·refine⟨false,?_⟩;rw[ae (af:=g307) rfl rfl (by decide)];simp[g307,q,k1,g307L0e,L]
def gZ(i:Nat):List Int→List As
 |[]=>[]
 |v::r=>⟨v,bO i⟩::gZ (i+1) r
theorem MP{i:Nat}{l:List Int}:(gZ i l).length=l.length:=by
 induction l generalizing i with
 |nil=>rfl
 |cons a r ih=>simp[gZ,ih]
theorem Qp{l:List Ty}{vs:List Int}(hv:Sm vs):∀(n i:Nat),vs.length-i=n→i≤vs.length→∀acc:List As,acc.length≤i →
   cl AP g395L0 ⟨[(0,.pv (.au (l.map Ty.pv))),(3,.pv (.au (vs.map vI))),(4,.own (acc.map As.pv) 0),(5,.pv (vI i))],[],[],[acc.length]⟩ =
     some (.exit 0,⟨[(0,.pv (.au (l.map Ty.pv))),(3,.pv (.au (vs.map vI))),(4,.own ((acc++gZ i (vs.drop i)).map As.pv) 0),(5,.pv (vI vs.length)),(13,.pv (.bool false))],[],[],[(acc++gZ i (vs.drop i)).length]⟩)
 |0,i,hn,hi,acc,ha=>by
   have:i=vs.length:=by omega
   subst this;rw[g395L0e];simp[g395B0,gZ]
 |n+1,i,hn,hi,acc,ha=>by
   have hi:i<vs.length:=(by omega);obtain⟨x,hx⟩:=aV hi;unfold Sm at hv;have hb:(acc.length+1)*72≤140737488355328:=(by omega);have k:=c63 (n:=i);have ih:=Qp (l:=l) hv n (i+1) (by omega) (by omega) (acc++[As.mk x (bO i)]) (by simp;omega);rw[g395L0e]at ih⊢;rw[bj hx];simp[bO]at ih k;simp (disch:=omega) [-getElem?_pos,g395B0,hx,hi,k,ah,hb,gZ,bO];rw[g395L0e];simp[ih]
theorem Qq{l:List Ty}(hl:Sm l)(hO:∀t∈l,t.Ok){s:List As}(hs:Sm s):∀(n i:Nat),l.length-i=n→i≤l.length→∀acc:List Ty,acc.length≤i →
   cl AP g395L1 ⟨[(0,.pv (.au (l.map Ty.pv))),(4,.own (s.map As.pv) 0),(6,.own (acc.map Ty.pv) 1),(7,.pv (vI i))],[],[],[s.length,acc.length]⟩ =
     some (.exit 2,⟨[(0,.pv (.au (l.map Ty.pv))),(4,.own (s.map As.pv) 0),(6,.own ((acc++(l.drop i).map (Ty.sub s)).map Ty.pv) 1),(7,.pv (vI l.length)),(29,.pv (.bool false))],[],[],[s.length,(acc++(l.drop i).map (Ty.sub s)).length]⟩)
 |0,i,hn,hi,acc,ha=>by
   have:i=l.length:=by omega
   subst this;rw[g395L1e];simp[g395B1]
 |n+1,i,hn,hi,acc,ha=>by
   have hi:i<l.length:=(by omega);obtain⟨x,hx⟩:=aV hi;have hl':=hl;unfold Sm at hl;have hb:(acc.length+1)*64≤140737488355328:=(by omega);have k:=c46 hs (hO x (aR hx));have ih:=Qq hl' hO hs n (i+1) (by omega) (by omega) (acc++[x.sub s]) (by simp;omega);rw[g395L1e]at ih⊢;rw[bj hx];simp at ih k;simp (disch:=omega) [-getElem?_pos,g395B1,hx,hi,k,ah,hb];rw[g395L1e];simp[ih]
theorem c395i{S:List Ty}(hf:S.length<1099511627776)(hSo:∀x∈S,x.Ok){l:List Ty}(hl:Sm l)(hG:∀t∈l,Good S t):(aC AP).i 395 [.pv (.au (l.map Ty.pv))] [] []=some ([.own ((l.map (Ty.sub (gZ 0 (vars l)))).map Ty.pv) 0],[],[l.length]):=by
 have k1:=EX hf hSo hl hG;have hv:=BW hf hG;have h1:=Qp (l:=l) hv _ 0 rfl (by omega) [] (by simp);have hs:Sm (gZ 0 (vars l)):=by unfold Sm at *;rw[MP];exact hv
 have h2:=Qq hl (fun t ht=>(hG t ht).ok) hs _ 0 rfl (by omega) [] (by simp);generalize vars l=vs at *;rw[g395L0e]at h1;rw[g395L1e]at h2;simp at h1 h2 k1;generalize gZ 0 vs=s at *;rw[aE (af:=g395) rfl (by simp[g395])];simp[g395,k1,g395L0e,h1,g395L1e,h2]
theorem c377{s:List As}(hs:Sm s){c:Sc}(hO:c.ty.Ok):(aC AP).p 377 [.au (s.map As.pv),c.pv]=some [(As.mk c.id (c.ty.sub s)).pv]:=by
 have k:=c22 hs hO;generalize c.ty.sub s=u at *;simp at k;rw[ae (af:=g377) rfl rfl (by decide)];simp[g377,k]
theorem Qr{l:List En}(hl:Sm l){g:Ty}{b:PV}:∀(n i:Nat),l.length-i=n→i≤l.length→∀acc:List Ty,acc.length≤i →
   cl AP g376L0 ⟨[(2,.pv b),(3,.az 3 0),(6,.az 6 0),(8,.own (acc.map Ty.pv) 0),(9,.pv (.au (l.map En.pv))),(10,.pv (vI i))],[(3,tC g),(6,[.own [] 1,.own [] 2])],[],[acc.length,0,0]⟩ =
     some (.exit 0,⟨[(2,.pv b),(3,.az 3 0),(6,.az 6 0),(8,.own ((acc++(l.drop i).map fun x=>x.sc.ty).map Ty.pv) 0),(9,.pv (.au (l.map En.pv))),(10,.pv (vI l.length)),(21,.pv (.bool false))],[(3,tC g),(6,[.own [] 1,.own [] 2])],[],[(acc++(l.drop i).map fun x=>x.sc.ty).length,0,0]⟩)
 |0,i,hn,hi,acc,ha=>by
   have:i=l.length:=by omega
   subst this;rw[g376L0e];simp[g376B0,tC]
 |n+1,i,hn,hi,acc,ha=>by
   have hi:i<l.length:=(by omega);obtain⟨x,hx⟩:=aV hi;unfold Sm at hl;have hb:(acc.length+1)*64≤140737488355328:=(by omega);have ih:=Qr (g:=g) (b:=b) hl n (i+1) (by omega) (by omega) (acc++[x.sc.ty]) (by simp;omega);rw[g376L0e]at ih⊢;rw[bj hx];simp[tC]at ih;simp (disch:=omega) [-getElem?_pos,g376B0,tC,hx,hi,ah,hb];rw[g376L0e];simp[ih]
def vS:Nat→dO
 |0=>⟨[],[]⟩
 |i+1=>cV (vS i) 1000000 false
theorem MQ:∀i,ub (vS i).sl=i
 |0=>rfl
 |i+1=>by
   have:=MQ i;simp only[ub]at this;simp[vS,cV,ub,List.countP_append,this]
theorem yY:∀i,Inv i (i*i+4*i) (eJ i) (vS i)
 |0=>⟨rfl,by simp[vS,ub],by simp[vS],by simp[vS],⟨fun _=>0,by rintro i v ⟨k,x,_,h,_⟩;simp[vS]at h⟩,by simp[vS]⟩
 |i+1=>by
   have I:=yY i;refine wX I 1000000 false ?_;rw[MQ];have:(i+1)*(i+1)=i*i+2*i+1:=(by rw[Nat.add_mul,Nat.mul_add];omega);omega
theorem Qs{vs:List Int}(hv:vs.length≤5000):∀(n i:Nat),vs.length-i=n→i≤vs.length→∀acc:List As,acc.length≤i →
   cl AP g376L1 ⟨[(2,.pv (.au [])),(6,.az 6 0),(11,.pv (.au (vs.map vI))),(12,.az 12 0),(13,.own (acc.map As.pv) 0),(14,.pv (vI i))],[(6,[.own [] 1,.own [] 2]),(12,sC (vS i))],[],[acc.length,0,0]⟩ =
     some (.exit 2,⟨[(2,.pv (.au [])),(6,.az 6 0),(11,.pv (.au (vs.map vI))),(12,.az 12 0),(13,.own ((acc++gZ i (vs.drop i)).map As.pv) 0),(14,.pv (vI vs.length)),(42,.pv (.bool false))],[(6,[.own [] 1,.own [] 2]),(12,sC (vS vs.length))],[],[(acc++gZ i (vs.drop i)).length,0,0]⟩)
 |0,i,hn,hi,acc,ha=>by
   have:i=vs.length:=by omega
   subst this;rw[g376L1e];simp[g376B1,sC,gZ]
 |n+1,i,hn,hi,acc,ha=>by
   have hi:i<vs.length:=(by omega);obtain⟨x,hx⟩:=aV hi;have hb:(acc.length+1)*72≤140737488355328:=(by omega);have k0:=c95 (s:=[]) (by simp[Sm]) (y:=x);have I:=yY i;have hq:i*i≤5000*5000:=Nat.mul_le_mul (by omega) (by omega);have k:=c381 I.NH (by omega) (by omega) 1000000 false;rw[I.len]at k;have ih:=Qs hv n (i+1) (by omega) (by omega) (acc++[As.mk x (bO i)]) (by simp;omega);simp only[vS]at ih;generalize cV (vS i) 1000000 false=s1 at *;generalize vS i=s0 at *;rw[g376L1e]at ih⊢;rw[bj hx];simp[bO]at k;simp[sC,bO]at ih;simp at k0;simp (disch:=omega) [-getElem?_pos,g376B1,sC,hx,hi,k,k0,ah,hb,gZ,bO];rw[g376L1e];simp[ih]
theorem c376{S:List Ty}(hf:S.length≤5000)(hSo:∀x∈S,x.Ok){g:Ty}(hg:Good S g){l:List En}(hl:Sm l)(hl2:l.length<1000000)(hG:∀x∈l,Good S x.sc.ty):∃vs:List Int,vs=vars (g::(dm l).map fun x=>x.sc.ty)∧vs.length≤5000 ∧
   (aC AP).p 376 [g.pv,.au (l.map En.pv),.au []]=some [(vS vs.length).pv,.au ((gZ 0 vs).map As.pv)]:=by
 have hsl:=uM l;have k1:=c201 hl
 have hG2:∀t∈(g::(dm l).map fun x=>x.sc.ty),Good S t:=by
   intro t ht;simp only[List.mem_cons,List.mem_map]at ht;rcases ht with rfl|⟨x,hx,rfl⟩
   ·exact hg
   ·exact hG x (mw l x hx)
 have hs:Sm (dm l):=by unfold Sm at *;omega
 have h1:=Qr hs (g:=g) (b:=.au []) _ 0 rfl (by omega) [] (by simp);have k2:=EX (by omega) hSo (l:=g::(dm l).map fun x=>x.sc.ty) (by unfold Sm at *;simp;omega) hG2
 have hv:(vars (g::(dm l).map fun x=>x.sc.ty)).length≤5000:=by
   have c0:lQ (S.map Ty.id) []:=uK (by simp;omega)
   have c1:=c0.fold (l:=(g::(dm l).map fun x=>x.sc.ty).flatMap Ty.nodes) (by
     intro x hx hk;simp only[List.mem_flatMap]at hx;obtain⟨t,ht,hx⟩:=hx;exact List.mem_map_of_mem ((hG2 t ht).sub x (wS (hG2 t ht).wf x hx hk)))
   have:=gF c1.nodup c1.sub;rw[List.length_map]at this;unfold vars;omega
 refine⟨_,rfl,hv,?_⟩;generalize vars (g::(dm l).map fun x=>x.sc.ty)=vs at *;have h2:=Qs hv _ 0 rfl (by omega) [] (by simp);have k3:=c388;have hb:(1+(dm l).length)*64≤140737488355328:=by omega
 rw[g376L0e]at h1;rw[g376L1e]at h2;generalize vS vs.length=s2 at *;simp[tC]at h1;simp[vS,sC]at h2;have hh:=Bz.head ((dm l).map fun x=>x.sc.ty);generalize dm l=E at *;simp at k1 k2 k3 hh;rw[ae (af:=g376) rfl rfl (by decide)];by_cases hE:E=[]
 ·subst hE;simp at h1 k1 k2;simp (disch:=omega) [g376,k1,g376L0e,h1,hb,hh,k2,k3,g376L1e,h2]
 ·simp (disch:=omega) [g376,k1,g376L0e,h1,hb,hh,hE,k2,k3,g376L1e,h2]
def pT(s:dO):Nat→dO
 |0=>s
 |i+1=>cV (pT s i) 1000000 false
theorem Qt{s:List Sl}:ub s≤s.length:=List.countP_le_length
theorem np{n M:Nat}{s:dO}(I:Inv n M (eJ n) s):∀i,Inv (n+i) (M+i*(2*(n+i)+4)) (eJ (n+i)) (pT s i)
 |0=>by simpa[pT] using I
 |i+1=>by
   have J:=np I i;have hu:ub (pT s i).sl≤n+i:=by have:=Qt (s:=(pT s i).sl);rw[J.len]at this;exact this
   refine wX J 1000000 false ?_
   have:(i+1)*(2*(n+(i+1))+4)=i*(2*(n+i)+4)+i*2+(2*(n+(i+1))+4):=by
     rw[Nat.add_mul,Nat.one_mul,show 2*(n+(i+1))+4=(2*(n+i)+4)+2 by omega,Nat.mul_add]
   omega
def BY(c:Sc):List AV:=[.pv (vI c.id),.pv (vI c.ty.kind),.pv (.str c.ty.name),.pv (vI c.ty.id),.pv (vI c.ty.home),.pv (.au (c.ty.args.map Ty.pv))]
theorem Qu{n M:Nat}{s:dO}(I:Inv n M (eJ n) s){c:Sc}{K:Nat}(hc:c.id=K)(hN:n+K≤10000)(hM:M≤1000000){g:Ty}{p3:PV}{p4:PV}:∀(k i:Nat),K-i=k→i≤K→∀acc:List Ty,acc.length=i →
   cl AP g389L0 ⟨[(3,.pv p3),(4,.pv p4),(5,.az 5 0),(6,.az 6 0),(7,.az 7 0),(13,.own (acc.map Ty.pv) 0),(14,.pv (vI i))],[(5,sC (pT s i)),(6,BY c),(7,tC g)],[],[acc.length]⟩ =
     some (.exit 0,⟨[(3,.pv p3),(4,.pv p4),(5,.az 5 0),(6,.az 6 0),(7,.az 7 0),(13,.own ((acc++(List.range' i (K-i)).map fun j=>bO (n+j:Nat)).map Ty.pv) 0),(14,.pv (vI K)),(39,.pv (.bool false))],[(5,sC (pT s K)),(6,BY c),(7,tC g)],[],[K]⟩)
 |0,i,hk,hi,acc,ha=>by
   have:i=K:=by omega
   subst this;rw[g389L0e];simp[g389B0,sC,BY,tC,hc,ha]
 |k+1,i,hk,hi,acc,ha=>by
   have hi:i<K:=(by omega);have J:=np I i;have hq:i*(2*(n+i)+4)≤10000*20004:=Nat.mul_le_mul (by omega) (by omega);have c1:=c381 J.NH (by omega) (by omega) 1000000 false;rw[J.len]at c1;have ih:=Qu I hc hN hM (g:=g) (p3:=p3) (p4:=p4) k (i+1) (by omega) (by omega) (acc++[bO (n+i:Nat)]) (by simp;omega)
   have hr:List.range' i (K-i)=i::List.range' (i+1) (K-(i+1)):=by
     rw[show K-i=(K-(i+1))+1 by omega,List.range'_succ]
   have hb:(acc.length+1)*64≤140737488355328:=(by omega);simp only[pT]at ih;rw[hr];generalize cV (pT s i) 1000000 false=s1 at *;generalize pT s i=s0 at *;rw[g389L0e]at ih⊢;simp[bO]at c1;simp[sC,BY,tC,bO,hc]at ih;simp (disch:=omega) [-getElem?_pos,g389B0,sC,BY,tC,hc,hi,c1,ah,hb,bO];rw[g389L0e];simp[ih]
def BZ(t:Ty):Prop:=t.Ok∧t.Kw
theorem Qv{s:dO}{x:Ty}(hx:x.Ok){ns:List Nat}(hns:ns.length=x.args.length)(IH:∀(i:Nat) a n,x.args[i]?=some a→ns[i]?=some n→∃u:Ty,(aC AP).p 373 [s.pv,a.pv]=some [u.pv]∧BZ u∧u.nodes.length=n):∀(k i:Nat),x.args.length-i=k→i≤x.args.length→∀acc:List Ty,acc.length=i→(∀u∈acc,BZ u)→(acc.flatMap Ty.nodes).length=(ns.take i).sum→∃us:List Ty,
   cl AP g373L0 ⟨[(2,.az 2 0),(3,.az 3 0),(4,.az 4 0),(5,.az 5 0),(6,.pv (vI i))],[(2,sC s),(3,tC x),(4,zC 0),(5,uC x acc 1)],[],[0,acc.length]⟩ =
     some (.exit 0,⟨[(2,.az 2 0),(3,.az 3 0),(4,.az 4 0),(5,.az 5 0),(6,.pv (vI x.args.length)),(16,.pv (.bool false))],[(2,sC s),(3,tC x),(4,zC 0),(5,uC x us 1)],[],[0,us.length]⟩)∧us.length=x.args.length∧(∀u∈us,BZ u)∧(us.flatMap Ty.nodes).length=ns.sum
 |0,i,hk,hi,acc,ha,hu,hc=>by
   have:i=x.args.length:=by omega
   subst this;refine⟨acc,?_,ha,hu,by rw[hc,←hns,List.take_length]⟩;rw[g373L0e];simp[g373B0,sC,tC,zC,uC]
 |k+1,i,hk,hi,acc,ha,hu,hc=>by
   have hi:i<x.args.length:=(by omega);obtain⟨a,hax⟩:=aV hi;obtain⟨n,hn⟩:=aV (l:=ns) (i:=i) (by omega);have hsm:=hx.sm;unfold Sm at hsm;obtain⟨u,e,hO,hnn⟩:=IH i a n hax hn
   obtain⟨us,e',h1,h2,h3⟩:=Qv hx hns IH k (i+1) (by omega) (by omega) (acc++[u]) (by simp;omega) (by
     intro y hy;simp at hy;rcases hy with hy|rfl
     ·exact hu y hy
     ·exact hO) (by rw[List.take_add_one,hn,List.flatMap_append,List.length_append,hc];simp[hnn])
   refine⟨us,?_,h1,h2,h3⟩;have hb:(acc.length+1)*64≤140737488355328:=by omega
   rw[g373L0e]at e' ⊢;simp at e;simp[sC,tC,zC,uC]at e';simp (disch:=omega) [-getElem?_pos,g373B0,sC,tC,zC,uC,hi,hax,ah,e,hb];rw[g373L0e];simp[e']
theorem c373k{s:dO}(hs:Sm s.sl)(hO:∀x∈s.sl,x.ty.Ok)(hW:∀x∈s.sl,x.ty.Kw)(r:Nat):∀t:Ty,Tr s.sl t r→BZ t→∃u:Ty,(aC AP).p 373 [s.pv,t.pv]=some [u.pv]∧BZ u∧u.nodes.length=r:=by
 induction r using Nat.strongRecOn with
 |ind r ih=>
   intro t ht hto;have k:=c386 hs (t:=t);have hw:(wk s.sl (s.sl.length+1) t).Ok:=mF hO hto.1;have hk:(wk s.sl (s.sl.length+1) t).Kw:=pR hW hto.2;obtain⟨ns,hn,hr⟩:=ht.inv;unfold lA at hn
   obtain⟨us,e,h1,h2,h3⟩:=Qv (s:=s) hw hn.1 (fun i a n hi hni=>by
     have:=yR hni;exact ih n (by omega) a (hn.2 i a n hi hni) ⟨hw.gw a (aR hi),hk.gw a (aR hi)⟩) _ 0 rfl (by omega) [] rfl (by simp) rfl
   refine⟨⟨(wk s.sl (s.sl.length+1) t).kind,(wk s.sl (s.sl.length+1) t).name,(wk s.sl (s.sl.length+1) t).id,(wk s.sl (s.sl.length+1) t).home,us⟩,?_,⟨⟨by have:=hw.sm;unfold Sm at *;simp only;omega,fun y hy=>(h2 y hy).1⟩,.mk (fun q=>?_) hk.nm fun y hy=>(h2 y hy).2⟩,by rw[Ty.aM];simp only[List.length_cons];omega⟩
   ·rw[ae (af:=g373) rfl rfl (by decide)];rw[g373L0e]at e;generalize wk s.sl (s.sl.length+1) t=x at *;simp at k;simp[sC,tC,zC,uC]at e;simp[g373,k,g373L0e,e]
   ·have:=hk.hd q;refine⟨this.1,?_⟩;rw[this.2]at h1;exact List.length_eq_zero_iff.1 h1
theorem R3:bq.Kw:=.bare rfl (by simp[bq]) (by simp[bq])
theorem c358k{s:dO}(hs:Sm s.sl)(hO:∀x∈s.sl,x.ty.Ok)(hW:∀x∈s.sl,x.ty.Kw){t:Ty}(ht:BZ t):∃(u:Ty) (b:Bool),(aC AP).p 358 [s.pv,t.pv]=some [u.pv,.bool b]∧BZ u∧u.nodes.length≤4000:=by
 obtain⟨r,e,h1,h2,h3⟩:=c355 hs hO (m:=4000) (by omega) ht.1;simp at e;by_cases hr:r≤4000
 · obtain⟨u,e2,hu,hnu⟩:=c373k hs hO hW r t (h3 hr) ht;refine⟨u,true,?_,hu,by omega⟩;simp at e2;have hr':¬(4000:Int)<r:=by omega
   rw[ae (af:=g358) rfl rfl (by decide)];simp[g358,e,hr',e2]
 · refine⟨bq,false,?_,⟨cI rfl,R3⟩,by rw[Ty.aM];simp[bq]⟩;have hr':(4000:Int)<r:=by omega
   rw[ae (af:=g358) rfl rfl (by decide)];simp[g358,e,hr',bq]
def nE(n:Nat):Ty:=⟨4,[45,62],0,0,[bO n,bO (n+1:Nat)]⟩
theorem va{n:Int}:(bO n).Kw:=.bare rfl (by simp[bO]) (by simp[bO])
theorem pU{S:List Int}{n:Int}(h:n∈S):Fit S (bO n):=⟨cI rfl,va,fun w ho=>by rw[jT (t:=bO n) rfl ho];exact h⟩
theorem ve{n:Nat}:Fit (eJ (n+2)) (nE n) where
 ok:=⟨by simp[nE,Sm],by intro x hx;simp[nE]at hx;rcases hx with rfl|rfl<;>exact cI rfl⟩
 wf:=.mk (by simp[nE]) (by simp[nE]) (by intro x hx;simp[nE]at hx;rcases hx with rfl|rfl<;>exact va)
 nj:=by
   intro w ho;cases ho with
   |var q=>simp[nE]at q
   |arg _ ha ho=>
     simp[nE]at ha;rcases ha with rfl|rfl
     ·exact (pU (S:=eJ (n+2)) (eM.2 (by omega))).nj w ho
     ·exact (pU (S:=eJ (n+2)) (eM.2 (by omega))).nj w ho
theorem yZ{s:dO}{i:Nat}{v:Sl}(h:s.sl[i]?=some v):∀k,(pT s k).sl[i]?=some v
 |0=>h
 |k+1=>by
   have ih:=yZ h k;have hl:i<(pT s k).sl.length:=by obtain⟨h,_⟩:=List.getElem?_eq_some_iff.1 ih;exact h
   simp only[pT,cV];rw[List.getElem?_append_left hl];exact ih
theorem Fh{s:dO}{v:Int}:∀{k:Nat},qJ (pT s k).sl v→qJ s.sl v
 |0,h=>h
 |k+1,h=>by
   obtain⟨j,x,e,hx,hb⟩:=h;simp only[pT,cV]at hx;by_cases hl:j<(pT s k).sl.length
   ·rw[List.getElem?_append_left hl]at hx;exact Fh (k:=k) ⟨j,x,e,hx,hb⟩
   · rw[List.getElem?_append_right (by omega)]at hx
     have:j-(pT s k).sl.length=0:=by
       have:=(List.getElem?_eq_some_iff.1 hx).1;simpa using this
     rw[this]at hx;simp at hx;subst hx;cases hb
theorem R4{s:List Sl}{v:Int}(h:qJ s v):v<s.length:=by
 obtain⟨k,x,e,hx,_⟩:=h;have:=(List.getElem?_eq_some_iff.1 hx).1;omega
theorem Pa{n M:Nat}{s:dO}(I:Inv n M (eJ n) s){i:Nat}{v:Sl}(hv:s.sl[i]?=some v)(hf:¬qJ s.sl (i:Int)) :
   Inv (n+2) (M+2*(2*(n+2)+4)) (eJ (n+2)) (gX (pT s 2) i v ⟨true,nE n,v.home,v.base⟩):=by
 have J:=np I 2;have h1:=yZ hv 2;have fi:¬qJ (pT s 2).sl (i:Int):=fun h=>hf (Fh h)
 have hi:i<n:=by have:=(List.getElem?_eq_some_iff.1 hv).1;rw[I.len]at this;exact this
 refine (BQ J (t:=nE n) h1 fi Kp.refl (by omega) h1 ve.ok ve.wf ve.nj ?_ rfl rfl).1
 rintro⟨w,ho,hr⟩
 have hw:n≤w:=by
   cases ho with
   |var q=>simp[nE]at q
   |arg _ ha ho=>
     simp[nE]at ha;rcases ha with rfl|rfl
     ·rw[jT (t:=bO n) rfl ho];simp[bO]
     ·have:=jT (t:=bO ((n:Int)+1)) rfl ho;simp[bO]at this;omega
 have hnb:¬qJ (pT s 2).sl w:=fun h=>by
   have:=R4 (Fh h);rw[I.len]at this;omega
 have:=uT hr hnb;omega
theorem Fit.gY{S S':List Int}{t:Ty}(h:Fit S t)(hS:∀w∈S,w∈S'):Fit S' t:=⟨h.ok,h.wf,fun w ho=>hS w (h.nj w ho)⟩
theorem w7{n m:Nat}(h:n≤m):∀w∈eJ n,w∈eJ m:=fun w hw=>by have:=eM.1 hw;exact eM.2 (by omega)
structure U_(m M:Nat)(s:dO)(t w g:Ty)(args:List Ty)(vs:List As):Prop where
 inv:Inv m M (eJ m) s
 t:Fit (eJ m) t
 w:Fit (eJ m) w
 g:Fit (eJ m) g
 args:∀a∈args,Fit (eJ m) a
 vs:∀x∈vs,Fit (eJ m) x.ty
theorem Fit.wk{m M:Nat}{s:dO}(I:Inv m M (eJ m) s){t:Ty}(h:Fit (eJ m) t):Fit (eJ m) (lA s.sl t):=⟨mF I.ok h.ok,pR I.wf h.wf,lB I.nj h.nj⟩
theorem c194a{a b:Ty}:(aC AP).p 194 [(Ty.mk 4 [45,62] 0 0 [a,b]).pv]=some [a.pv,b.pv,.bool true]:=by
 rw[ae (af:=g194) rfl rfl (by decide)];simp[g194]
theorem c194f{S:List Int}{t:Ty}(ht:Fit S t):∃(a b:Ty) (c:Bool),(aC AP).p 194 [t.pv]=some [a.pv,b.pv,.bool c]∧(c=true→t.kind=4∧Fit S a∧Fit S b):=by
 obtain⟨a,b,c,e,_,_,h⟩:=c194g ht.ok;refine⟨a,b,c,e,?_⟩;intro hc;have q:=h hc;have hk:t.kind=4:=by rw[q]
 have ha:a∈t.args:=by rw[q];simp
 have hb:b∈t.args:=by rw[q];simp
 have hn:t.kind≠1:=by rw[hk];decide
 exact⟨hk,⟨ht.ok.gw a ha,ht.wf.gw a ha,fun w ho=>ht.nj w (.arg hn ha ho)⟩,⟨ht.ok.gw b hb,ht.wf.gw b hb,fun w ho=>ht.nj w (.arg hn hb ho)⟩⟩
def mL(q:aG):Option (bg×St):=some (.ret,⟨[(10,.dH []),(11,.dH []),(12,.pv (.bool false))],[],[],q⟩)
def lM(vs:List As)(N:Nat)(s:dO)(g w t:Ty)(args:List Ty):St:=⟨[(3,.pv (.au (vs.map As.pv))),(4,.pv (vI N)),(5,.az 5 0),(7,.az 7 0),(16,.az 16 0),(17,.az 17 0),(18,.own (args.map Ty.pv) 0)],[(5,sC s),(7,tC g),(16,tC w),(17,tC t)],[],[args.length]⟩
theorem U'{m M:Nat}{s:dO}{t w g:Ty}{args:List Ty}{vs:List As}(E:U_ m M s t w g args vs)(hm:m≤30000)(hM:M≤10000000){N:Nat}(hl:args.length<N)(hN:N≤1000) :
   (∃q,cl AP g389L1 (lM vs N s g w t args)=mL q)∨∃m' M' s' t' args',m≤m'∧m'≤m+2∧M'≤M+200000∧args'.length=args.length+1∧U_ m' M' s' t' w g args' vs∧cl AP g389L1 (lM vs N s g w t args)=cl AP g389L1 (lM vs N s' g w t' args'):=by
 have hsl:=E.inv.len;have hsm:Sm s.sl:=by unfold Sm;omega
 have k1:=c386 hsm (t:=t);have F:=E.t.wk E.inv;have fr:=u_ E.inv.MG (t:=t)
 change (aC AP).p 386 [s.pv,t.pv]=some [(lA s.sl t).pv]at k1
 generalize lA s.sl t=x at *;have hb:(args.length+1)*64≤140737488355328:=by omega
 have hlN:(args.length:Int)<N:=by omega
 have wk2:∀w∈eJ m,w∈eJ (m+2):=w7 (by omega);by_cases hk:x.kind=1
 · have FA:=eM.1 (F.nj _ (.var hk));obtain⟨i,hi⟩:∃i:Nat,x.id=i:=⟨x.id.toNat,by omega⟩;have him:i<m:=(by omega);have his:i<s.sl.length:=(by omega);obtain⟨o,ho⟩:=aV his;have fi:¬qJ s.sl (i:Int):=(by rw[←hi];exact jF hk fr);cases hbs:o.base with
   |true=>
     left;obtain⟨a,b,c,k2,h2⟩:=c194f F
     have hc:c=false:=by
       cases c with
       |false=>rfl
       |true=>have:=(h2 rfl).1;omega
     subst hc;simp[hk,hi]at k1 k2;rw[g389L1e];simp (disch:=omega) [-getElem?_pos,g389B1,lM,mL,sC,tC,hlN,k1,hk,hi,his,ho,hbs,k2]
   |false=>
     right;have J:=np E.inv 1;have hu:ub (pT s 1).sl≤m+1:=by have:=Qt (s:=(pT s 1).sl);rw[J.len]at this;exact this
     have c1:=c381 E.inv.NH (by omega) (by omega) 1000000 false;have c2:=c381 J.NH (by omega) (by omega) 1000000 false;have J2:=np E.inv 2;have h2:=yZ ho 2;have c4:=c393 J2.NH (by omega) (by omega) h2 ⟨true,nE m,o.home,o.base⟩;have c3:=c69 (a:=bO m) (b:=bO (m+1:Nat));have c5:=c194a (a:=bO m) (b:=bO (m+1:Nat));have I:=Pa E.inv ho fi;have e1:pT s 1=cV s 1000000 false:=rfl;have e2:pT s 2=cV (cV s 1000000 false) 1000000 false:=rfl;have hl2:(pT s 2).sl.length=m+2:=J2.len;rw[hsl]at c1;rw[J.len,e1]at c2;refine⟨m+2,M+200000,gX (pT s 2) i o ⟨true,nE m,o.home,o.base⟩,bO (m+1:Nat),args++[bO m],by omega,by omega,by omega,by simp,⟨I.gY (by omega) (fun _ h=>h),pU (eM.2 (by omega)),E.w.gY wk2,E.g.gY wk2,?_,fun x hx=>(E.vs x hx).gY wk2⟩,?_⟩
     · intro a ha;simp at ha;rcases ha with ha|rfl
       ·exact (E.args a ha).gY wk2
       ·exact pU (eM.2 (by omega))
     · rw[e2]at c4 h2 hl2⊢;generalize gX (cV (cV s 1000000 false) 1000000 false) i o ⟨true,nE m,o.home,o.base⟩=s3 at *;generalize cV (cV s 1000000 false) 1000000 false=s2 at *;generalize cV s 1000000 false=s1 at *;have hi2:i<s2.sl.length:=by omega
       simp[hk,hi]at k1;simp[bO,hbs]at c1 c2 c3 c4 c5;simp[nE,bO]at c4;conv=>lhs;rw[g389L1e]
       simp (disch:=omega) [-getElem?_pos,g389B1,lM,sC,tC,hlN,k1,hk,hi,his,ho,hbs,c1,c2,h2,hi2,c3,c4,c5,bO,hb]
 · obtain⟨a,b,c,k2,h2⟩:=c194f F;simp at k1 k2;cases c with
   |false=>
     left;rw[g389L1e];simp (disch:=omega) [-getElem?_pos,g389B1,lM,mL,sC,tC,hlN,k1,hk,k2]
   |true=>
     right;obtain⟨_,fa,fb⟩:=h2 rfl;refine⟨m,M,s,b,args++[a],by omega,by omega,by omega,by simp,⟨E.inv,fb,E.w,E.g,?_,E.vs⟩,?_⟩
     · intro y hy;simp at hy;rcases hy with hy|rfl
       ·exact E.args y hy
       ·exact fa
     · conv=>lhs;rw[g389L1e]
       simp (disch:=omega) [-getElem?_pos,g389B1,lM,sC,tC,hlN,k1,hk,k2,hb]
theorem Qw{vs:List As}{N:Nat}(hN:N≤1000){w g:Ty}:∀(k m M:Nat) (s:dO) (t:Ty) (args:List Ty),N-args.length=k→args.length≤N→U_ m M s t w g args vs→m+2*k≤30000→M+200000*k≤10000000 →
   (∃q,cl AP g389L1 (lM vs N s g w t args)=mL q)∨∃m' M' s' t' args',m'≤30000∧M'≤10000000∧args'.length=N∧U_ m' M' s' t' w g args' vs∧cl AP g389L1 (lM vs N s g w t args)=some (.exit 2,⟨[(3,.pv (.au (vs.map As.pv))),(4,.pv (vI N)),(5,.az 5 0),(7,.az 7 0),(16,.az 16 0),(17,.az 17 0),(18,.own (args'.map Ty.pv) 0),(59,.pv (.bool false))],[(5,sC s'),(7,tC g),(16,tC w),(17,tC t')],[],[args'.length]⟩)
 |0,m,M,s,t,args,hk,ha,E,h1,h2=>by
   have hl:args.length=N:=(by omega);refine .inr ⟨m,M,s,t,args,by omega,by omega,hl,E,?_⟩;rw[g389L1e];simp[g389B1,lM,sC,tC,hl]
 |k+1,m,M,s,t,args,hk,ha,E,h1,h2=>by
   rcases U' E (by omega) (by omega) (N:=N) (by omega) hN with h|⟨m',M',s',t',args',a1,a2,a3,a4,E',e⟩
   ·exact .inl h
   ·rw[e];exact Qw hN k m' M' s' t' args' (by omega) (by omega) E' (by omega) (by omega)
def JA(u:Ty):Prop:=BZ u∧u.nodes.length≤4000
theorem Qx{m M:Nat}{s:dO}(I:Inv m M (eJ m) s)(hm:m≤1000000){vs:List As}(hv:vs.length≤100000)(hF:∀x∈vs,Fit (eJ m) x.ty){args:List Ty}:∀(k i:Nat),vs.length-i=k→i≤vs.length→∀acc:List Ty,acc.length=i→(∀u∈acc,JA u) →
   (∃q,cl AP g389L2 ⟨[(3,.pv (.au (vs.map As.pv))),(5,.az 5 0),(18,.own (args.map Ty.pv) 0),(29,.own (acc.map Ty.pv) 1),(30,.pv (vI i))],[(5,sC s)],[],[args.length,acc.length]⟩=mL q) ∨
   ∃us:List Ty,us.length=vs.length∧(∀u∈us,JA u)∧cl AP g389L2 ⟨[(3,.pv (.au (vs.map As.pv))),(5,.az 5 0),(18,.own (args.map Ty.pv) 0),(29,.own (acc.map Ty.pv) 1),(30,.pv (vI i))],[(5,sC s)],[],[args.length,acc.length]⟩ =
     some (.exit 4,⟨[(3,.pv (.au (vs.map As.pv))),(5,.az 5 0),(18,.own (args.map Ty.pv) 0),(29,.own (us.map Ty.pv) 1),(30,.pv (vI vs.length)),(153,.pv (.bool false))],[(5,sC s)],[],[args.length,us.length]⟩)
 |0,i,hk,hi,acc,ha,hu=>by
   have:i=vs.length:=by omega
   subst this;refine .inr ⟨acc,ha,hu,?_⟩;rw[g389L2e];simp[g389B2,sC]
 |k+1,i,hk,hi,acc,ha,hu=>by
   have hi:i<vs.length:=(by omega);obtain⟨x,hx⟩:=aV hi;have fx:=hF x (aR hx);have hsm:Sm s.sl:=(by unfold Sm;rw[I.len];omega);obtain⟨r,k1,_,_,_⟩:=c355 hsm I.ok (m:=200) (by omega) fx.ok;have hb:(acc.length+1)*64≤140737488355328:=(by omega);by_cases hr:(200:Int)<r
   ·left;simp at k1;rw[g389L2e];simp (disch:=omega) [-getElem?_pos,g389B2,mL,sC,hx,hi,k1,hr]
   · obtain⟨u,b,k2,hu1,hu2⟩:=c358k hsm I.ok I.wf ⟨fx.ok,fx.wf⟩
     have ih:=Qx I hm hv hF (args:=args) k (i+1) (by omega) (by omega) (acc++[u]) (by simp;omega) (by
       intro y hy;simp at hy;rcases hy with hy|rfl
       ·exact hu y hy
       ·exact⟨hu1,hu2⟩)
     have e1:cl AP g389L2 ⟨[(3,.pv (.au (vs.map As.pv))),(5,.az 5 0),(18,.own (args.map Ty.pv) 0),(29,.own (acc.map Ty.pv) 1),(30,.pv (vI i))],[(5,sC s)],[],[args.length,acc.length]⟩=cl AP g389L2 ⟨[(3,.pv (.au (vs.map As.pv))),(5,.az 5 0),(18,.own (args.map Ty.pv) 0),(29,.own ((acc++[u]).map Ty.pv) 1),(30,.pv (vI (i+1:Nat)))],[(5,sC s)],[],[args.length,(acc++[u]).length]⟩:=by
       simp at k1 k2;conv=>lhs;rw[g389L2e]
       simp (disch:=omega) [-getElem?_pos,g389B2,sC,hx,hi,k1,hr,k2,hb,ah]
     rw[e1];exact ih
theorem Qy{m M:Nat}{s:dO}(I:Inv m M (eJ m) s)(hm:m≤1000000){p3:PV}{args:List Ty}(hv:args.length≤100000)(hF:∀x∈args,Fit (eJ m) x){V:Nat}:∀(k i:Nat),args.length-i=k→i≤args.length→∀acc:List Ty,acc.length≤V+i→V≤100000→(∀u∈acc,JA u) →
   ∃us:List Ty,us.length≤V+args.length∧(∀u∈us,JA u)∧acc.length≤us.length∧cl AP g389L3 ⟨[(3,.pv p3),(5,.az 5 0),(18,.own (args.map Ty.pv) 0),(29,.own (acc.map Ty.pv) 1),(33,.pv (vI i))],[(5,sC s)],[],[args.length,acc.length]⟩ =
     some (.exit 6,⟨[(3,.pv p3),(5,.az 5 0),(18,.own (args.map Ty.pv) 0),(29,.own (us.map Ty.pv) 1),(33,.pv (vI args.length)),(181,.pv (.bool false))],[(5,sC s)],[],[args.length,us.length]⟩)
 |0,i,hk,hi,acc,ha,hV,hu=>by
   have:i=args.length:=by omega
   subst this;refine⟨acc,ha,hu,Nat.le_refl _,?_⟩;rw[g389L3e];simp[g389B3,sC]
 |k+1,i,hk,hi,acc,ha,hV,hu=>by
   have hi:i<args.length:=(by omega);obtain⟨x,hx⟩:=aV hi;have fx:=hF x (aR hx);have hsm:Sm s.sl:=(by unfold Sm;rw[I.len];omega);have hb:(acc.length+1)*64≤140737488355328:=(by omega);obtain⟨u,b,k2,hu1,hu2⟩:=c358k hsm I.ok I.wf ⟨fx.ok,fx.wf⟩
   obtain⟨us,q1,q2,q3,e⟩:=Qy I hm hv hF (p3:=p3) (V:=V) k (i+1) (by omega) (by omega) (acc++[u]) (by simp;omega) hV (by
       intro y hy;simp at hy;rcases hy with hy|rfl
       ·exact hu y hy
       ·exact⟨hu1,hu2⟩)
   refine⟨us,q1,q2,by simp at q3;omega,?_⟩;rw[g389L3e]at e⊢;simp[sC]at e;simp at k2;simp (disch:=omega) [-getElem?_pos,g389B3,sC,hx,hi,k2,hb,ah];rw[g389L3e];simp[e]
theorem Pb{l:List Ty}{t:Ty}:∀w,iA (t.nh l) w→iA t w∨∃x∈l,iA x w:=by
 refine Ty.dF (p:=fun t=>∀w,iA (t.nh l) w→iA t w∨∃x∈l,iA x w) ?_ t;intro t ih w h;rw[Ty.mC]at h;cases e:Mo l t with
 |some x=>
   rw[e]at h;obtain⟨_,_,_,hx⟩:=mB e;exact .inr ⟨x,aR hx,h⟩
 |none=>
   rw[e]at h;simp only[Option.getD_none]at h;generalize hy:(Ty.mk t.kind t.name t.id t.home (t.args.map (Ty.nh l)))=y at h;cases h with
   |var q=>subst hy;exact .inl (.var q)
   |arg q ha ho=>
     subst hy;simp only[List.mem_map]at ha;obtain⟨a,ha,rfl⟩:=ha;rcases ih a ha _ ho with h|h
     ·exact .inl (.arg q ha h)
     ·exact .inr h
theorem Qz{sz τ:Nat}{l:List PV}{k:IntKind}{h:Int}(h0:0≤h)(h1:h≤l.length)(hs:bf sz l=true):dK false sz true false false [.own l τ,.pv (.int k h)]=some (.pv (.au (l.drop h.toNat))):=by
 simp[dK,cJ,eK,h0,h1,hs]
abbrev Mt:=List (Int×Ty)
def lD:Mt→Int→Option Ty
 |[],_=>none
 |(j,x)::r,i=>if i=j then some x else lD r i
def qM:Mt→Int→Ty→Mt
 |[],i,t=>[(i,t)]
 |(j,x)::r,i,t=>if i=j then (i,t)::r else (j,x)::qM r i t
def mp(m:Mt):List (PV×PV):=m.map fun a=>(vI a.1,a.2.pv)
theorem sS{i j:Int}{t:Ty}:∀{m:Mt},lD (qM m i t) j=if j=i then some t else lD m j
 |[]=>by simp[qM,lD]
 |(k,x)::r=>by
   have ih:=sS (i:=i) (j:=j) (t:=t) (m:=r);simp only[qM,lD];by_cases e:i=k
   ·subst e;by_cases e2:j=i<;>simp[lD,e2]
   · by_cases e2:j=i
     ·subst e2;simp[lD,e,ih]
     ·have e':¬k=i:=fun h=>e h.symm;by_cases e3:j=k<;>simp[lD,e,e',e2,e3,ih]
def Fi(m:Mt):Prop:=∀i x,lD m i=some x→x.Ok
theorem Fi.put{m:Mt}(h:Fi m){t:Ty}(ht:t.Ok){i:Int}:Fi (qM m i t):=by
 intro j x hx;rw[sS]at hx;split at hx
 ·cases hx;exact ht
 ·exact h j x hx
def Va(p t:Ty):Bool:=decide (p.kind=t.kind) && decide (p.name=t.name) && decide (p.id=t.id) && decide (p.home=t.home) && decide (p.args.length=t.args.length)
def WS:Ty:=⟨0,[],0,0,[]⟩
def gT(m:Mt)(n:Nat):List Ty:=(List.range n).map fun i:Nat=>(lD m i).getD WS
theorem jj{m:Mt}{n:Nat}:(gT m n).length=n:=by simp[gT]
def rI:Option (List Ty)→List PV
 |some l=>[.au (l.map Ty.pv),.bool true]
 |none=>[.au [],.bool false]
def QA(m:Mt)(n:Nat):List Bool:=(List.range n).map fun i:Nat=>(lD m i).isSome
theorem sT{m:Mt}{n:Nat}:(QA m n).length=n:=by simp[QA]
theorem qN{m:Mt}{n i:Nat}(h:i<n):(gT m n)[i]?=some ((lD m i).getD WS):=by simp[gT,h]
theorem y1{m:Mt}{n i:Nat}(h:i<n):(QA m n)[i]?=some (lD m i).isSome:=by simp[QA,h]
theorem JB{m:Mt}{n i:Nat}{t:Ty}:gT (qM m i t) n=(gT m n).set i t:=by
 apply List.ext_getElem?
 intro j;by_cases hj:j<n
 · rw[qN hj,List.getElem?_set,sS];by_cases e:i=j
   ·subst e;simp[jj,hj]
   ·have e':¬(j:Int)=i:=(by omega);simp[e,e',qN hj]
 ·rw[List.getElem?_eq_none (by rw[jj];omega),List.getElem?_eq_none (by simp[jj];omega)]
theorem Pc{m:Mt}{n i:Nat}{t:Ty}:QA (qM m i t) n=(QA m n).set i true:=by
 apply List.ext_getElem?
 intro j;by_cases hj:j<n
 · rw[y1 hj,List.getElem?_set,sS];by_cases e:i=j
   ·subst e;simp[sT,hj]
   ·have e':¬(j:Int)=i:=(by omega);simp[e,e',y1 hj]
 ·rw[List.getElem?_eq_none (by rw[sT];omega),List.getElem?_eq_none (by simp[sT];omega)]
theorem w8:∀{l:List Ty} {i:Nat},i≤l.length→(l.flatMap Ty.cl).take (i*5)=(l.take i).flatMap Ty.cl
 |_,0,_=>by simp
 |[],i+1,h=>by simp at h
 |a::r,i+1,h=>by
   have ih:=w8 (l:=r) (i:=i) (by simp at h;omega);have e:(i+1)*5=a.cl.length+i*5:=(by simp[Ty.cl];omega);rw[List.flatMap_cons,List.take_succ_cons,List.flatMap_cons,e,List.take_length_add_append,ih]
theorem qO:∀{l:List Ty} {i:Nat},i≤l.length→(l.flatMap Ty.cl).drop (i*5)=(l.drop i).flatMap Ty.cl
 |_,0,_=>by simp
 |[],i+1,h=>by simp at h
 |a::r,i+1,h=>by
   have ih:=qO (l:=r) (i:=i) (by simp at h;omega);have e:(i+1)*5=a.cl.length+i*5:=(by simp[Ty.cl];omega);rw[List.flatMap_cons,List.drop_succ_cons,e,List.drop_length_add_append,ih]
theorem Pd{l:List Ty}{i:Nat}{t:Ty}(h:i<l.length):aQ (j_ l 0) (i*5) t.cl=j_ (l.set i t) 0:=by
 have e0:∀l:List Ty,j_ l 0=l.flatMap Ty.cl:=fun l=>by simp[j_]
 rw[aF,e0,e0,w8 (by omega)];have e1:i*5+t.cl.length=(i+1)*5:=by simp[Ty.cl];omega
 rw[e1,qO (by omega),List.set_eq_take_append_cons_drop,if_pos h];simp
theorem Pe{l:List Ty}{i:Nat}{x:Ty}(h:l[i]?=some x):((j_ l 0).drop (i*5)).take 5=x.cl:=by
 have hi:i<l.length:=(List.getElem?_eq_some_iff.1 h).1;have e0:j_ l 0=l.flatMap Ty.cl:=by simp[j_]
 rw[e0,qO (by omega),bj h,List.flatMap_cons];have:(5:Nat)=x.cl.length:=by simp[Ty.cl]
 rw[this,List.take_left]
mutual
noncomputable def Ty.rt(t:Ty)(m:Mt):Ty→Bool×Mt
 |⟨k,n,i,h,as⟩=>if k=2 then (match lD m i with|some x=>(decide (x=t),m)|none=>(true,qM m i t)) else if Va ⟨k,n,i,h,as⟩ t=true then Ty.Gg t.args m as else (false,m)
noncomputable def Ty.Gg(ts:List Ty)(m:Mt):List Ty→Bool×Mt
 |[]=>(true,m)
 |p::ps=>match ts with
   |[]=>(true,m)
   |t::ts=>if (Ty.rt t m p).1=true then Ty.Gg ts (Ty.rt t m p).2 ps else (false,(Ty.rt t m p).2)
end
theorem Ty.QB(t:Ty)(m:Mt)(p:Ty):Ty.rt t m p=if p.kind=2 then (match lD m p.id with|some x=>(decide (x=t),m)|none=>(true,qM m p.id t)) else if Va p t=true then Ty.Gg t.args m p.args else (false,m):=by
 cases p;simp only[Ty.rt]
def Cq(m:Mt)(n:Nat):List AV:=(QA m n).map fun b=>.pv (.bool b)
theorem y3{m:Mt}{n:Nat}:(Cq m n).length=n:=by simp[Cq,sT]
theorem Pf{m:Mt}{n i:Nat}(h:i<n):(Cq m n)[i]?=some (.pv (.bool (lD m i).isSome)):=by simp[Cq,y1 h]
theorem Fj{m:Mt}{n:Nat}:∀v∈Cq m n,∃p,v=AV.pv p:=by
 intro v hv;simp only[Cq,List.mem_map]at hv;obtain⟨b,_,rfl⟩:=hv;exact⟨_,rfl⟩
theorem B3{m:Mt}{n:Nat}:bV (Cq m n)=false:=bI Fj
theorem Pg{m:Mt}{n i:Nat}{t:Ty}(h:i<n):aQ (Cq m n) (i*1) [.pv (.bool true)]=Cq (qM m i t) n:=by
 have hl:i<(Cq m n).length:=by rw[y3];exact h
 rw[aF]
 have e:Cq (qM m i t) n=(Cq m n).set i (.pv (.bool true)):=by
   unfold Cq;rw[Pc,List.map_set]
 rw[e,List.set_eq_take_append_cons_drop,if_pos hl];simp
theorem Ph{m:Mt}{n i:Nat}{t:Ty}(h:i<n):aQ (j_ (gT m n) 0) (i*5) t.cl=j_ (gT (qM m i t) n) 0:=by
 rw[JB];exact Pd (by rw[jj];exact h)
def nZ(m:Mt)(n:Nat):Sh:=[some (j_ (gT m n) 0),some (Cq m n)]
theorem et{m:Mt}{n:Nat}:aL (nZ m n):=aL.app (aL.one yG) (aL.one Fj)
theorem B4{m m':Mt}{n n':Nat}:(nZ m' n').take (nZ m n).length=nZ m' n':=rfl
def Pj(n:Nat)(p:Ty):Prop:=∀x∈p.nodes,x.kind=2→0≤x.id∧x.id<n
theorem Pj.gw{n:Nat}{p:Ty}(h:Pj n p):∀y∈p.args,Pj n y:=by
 intro y hy x hx;refine h x ?_;rw[Ty.aM p];simp only[List.mem_cons,List.mem_flatMap];exact .inr ⟨y,hy,hx⟩
theorem MR:∀{ps ts:List Ty} {m:Mt},(∀p∈ps,∀t∈ts,∀m,Fi m→Fi (Ty.rt t m p).2)→Fi m→Fi (Ty.Gg ts m ps).2
 |[],ts,m,_,h=>by simpa[Ty.Gg] using h
 |p::ps,[],m,_,h=>by simpa[Ty.Gg] using h
 |p::ps,t::ts,m,hp,h=>by
   have h1:=hp p (by simp) t (by simp) m h;simp only[Ty.Gg];split
   ·exact MR (fun q hq u hu=>hp q (by simp[hq]) u (by simp[hu])) h1
   ·exact h1
theorem Vb{p:Ty}:∀{t:Ty},t.Ok→∀m,Fi m→Fi (Ty.rt t m p).2:=by
 refine Ty.dF (p:=fun p=>∀{t:Ty},t.Ok→∀m,Fi m→Fi (Ty.rt t m p).2) ?_ p;intro p ih t ht m hm;rw[Ty.QB];split
 · split
   ·exact hm
   ·exact hm.put ht
 · split
   ·exact MR (fun q hq u hu m hm=>ih q hq (ht.gw u hu) m hm) hm
   ·exact hm
theorem Vc{N:Nat}{p t:Ty}(hS:Sm t.args)(hl:p.args.length=t.args.length)(h:∀x∈p.args,∀y∈t.args,∀m,Fi m→(aC AP).i 240 [.pv x.pv,.pv y.pv,.aP 0 5 N true,.aP 1 1 N false] (nZ m N) []=some ([.pv (.bool (Ty.rt y m x).1)],nZ (Ty.rt y m x).2 N,[]))
   (hO:t.Ok):∀(n i:Nat),t.args.length-i=n→i≤t.args.length→∀m,Fi m →
   cl AP g240L0 ⟨[(2,.aP 0 5 N true),(3,.aP 1 1 N false),(4,.az 4 0),(5,.az 5 0),(9,.pv (vI i))],[(4,[.pv (vI p.kind),.pv (.str p.name),.pv (vI p.id),.pv (vI p.home),.pv (.au (p.args.map Ty.pv))]),(5,[.pv (vI t.kind),.pv (.str t.name),.pv (vI t.id),.pv (vI t.home),.pv (.au (t.args.map Ty.pv))])],nZ m N,[]⟩ =
     if (Ty.Gg (t.args.drop i) m (p.args.drop i)).1=true then some (.exit 0,⟨[(2,.aP 0 5 N true),(3,.aP 1 1 N false),(4,.az 4 0),(5,.az 5 0),(9,.pv (vI t.args.length)),(80,.pv (.bool false))],[(4,[.pv (vI p.kind),.pv (.str p.name),.pv (vI p.id),.pv (vI p.home),.pv (.au (p.args.map Ty.pv))]),(5,[.pv (vI t.kind),.pv (.str t.name),.pv (vI t.id),.pv (vI t.home),.pv (.au (t.args.map Ty.pv))])],nZ (Ty.Gg (t.args.drop i) m (p.args.drop i)).2 N,[]⟩)
     else some (.ret,⟨[(8,.pv (.bool false))],[],nZ (Ty.Gg (t.args.drop i) m (p.args.drop i)).2 N,[]⟩)
 |0,i,hn,hi,m,hm=>by
   have:i=t.args.length:=by omega
   subst this;have e1:p.args.drop t.args.length=[]:=by rw[←hl];simp
   have h1:=(et (m:=m) (n:=N)).norm;rw[g240L0e,e1];simp[g240B0,Ty.Gg,h1,hl]
 |n+1,i,hn,hi,m,hm=>by
   have hi:i<t.args.length:=(by omega);obtain⟨y,hy⟩:=aV hi;obtain⟨x,hx⟩:=aV (l:=p.args) (i:=i) (by omega);have hix:i<p.args.length:=(by omega);unfold Sm at hS;have h1:=(et (m:=m) (n:=N)).norm;have h2:=(et (m:=(Ty.rt y m x).2) (n:=N)).norm;have h3:=(et (m:=(Ty.rt y m x).2) (n:=N)).shift;have k:=h x (aR hx) y (aR hy) m hm;have ih:=Vc hS hl h hO n (i+1) (by omega) (by omega) (Ty.rt y m x).2 (Vb (hO.gw y (aR hy)) m hm);rw[g240L0e]at ih⊢;rw[bj hx,bj hy];simp only[Ty.Gg];simp[h2]at k ih;by_cases e:(Ty.rt y m x).1=true
   ·rw[e]at k;simp only[if_pos e];simp (disch:=omega) [-getElem?_pos,g240B0,hx,hy,hi,hix,k,ah,h1,h2,h3];rw[g240L0e];simp[ih,h2]
   ·have e':(Ty.rt y m x).1=false:=(by simpa using e);rw[e']at k;simp only[if_neg e];simp (disch:=omega) [-getElem?_pos,g240B0,hx,hy,hi,hix,k,ah,h1,h2,h3]
theorem c240{N:Nat}(hN:N<1099511627776){p:Ty}:∀{t:Ty},t.Ok→Pj N p→∀m,Fi m→(aC AP).i 240 [.pv p.pv,.pv t.pv,.aP 0 5 N true,.aP 1 1 N false] (nZ m N) []=some ([.pv (.bool (Ty.rt t m p).1)],nZ (Ty.rt t m p).2 N,[]):=by
 refine Ty.dF (p:=fun p=>∀{t:Ty},t.Ok→Pj N p→∀m,Fi m→(aC AP).i 240 [.pv p.pv,.pv t.pv,.aP 0 5 N true,.aP 1 1 N false] (nZ m N) []=some ([.pv (.bool (Ty.rt t m p).1)],nZ (Ty.rt t m p).2 N,[])) ?_ p;intro p ih t ht hR m hm;have h1:=(et (m:=m) (n:=N)).norm;have h2:=(et (m:=m) (n:=N)).shift;rw[aE (af:=g240) rfl (by simp[g240]),Ty.QB];by_cases e2:p.kind=2
 · obtain⟨i0,i1⟩:=hR p (by rw[Ty.aM];simp) e2;obtain⟨k,hk,hkN⟩:=pF i0 i1;have kl:=Pf (m:=m) hkN;have kl2:=y3 (m:=m) (n:=N);have al:=Bx (d:=gT m N) (m:=0);rw[jj]at al;have fl:=qN (m:=m) hkN;have gl:=Pe fl;have hlen:k*5+5≤(j_ (gT m N) 0).length:=by omega
   have hk1:k+1≤N:=hkN;rw[if_pos e2,hk];cases hf:lD m k with
   |none=>
     rw[hf]at kl;have s1:=Ph (m:=m) (t:=t) hkN;have s2:=Pg (m:=m) (t:=t) hkN;have h3:=(et (m:=qM m k t) (n:=N)).norm;simp[nZ,Ty.cl]at h1 h2 h3 kl s1 s2;simp (disch:=omega) [-getElem?_pos,g240,e2,hk,hkN,hk1,nZ,h1,h2,h3,kl,kl2,B3,s1,s2,hlen]
   |some x=>
     rw[hf]at kl gl;have q:=c20 (a:=x) (b:=t) (hm _ _ hf);simp[nZ,Ty.cl]at h1 h2 kl gl q;simp (disch:=omega) [-getElem?_pos,g240,e2,hk,hkN,hk1,nZ,h1,h2,kl,kl2,B3,gl,hlen,q]
 · rw[if_neg e2];by_cases e:Va p t=true
   · rw[if_pos e];simp[Va]at e;obtain⟨⟨⟨⟨e1,e2'⟩,e3⟩,e4⟩,e5⟩:=e;have h:=Vc (N:=N) (p:=p) (t:=t) ht.sm e5 (fun x hx y hy m hm=>ih x hx (ht.gw y hy) (hR.gw x hx) m hm) ht _ 0 rfl (by omega) m hm;have h3:=(et (m:=(Ty.Gg t.args m p.args).2) (n:=N)).norm;rw[g240L0e]at h;have e2t:¬t.kind=2:=by rw[←e1];exact e2
     simp[h1,e1,e2',e3,e4]at h;cases e6:(Ty.Gg t.args m p.args).1 with
     |true=>simp[e6]at h;simp[g240,e2t,e1,e2',e3,e4,e5,h1,h2,h3,B4,g240L0e,h]
     |false=>simp[e6]at h;simp[g240,e2t,e1,e2',e3,e4,e5,h1,h2,h3,B4,g240L0e,h]
   · rw[if_neg e]
     have:¬(p.kind=t.kind∧p.name=t.name∧p.id=t.id∧p.home=t.home∧p.args.length=t.args.length):=by
       rintro⟨h1,h2,h3,h4,h5⟩;apply e;simp[Va,h1,h2,h3,h4,h5]
     by_cases q1:p.kind=t.kind
     · have e2':¬t.kind=2:=(by rw[←q1];exact e2);by_cases q2:p.name=t.name
       · by_cases q3:p.id=t.id
         · by_cases q4:p.home=t.home
           · have h5:¬p.args.length=t.args.length:=fun h5=>this ⟨q1,q2,q3,q4,h5⟩;have h5':¬(p.args.length:Int)=t.args.length:=by omega
             simp[g240,e2',q1,q2,q3,q4,h5',h1,h2]
           ·simp[g240,e2',q1,q2,q3,q4,h1,h2]
         ·simp[g240,e2',q1,q2,q3,h1,h2]
       ·simp[g240,e2',q1,q2,h1,h2]
     ·simp[g240,e2,q1,h1,h2]
theorem QC{n:Nat}:j_ (gT [] n) 0=(List.replicate n [.pv (vI 0),.pv (.str []),.pv (vI 0),.pv (vI 0),.pv (.au [])]).flatten:=by
 have e:gT [] n=List.replicate n WS:=by
   exact List.eq_replicate_iff.2 ⟨by simp[gT],by intro b hb;simp[gT,lD]at hb;exact hb.2.symm⟩
 rw[e];simp only[j_,List.replicate_zero,List.flatten_nil,List.append_nil,List.flatMap_def,List.map_replicate];rfl
theorem Xh{n:Nat}:Cq [] n=List.replicate n (.pv (.bool false)):=List.eq_replicate_iff.2 ⟨y3,by intro b hb;simp[Cq,QA,lD]at hb;exact hb.2.symm⟩
theorem vT{s:List As}(hs:∀a∈s,a.ty.args=[]){t:Ty}(hW:t.Wf):(t.sub s).nodes.length=t.nodes.length:=by
 revert hW
 refine Ty.dF (p:=fun t=>t.Wf→(t.sub s).nodes.length=t.nodes.length) ?_ t;intro t ih hW;rw[Ty.sub_eq];by_cases e:t.kind=1
 · rw[if_pos e];have ea:=hW.var e;cases hf:lp s t.id with
   |none=>rfl
   |some u=>
     obtain⟨a,ha,rfl⟩:=na hf;rw[Option.getD_some,Ty.aM,Ty.aM t,hs a ha,ea];simp
 · rw[if_neg e,Ty.aM,Ty.aM t];simp only[List.length_cons,List.flatMap_map]
   have key:∀(l:List Ty),(∀y∈l,y∈t.args)→(l.flatMap fun y=>(y.sub s).nodes).length=(l.flatMap Ty.nodes).length:=by
     intro l;induction l with
     |nil=>intro _;rfl
     |cons a r ihr=>
       intro hl;simp only[List.flatMap_cons,List.length_append];rw[ih a (hl a (by simp)) (hW.gw a (hl a (by simp))),ihr (fun y hy=>hl y (by simp[hy]))]
   rw[key t.args (fun _ h=>h)]
noncomputable def MS(N:Nat)(p t:Ty):Option (List Ty):=if (Ty.rt t [] p).1=true then some (gT (Ty.rt t [] p).2 N) else none
theorem c238{N:Nat}(hN:N<1000000){p t:Ty}(ht:t.Ok)(hR:Pj N p):(aC AP).p 238 [(As.mk N p).pv,t.pv]=some (rI (MS N p t)):=by
 have k:=c240 (N:=N) (by omega) ht hR [] (by intro i x h;cases h);rw[ae (af:=g238) rfl rfl (by decide)];unfold MS;generalize hm:(Ty.rt t [] p).2=m at k⊢;have hfr:=L2 (d:=gT m N);have hle:=Bx (d:=gT m N) (m:=0);rw[jj]at hfr hle;have h1:=(et (m:=[]) (n:=N)).norm;have h2:=(et (m:=m) (n:=N)).norm;have h3:=(et (m:=m) (n:=N)).shift;have h4:=(aL.one (yG (d:=gT [] N) (m:=0))).norm;have b1:(N:Int)≤9223372036854775807:=by omega
 have b2:(N:Int)*64≤140737488355328:=by omega
 have b3:(N:Int)≤140737488355328:=by omega
 have e0:nZ [] N=[some ((List.replicate N [.pv (vI 0),.pv (.str []),.pv (vI 0),.pv (vI 0),.pv (.au [])]).flatten),some (List.replicate N (.pv (.bool false)))]:=by unfold nZ;rw[QC,Xh]
 rw[e0]at k h1;rw[QC]at h4;have h5:=(aL.one (Fj (m:=[]) (n:=N))).norm;rw[Xh]at h5;simp[nZ]at hfr hle k h1 h2 h3 h4 h5;cases e:(Ty.rt t [] p).1 with
 |true=>
   rw[e]at k;simp (disch:=omega) [g238,b1,b2,b3,h1,h2,h3,h4,h5,k,hfr,hle,rI]
 |false=>
   rw[e]at k;simp (disch:=omega) [g238,b1,b2,b3,h1,h2,h3,h4,h5,k,rI]
theorem Gi:∀{l:List Int} {i:Nat} {v:Int} {x:Ty},lp (gZ i l) v=some x→∃k:Nat,x=bO k
 |[],i,v,x,h=>by simp[gZ,lp]at h
 |a::r,i,v,x,h=>by
   simp only[gZ,lp]at h;split at h
   ·cases h;exact⟨i,rfl⟩
   ·exact Gi h
theorem w_{l:List Int}{i:Nat}:∀a∈gZ i l,a.ty.args=[]:=by
 induction l generalizing i with
 |nil=>simp[gZ]
 |cons v r ih=>
   intro a ha;simp only[gZ,List.mem_cons]at ha;rcases ha with rfl|ha
   ·rfl
   ·exact ih a ha
theorem Pk{l:List Int}{i:Nat}:∀a∈gZ i l,a.ty.Ok:=fun a ha=>cI (w_ a ha)
theorem Pl{l:List Int}{u:Ty}(h:JA u):JA (u.sub (gZ 0 l)):=by
 refine⟨⟨ES Pk h.1.1,?_⟩,?_⟩
 ·refine EY (K:=KS) h.1.2 (fun k q _=>q) ?_ (.inl (by simp));intro i x hx;obtain⟨k,rfl⟩:=Gi hx;exact va
 ·rw[vT w_ h.1.2.wf];exact h.2
theorem MT{l:List Ty}{k:Int}(h:∀u∈l,JA u):(l.flatMap (Ty.fe k)).length≤l.length*4000:=by
 induction l with
 |nil=>simp
 |cons a r ih=>
   have h1:=(h a (by simp)).2;have h2:=pQ (k:=k) (t:=a);have h3:=ih fun u hu=>h u (by simp[hu])
   simp only[List.flatMap_cons,List.length_append,List.length_cons];omega
theorem c395k{l:List Ty}(hl:l.length≤1000000)(h:∀u∈l,JA u):(aC AP).i 395 [.pv (.au (l.map Ty.pv))] [] []=some ([.own ((l.map (Ty.sub (gZ 0 (vars l)))).map Ty.pv) 0],[],[l.length]):=by
 have hlen:=MT (k:=1) h;refine c395i (S:=l.flatMap (Ty.fe 1)) (by omega) ?_ (by unfold Sm;omega) ?_
 ·intro x hx;simp only[List.mem_flatMap]at hx;obtain⟨u,_,hx⟩:=hx;exact cI (mI x hx)
 ·intro t ht;refine⟨(h t ht).1.1,(h t ht).1.2.wf,?_⟩;intro x hx;simp only[List.mem_flatMap];exact⟨t,ht,hx⟩
structure V9(n M:Nat)(s:dO)(c:Sc)(K:Nat)(g:Ty)(vs:List As):Prop where
 inv:Inv n M (eJ n) s
 hn:n≤6000
 hm:M≤1000000
 id:c.id=K
 k:K≤100
 ok:c.ty.Ok
 kn:c.ty.Kn KV
 Vd:Pj K c.ty
 nj:∀w,iA c.ty w→w∈eJ n
 g:Fit (eJ n) g
 Xy:∀x∈vs,Fit (eJ n) x.ty
 vl:vs.length≤5000
theorem c389{n M:Nat}{s:dO}{c:Sc}{K:Nat}{g:Ty}{vs:List As}(E:V9 n M s c K g vs){N:Nat}(hN:N≤10):∃(l1 l2:List Ty) (b:Bool),
   (aC AP).p 389 [s.pv,c.pv,g.pv,.au (vs.map As.pv),vI N]=some [.au (l1.map Ty.pv),.au (l2.map Ty.pv),.bool b]∧(∀u∈l1++l2,JA u)∧l1.length≤6000∧l2.length≤10:=by
 have h0:=Qu E.inv E.id (by have:=E.hn;have:=E.k;omega) (by have:=E.hm;omega) (g:=g) (p3:=.au (vs.map As.pv)) (p4:=vI N) K 0 (by omega) (by omega) [] rfl;have I1:=np E.inv K;have hnk:n+K≤6100:=by have:=E.hn;have:=E.k;omega
 have hM1:M+K*(2*(n+K)+4)≤5000000:=by
   have:K*(2*(n+K)+4)≤100*12204:=Nat.mul_le_mul E.k (by omega);have:=E.hm;omega
 have e0:pT s 0=s:=rfl;rw[e0]at h0;have hin:([]++(List.range' 0 (K-0)).map fun j=>bO (n+j:Nat))=(List.range K).map fun j=>bO (n+j:Nat):=by rw[List.nil_append,Nat.sub_zero,List.range_eq_range']
 rw[hin]at h0
 have hiv:∀x∈(List.range K).map (fun j=>bO (n+j:Nat)),∃j:Nat,j<K∧x=bO (n+j:Nat):=by
   intro x hx;simp only[List.mem_map,List.mem_range]at hx;obtain⟨j,hj,rfl⟩:=hx;exact⟨j,hj,rfl⟩
 have hil:((List.range K).map (fun j=>bO (n+j:Nat))).length=K:=by simp
 generalize (List.range K).map (fun j=>bO (n+j:Nat))=ins at *
 have hii:∀x∈ins,Fit (eJ (n+K)) x:=by
   intro x hx;obtain⟨j,hj,rfl⟩:=hiv x hx;exact pU (eM.2 (by omega))
 have k1:=c48 (s:=ins) (by unfold Sm;omega) E.ok;have mono:=w7 (n:=n) (m:=n+K) (by omega)
 have W:Fit (eJ (n+K)) (c.ty.nh ins):=by
   refine⟨Mq (fun x hx=>(hii x hx).ok) E.ok,Mr E.kn (by simp only[KV,KS];omega) (fun x hx=>(hii x hx).wf) (fun y hy hk=>by have:=E.Vd y hy hk;omega),?_⟩;intro w ho;rcases Pb w ho with h|⟨x,hx,h⟩
   ·exact mono w (E.nj w h)
   ·exact (hii x hx).nj w h
 have X:U_ (n+K) (M+K*(2*(n+K)+4)) (pT s K) (c.ty.nh ins) (c.ty.nh ins) g [] vs:=⟨I1,W,W,E.g.gY mono,by simp,fun x hx=>(E.Xy x hx).gY mono⟩;generalize c.ty.nh ins=w at *;generalize pT s K=s1 at *;have hpv:c.pv=.agg [vI c.id,vI c.ty.kind,.str c.ty.name,vI c.ty.id,vI c.ty.home,.au (c.ty.args.map Ty.pv)]:=rfl;have hK:=E.id;rw[g389L0e]at h0;simp[sC,BY,tC,hK]at h0 k1
 have bad:∀r,(aC AP).p 389 [s.pv,c.pv,g.pv,.au (vs.map As.pv),vI N]=some [.au [],.au [],.bool false]→r=r→∃(l1 l2:List Ty) (b:Bool),
     (aC AP).p 389 [s.pv,c.pv,g.pv,.au (vs.map As.pv),vI N]=some [.au (l1.map Ty.pv),.au (l2.map Ty.pv),.bool b]∧(∀u∈l1++l2,JA u)∧l1.length≤6000∧l2.length≤10:=fun (_:Nat) h _=>⟨[],[],false,h,by simp,by simp,by simp⟩
 rcases Qw (vs:=vs) (N:=N) (by omega) N (n+K) _ s1 w [] (by simp) (by simp) X (by omega) (by omega) with⟨q,h1⟩|⟨m,M',s2,t2,args,hm,hM,OU,E2,h1⟩
 ·refine bad 0 ?_ rfl;rw[g389L1e]at h1;simp[lM,mL,sC,tC]at h1;rw[ae (af:=g389) rfl rfl (by decide)];simp[g389,hK,g389L0e,h0,k1,g389L1e,h1]
 · have hsl:=E2.inv.len;have hsm:Sm s2.sl:=(by unfold Sm;omega);have k2:=c386 hsm (t:=t2);have F:=E2.t.wk E2.inv
   change (aC AP).p 386 [s2.pv,t2.pv]=some [(lA s2.sl t2).pv]at k2
   generalize lA s2.sl t2=x at *;obtain⟨a,b,cc,k3,_⟩:=c194f F;rw[g389L1e]at h1;simp[lM,sC,tC]at h1 k2 k3;cases cc with
   |true=>
     refine bad 0 ?_ rfl;rw[ae (af:=g389) rfl rfl (by decide)];simp[g389,hK,g389L0e,h0,k1,g389L1e,h1,k2,k3]
   |false=>
     have nl:∀w∈eJ m,w<m:=fun w h=>(eM.1 h).2;obtain⟨s3,k4,I3⟩:=c394 (R1 (by omega) (by omega)) nl E2.inv F;obtain⟨s4,k5,I4⟩:=c394 (R1 (by omega) (by omega)) nl I3 E2.g;obtain⟨s5,e,k6,I5⟩:=c385 (R1 (by omega) (by omega)) I4 F E2.g;have hsm5:Sm s5.sl:=by unfold Sm;rw[I5.len];omega
     obtain⟨r,k7,_,_,_⟩:=c355 hsm5 I5.ok (m:=200) (by omega) E2.w.ok;simp at k4 k5 k6 k7;by_cases he:e=0
     · subst he;by_cases hr:(200:Int)<r
       ·refine bad 0 ?_ rfl;rw[ae (af:=g389) rfl rfl (by decide)];simp[g389,hK,g389L0e,h0,k1,g389L1e,h1,k2,k3,k4,k5,k6,k7,hr]
       · rcases Qx I5 (by omega) (vs:=vs) (by have:=E.vl;omega) E2.vs (args:=args) _ 0 rfl (by omega) [] rfl (by simp) with⟨q,h2⟩|⟨us,hul,huo,h2⟩
         ·refine bad 0 ?_ rfl;rw[g389L2e]at h2;simp[mL,sC]at h2;rw[ae (af:=g389) rfl rfl (by decide)];simp[g389,hK,g389L0e,h0,k1,g389L1e,h1,k2,k3,k4,k5,k6,k7,hr,g389L2e,h2]
         · obtain⟨vs2,g1,g2,g3,h3⟩:=Qy I5 (by omega) (p3:=.au (vs.map As.pv)) (args:=args) (by omega) E2.args (V:=vs.length) _ 0 rfl (by omega) us (by omega) (by have:=E.vl;omega) huo;have hvl:=E.vl;have k8:=c395k (l:=vs2) (by omega) g2;have hl3:(vs2.map (Ty.sub (gZ 0 (vars vs2)))).length=vs2.length:=by simp
           have ho3:∀u∈vs2.map (Ty.sub (gZ 0 (vars vs2))),JA u:=by
             intro u hu;simp only[List.mem_map]at hu;obtain⟨y,hy,rfl⟩:=hu;exact Pl (g2 y hy)
           generalize vs2.map (Ty.sub (gZ 0 (vars vs2)))=l at *;refine⟨l.take vs.length,l.drop vs.length,true,?_,by rw[List.take_append_drop];exact ho3,by simp;omega,by simp;omega⟩;have q1:=UM (sz:=5) (τ:=2) (l:=l.map Ty.pv) (k:=.i64) (h:=(vs.length:Int)) (by omega) (by simp;omega);have q2:=Qz (sz:=5) (τ:=2) (l:=l.map Ty.pv) (k:=.i64) (h:=(vs.length:Int)) (by omega) (by simp;omega) (Bz.head l);rw[g389L2e]at h2;rw[g389L3e]at h3;simp[sC]at h2 h3;simp at k8 q1 q2;rw[ae (af:=g389) rfl rfl (by decide)];simp[g389,hK,g389L0e,h0,k1,g389L1e,h1,k2,k3,k4,k5,k6,k7,hr,g389L2e,h2,g389L3e,h3,k8,q1,q2]
     ·refine bad 0 ?_ rfl;rw[ae (af:=g389) rfl rfl (by decide)];simp[g389,hK,g389L0e,h0,k1,g389L1e,h1,k2,k3,k4,k5,k6,he]
structure Hd where
 name:bt
 cZ:Bool
 args:List Ty
 types:List Ty
def Hd.pv(h:Hd):PV:=.agg [.str h.name,.bool h.cZ,.au (h.args.map Ty.pv),.au (h.types.map Ty.pv)]
@[simp] theorem Hd.ml(h:Hd):h.pv=.agg [.str h.name,.bool h.cZ,.au (h.args.map Ty.pv),.au (h.types.map Ty.pv)]:=rfl
theorem MU:El Hd.pv 4 true:=⟨fun _=>rfl,fun _=>rfl⟩
@[simp] theorem SX{l:List Hd}:bf 4 (l.map Hd.pv)=true:=MU.head l
def vf(h:Hd):Prop:=h.args.length≤10∧(∀u∈h.args,JA u)∧h.name.length≤100
def hC(nm:bt)(cn:Bool):List AV:=[.pv (.str nm),.pv (.bool cn),.pv (.au []),.pv (.au [])]
theorem R5{n M:Nat}{s:dO}{c:Sc}{K:Nat}{g:Ty}{vs:List As}(E:V9 n M s c K g vs){nm:bt}(hnm:nm.length≤100){cn:Bool}:∀(k i:Nat),4-i=k→i≤4→∀acc:List Hd,acc.length≤i→(∀h∈acc,vf h) →
   ∃hs:List Hd,hs.length≤4∧(∀h∈hs,vf h)∧cl AP g378L0 ⟨[(3,.pv (.au (vs.map As.pv))),(4,.pv (vI 3)),(6,.az 6 0),(7,.az 7 0),(8,.az 8 0),(11,.az 11 0),(13,.own (acc.map Hd.pv) 0),(14,.pv (vI i))],[(6,sC s),(7,BY c),(8,tC g),(11,hC nm cn)],[],[acc.length]⟩ =
     some (.exit 0,⟨[(3,.pv (.au (vs.map As.pv))),(4,.pv (vI 3)),(6,.az 6 0),(7,.az 7 0),(8,.az 8 0),(11,.az 11 0),(13,.own (hs.map Hd.pv) 0),(14,.pv (vI 4)),(21,.pv (.bool false))],[(6,sC s),(7,BY c),(8,tC g),(11,hC nm cn)],[],[hs.length]⟩)
 |0,i,hk,hi,acc,ha,ho=>by
   have:i=4:=by omega
   subst this;refine⟨acc,ha,ho,?_⟩;rw[g378L0e];simp[g378B0,sC,BY,tC,hC]
 |k+1,i,hk,hi,acc,ha,ho=>by
   have hi:i<4:=(by omega);have hi3:(i:Int)≤3:=(by omega);obtain⟨l1,l2,b,e,hO,n1,n2⟩:=c389 E (N:=i) (by omega);simp at e;cases b with
   |false=>
     obtain⟨hs,h1,h2,e'⟩:=R5 E (nm:=nm) hnm (cn:=cn) k (i+1) (by omega) (by omega) acc (by omega) ho;refine⟨hs,h1,h2,?_⟩;rw[g378L0e]at e' ⊢;simp[sC,BY,tC,hC]at e';simp (disch:=omega) [-getElem?_pos,g378B0,sC,BY,tC,hC,hi3,e,ah];rw[g378L0e];simp[e']
   |true=>
     have hb1:l1.length*64≤140737488355328:=(by omega);have hb2:l2.length*64≤140737488355328:=(by omega);have hb3:(acc.length+1)*72≤140737488355328:=(by omega);have hh1:=Bz.head l1;have hh2:=Bz.head l2
     obtain⟨hs,h1,h2,e'⟩:=R5 E (nm:=nm) hnm (cn:=cn) k (i+1) (by omega) (by omega) (acc++[⟨nm,cn,l2,l1⟩]) (by simp;omega) (by
       intro h hh;simp at hh;rcases hh with hh|rfl
       ·exact ho h hh
       ·exact⟨n2,fun u hu=>hO u (by simp[hu]),hnm⟩)
     refine⟨hs,h1,h2,?_⟩;rw[g378L0e]at e' ⊢;simp[sC,BY,tC,hC]at e';by_cases z1:l1=[]
     · by_cases z2:l2=[]
       ·subst z1;subst z2;simp at e e';simp (disch:=omega) [-getElem?_pos,g378B0,sC,BY,tC,hC,hi3,e,ah,hb3];rw[g378L0e];simp[e']
       ·subst z1;simp at e e';simp (disch:=omega) [-getElem?_pos,g378B0,sC,BY,tC,hC,hi3,e,ah,hb2,hb3,hh2,z2];rw[g378L0e];simp[e']
     · by_cases z2:l2=[]
       ·subst z2;simp at e e';simp (disch:=omega) [-getElem?_pos,g378B0,sC,BY,tC,hC,hi3,e,ah,hb1,hb3,hh1,z1];rw[g378L0e];simp[e']
       ·simp (disch:=omega) [-getElem?_pos,g378B0,sC,BY,tC,hC,hi3,e,ah,hb1,hb2,hb3,hh1,hh2,z1,z2];rw[g378L0e];simp[e']
theorem c378{n M:Nat}{s:dO}{c:Sc}{K:Nat}{g:Ty}{vs:List As}(E:V9 n M s c K g vs){nm:bt}(hnm:nm.length≤100){cn:Bool}:∃hs:List Hd,hs.length≤4∧(∀h∈hs,vf h) ∧
   (aC AP).p 378 [s.pv,c.pv,g.pv,.au (vs.map As.pv),vI 3,.agg [.str nm,.bool cn,.au [],.au []]]=some [.au (hs.map Hd.pv)]:=by
 obtain⟨hs,h1,h2,e⟩:=R5 E (nm:=nm) hnm (cn:=cn) _ 0 rfl (by omega) [] (by simp) (by simp);refine⟨hs,h1,h2,?_⟩;rw[ae (af:=g378) rfl rfl (by decide)];rw[g378L0e]at e;simp[sC,BY,tC,hC]at e;simp[g378,g378L0e,e]
theorem JC{t:Ty}:∀y∈t.args,∀v∈y.nodes,v∈t.nodes:=by
 intro y hy v hv;rw[Ty.aM];simp only[List.mem_cons,List.mem_flatMap];exact .inr ⟨y,hy,hv⟩
theorem Kn.B5{K:Int→Prop}(t:Ty):(∀y∈t.nodes,(y.kind≠4→K y.kind∧y.args=[])∧y.name.length≤100)→t.Kn K:=by
 refine Ty.dF (p:=fun t=>(∀y∈t.nodes,(y.kind≠4→K y.kind∧y.args=[])∧y.name.length≤100)→t.Kn K) ?_ t;intro t ih h;refine .mk (h t (by rw[Ty.aM];simp)).1 (h t (by rw[Ty.aM];simp)).2 fun x hx=>ih x hx fun y hy=>h y (JC x hx y hy)
theorem rV(t:Ty):(∀y∈t.nodes,y.args.length≤100)→t.Ok:=by
 refine Ty.dF (p:=fun t=>(∀y∈t.nodes,y.args.length≤100)→t.Ok) ?_ t;intro t ih h;refine .mk (by have:=h t (by rw[Ty.aM];simp);unfold Sm;omega) fun x hx=>ih x hx fun y hy=>h y (JC x hx y hy)
theorem MV{K:Int→Prop}{t:Ty}{w:Int}(h:iA t w):t.Kn K→¬K 1→False:=by
 induction h with
 | @var t q=>intro hk h1;have:=(hk.hd (by rw[q];decide)).1;rw[q]at this;exact h1 this
 |arg _ ha _ ih=>intro hk h1;exact ih (hk.kd _ ha) h1
structure bP(t:Ty):Prop where
 ok:t.Ok
 kn:t.Kn KG
structure lS(c:Sc):Prop where
 ok:c.ty.Ok
 kn:c.ty.Kn KC
 Vd:∃K:Nat,c.id=K∧K≤100∧Pj K c.ty
theorem bP.fit{S:List Int}{t:Ty}(h:bP t):Fit S t:=⟨h.ok,h.kn.imp P',fun _ ho=>(MV ho h.kn (by simp)).elim⟩
theorem bP.gw{t:Ty}(h:bP t):∀x∈t.args,bP x:=fun x hx=>⟨h.ok.gw x hx,h.kn.kd x hx⟩
theorem lS.Xi{c:Sc}(h:lS c){g:Ty}(hg:bP g):∃K,V9 0 0 (vS 0) c K g []:=by
 obtain⟨K,h1,h2,h3⟩:=h.Vd;exact⟨K,⟨yY 0,by omega,by omega,h1,h2,h.ok,h.kn.imp UB,h3,fun _ ho=>(MV ho h.kn (by simp)).elim,hg.fit,by simp,by simp⟩⟩
theorem bP.mono{t:Ty}(h:bP t):lS ⟨0,t⟩:=⟨h.ok,h.kn.imp UA,0,rfl,by omega,fun y hy hk=>by have:=(h.kn.nodes y hy (by rw[hk];decide)).1;rw[hk]at this;simp at this⟩
theorem sU:bP a0:=⟨cI rfl,.bare rfl (by simp[a0]) (by simp[a0])⟩
def Pm(c:Sc):Bool:=c.ty.nodes.all fun y=>(decide (y.args.length≤100) && decide (y.name.length≤100)) && (decide (y.kind=4) || (decide (y.kind=0) || decide (y.kind=2) || decide (y.kind=3)) && decide (y.args.length=0)) && (decide (y.kind≠2) || decide (0≤y.id) && decide (y.id<c.id))
theorem Gj{c:Sc}{K:Nat}(hc:c.id=K)(hK:K≤100)(h:Pm c=true):lS c:=by
 simp only[Pm,List.all_eq_true,Bool.and_eq_true,Bool.or_eq_true,decide_eq_true_eq]at h;refine⟨rV _ fun y hy=>(h y hy).1.1.1,Kn.B5 _ fun y hy=>⟨fun hk=>?_,(h y hy).1.1.2⟩,K,hc,hK,fun y hy hk=>?_⟩
 · rcases (h y hy).1.2 with q|⟨q,q2⟩
   ·exact absurd q hk
   ·exact⟨by simp only[KC];omega,List.length_eq_zero_iff.1 q2⟩
 · rcases (h y hy).2 with q|q
   ·exact absurd hk q
   ·omega
theorem Pn:∀d∈bz,d.params.length≤100∧∀c∈d.cons,Pm ⟨d.params.length,Fe d.params c.fields (ML d)⟩=true:=by decide +kernel
theorem JD{ds:List Dt}(hD:∀d∈ds,d∈bz){s:bt}:lS ((rU ds s).getD mq):=by
 cases e:rU ds s with
 |none=>exact⟨cI rfl,.bare rfl (by simp[mq]) (by simp[mq]),0,rfl,by omega,by intro y hy hk;simp[mq,Ty.aM]at hy;rw[hy]at hk;simp at hk⟩
 |some sc=>
   simp only[rU,Option.bind_eq_some_iff,Option.map_eq_some_iff]at e;obtain⟨q,_,d,hd,c,hc,rfl⟩:=e;obtain⟨h1,h2⟩:=Pn d (hD d (aR hd));exact Gj (K:=d.params.length) rfl h1 (h2 c (aR hc))
theorem dW:∀d∈bz,d.params.length≤8∧d.cons.length≤8∧∀c∈d.cons,c.fields.length≤8∧∀x∈c.fields,x.nodes.all (fun y=>(decide (y.args.length≤100) && decide (y.name.length≤100)) && (decide (y.kind=4) || decide (y.kind=5) && decide (y.args.length=0)))=true:=by decide +kernel
theorem Gk{d:Dt}(hd:d∈bz):∀c∈d.cons,Sm c.fields∧(∀x∈c.fields,x.Ok)∧∀x∈c.fields,x.Kn (·=5):=by
 intro c hc;obtain⟨_,_,h⟩:=dW d hd;obtain⟨h1,h2⟩:=h c hc;simp only[List.all_eq_true,Bool.and_eq_true,Bool.or_eq_true,decide_eq_true_eq]at h2;refine⟨by unfold Sm;omega,fun x hx=>rV _ fun y hy=>(h2 x hx y hy).1.1,fun x hx=>Kn.B5 _ fun y hy=>⟨fun hk=>?_,(h2 x hx y hy).1.2⟩⟩;rcases (h2 x hx y hy).2 with q|⟨q,q2⟩
 ·exact absurd q hk
 ·exact⟨q,List.length_eq_zero_iff.1 q2⟩
theorem iS:∀d∈bz,d.name.length≤100∧∀c∈d.cons,c.name.length≤100:=by decide +kernel
structure rW(ds:List Dt):Prop where
 all:∀d∈ds,d∈bz
 len:ds.length≤8
theorem rW.c193{ds:List Dt}(h:rW ds){s:bt}:(aC AP).p 193 [.au (ds.map Dt.pv),.str s]=some (OX (rU ds s)):=
 Lw.c193 (by have:=h.len;unfold Sm;omega) (fun d hd=>by have:=(dW d (h.all d hd)).2.1;unfold Sm;omega) (fun d hd=>by have:=(dW d (h.all d hd)).1;unfold Sm;omega) (fun d hd c hc=>by
   obtain⟨a,b,c2⟩:=Gk (h.all d hd) c hc;exact⟨a,b,fun x hx=>(c2 x hx).cw⟩)
theorem Po{l:List Ty}(h:∀t∈l,∃K:Int→Prop,t.Kn K∧¬K 1):vars l=[]:=by
 have:∀y∈l.flatMap Ty.nodes,y.kind≠1:=by
   intro y hy hk;simp only[List.mem_flatMap]at hy;obtain⟨t,ht,hy⟩:=hy;obtain⟨K,hK,h1⟩:=h t ht;have:=(hK.nodes y hy (by rw[hk];decide)).1;rw[hk]at this;exact h1 this
 unfold vars;generalize l.flatMap Ty.nodes=m at *;induction m with
 |nil=>rfl
 |cons a r ih=>
   have:eC [] a=[]:=by simp[eC,this a (by simp)]
   rw[List.foldl_cons,this];exact ih fun y hy=>by rename_i h2;exact h2 y (by simp[hy])
theorem MW{k:Int}{t:Ty}:∀y∈t.fe k,y∈t.nodes∧y.kind=k:=by
 refine Ty.dF (p:=fun t=>∀y∈t.fe k,y∈t.nodes∧y.kind=k) ?_ t;intro t ih y hy;rw[Ty.mu]at hy;rw[Ty.aM];split at hy
 ·rename_i q;simp at hy;subst hy;exact⟨by simp,q.1⟩
 ·simp only[List.mem_flatMap]at hy;obtain⟨a,ha,hy⟩:=hy;have:=ih a ha y hy;exact⟨by simp only[List.mem_cons,List.mem_flatMap];exact .inr ⟨a,ha,this.1⟩,this.2⟩
theorem Gl{K:Int→Prop}{t:Ty}(h:t.Kn K)(h1:¬K 1)(hO:t.Ok):Good [] t:=⟨hO,h.wf,by
 intro y hy;obtain⟨a,b⟩:=MW y hy;have:=(h.nodes y a (by rw[b];decide)).1;rw[b]at this;exact absurd this h1⟩
theorem B6(t:Ty):t.sub []=t:=by
 refine Ty.dF (p:=fun t=>t.sub []=t) ?_ t;intro t ih;rw[Ty.sub_eq];split
 ·simp[lp]
 · have:t.args.map (Ty.sub [])=t.args:=by
     conv=>rhs;rw[←List.map_id t.args]
     exact List.map_congr_left fun x hx=>by simpa using ih x hx
   rw[this];cases t;rfl
def zh:List AV:=[.pv (.au []),.pv (.au [])]
theorem QD{g:Ty}(hg:bP g){ds:List Dt}{E:List En}(hE:Sm E)(hc:∀x∈E,lS x.sc)(hnm:∀x∈E,x.name.length≤100){T:Nat}(hT:T≤1000000):∀(n i:Nat),E.length-i=n→i≤E.length→∀acc:List Hd,acc.length+4*n≤T→(∀h∈acc,vf h) →
   ∃hs:List Hd,hs.length≤T∧(∀h∈hs,vf h)∧cl AP g362L0 ⟨[(0,.pv (.au (ds.map Dt.pv))),(4,.pv (vI 3)),(14,.az 14 0),(15,.pv (.au [])),(16,.az 16 0),(17,.own (acc.map Hd.pv) 0),(18,.pv (.au (E.map En.pv))),(19,.pv (vI i))],[(14,zh),(16,tC g)],[],[acc.length]⟩ =
     some (.exit 0,⟨[(0,.pv (.au (ds.map Dt.pv))),(4,.pv (vI 3)),(14,.az 14 0),(15,.pv (.au [])),(16,.az 16 0),(17,.own (hs.map Hd.pv) 0),(18,.pv (.au (E.map En.pv))),(19,.pv (vI E.length)),(51,.pv (.bool false))],[(14,zh),(16,tC g)],[],[hs.length]⟩)
 |0,i,hn,hi,acc,ha,ho=>by
   have:i=E.length:=by omega
   subst this;refine⟨acc,by omega,ho,?_⟩;rw[g362L0e];simp[g362B0,zh,tC]
 |n+1,i,hn,hi,acc,ha,ho=>by
   have hi:i<E.length:=(by omega);obtain⟨x,hx⟩:=aV hi;have hs:=hc x (aR hx);obtain⟨K,El⟩:=hs.Xi hg;obtain⟨l,q1,q2,k2⟩:=c378 El (nm:=x.name) (hnm x (aR hx)) (cn:=false);have k1:=c377 (s:=[]) (by simp[Sm]) hs.ok;rw[B6]at k1
   obtain⟨hs,h1,h2,e'⟩:=QD hg (ds:=ds) hE hc hnm hT n (i+1) (by omega) (by omega) (acc++l) (by simp;omega) (by
     intro h hh;simp at hh;rcases hh with hh|hh
     ·exact ho h hh
     ·exact q2 h hh)
   refine⟨hs,h1,h2,?_⟩;unfold Sm at hE;have hb:(acc.length+l.length)*72≤140737488355328:=by omega
   have hb0:acc.length*72≤140737488355328:=(by omega);have hh:=MU.head l;rw[g362L0e]at e' ⊢;simp[zh,tC]at e';simp[vS]at k1 k2 hh;by_cases z:l=[]
   ·subst z;simp at k2 e';simp (disch:=omega) [-getElem?_pos,g362B0,zh,tC,hx,hi,k1,k2,hb0,ah];rw[g362L0e];simp[e']
   ·simp (disch:=omega) [-getElem?_pos,g362B0,zh,tC,hx,hi,k1,k2,hb,hh,z,ah];rw[g362L0e];simp[e']
theorem QE{g:Ty}(hg:bP g){ds:List Dt}(hD:rW ds){I:Nat}{d:Dt}(hd:ds[I]?=some d){T:Nat}(hT:T≤1000000):∀(n i:Nat),d.cons.length-i=n→i≤d.cons.length→∀acc:List Hd,acc.length+4*n≤T→(∀h∈acc,vf h) →
   ∃hs:List Hd,hs.length≤T∧(∀h∈hs,vf h)∧cl AP g362L2 ⟨[(0,.pv (.au (ds.map Dt.pv))),(4,.pv (vI 3)),(14,.az 14 0),(15,.pv (.au [])),(16,.az 16 0),(17,.own (acc.map Hd.pv) 0),(21,.pv (vI I)),(22,.pv (vI i))],[(14,zh),(16,tC g)],[],[acc.length]⟩ =
     some (.exit 4,⟨[(0,.pv (.au (ds.map Dt.pv))),(4,.pv (vI 3)),(14,.az 14 0),(15,.pv (.au [])),(16,.az 16 0),(17,.own (hs.map Hd.pv) 0),(21,.pv (vI I)),(22,.pv (vI d.cons.length)),(88,.pv (.bool false))],[(14,zh),(16,tC g)],[],[hs.length]⟩)
 |0,i,hn,hi,acc,ha,ho=>by
   have:i=d.cons.length:=by omega
   subst this;refine⟨acc,by omega,ho,?_⟩;have hI:=(List.getElem?_eq_some_iff.1 hd).1;rw[g362L2e];simp[-getElem?_pos,g362B2,zh,tC,hd,hI]
 |n+1,i,hn,hi,acc,ha,ho=>by
   have hi:i<d.cons.length:=(by omega);have hI:=(List.getElem?_eq_some_iff.1 hd).1;obtain⟨c,hc⟩:=aV hi;have k1:=hD.c193 (s:=c.name);have hs:=JD hD.all (s:=c.name);have hc8:=(dW d (hD.all d (aR hd))).2.1;generalize hsc:(rU ds c.name).getD mq=sc at *;obtain⟨K,El⟩:=hs.Xi hg;obtain⟨l,q1,q2,k2⟩:=c378 El (nm:=c.name) ((iS d (hD.all d (aR hd))).2 c (aR hc)) (cn:=true)
   obtain⟨hs,h1,h2,e'⟩:=QE hg hD hd hT n (i+1) (by omega) (by omega) (acc++l) (by simp;omega) (by
     intro h hh;simp at hh;rcases hh with hh|hh
     ·exact ho h hh
     ·exact q2 h hh)
   refine⟨hs,h1,h2,?_⟩;have hb:(acc.length+l.length)*72≤140737488355328:=by omega
   have hb0:acc.length*72≤140737488355328:=(by omega);have hh:=MU.head l;rw[g362L2e]at e' ⊢;simp[zh,tC]at e';simp[vS]at k2 hh;simp[OX,hsc]at k1;by_cases z:l=[]
   ·subst z;simp at k2 e';simp (disch:=omega) [-getElem?_pos,g362B2,zh,tC,hd,hI,hc,hi,k1,k2,hb0,ah];rw[g362L2e];simp[e']
   ·simp (disch:=omega) [-getElem?_pos,g362B2,zh,tC,hd,hI,hc,hi,k1,k2,hb,hh,z,ah];rw[g362L2e];simp[e']
theorem QF{g:Ty}(hg:bP g){ds:List Dt}(hD:rW ds){T:Nat}(hT:T≤1000000):∀(n i:Nat),ds.length-i=n→i≤ds.length→∀acc:List Hd,acc.length+32*n≤T→(∀h∈acc,vf h) →
   ∃hs:List Hd,hs.length≤T∧(∀h∈hs,vf h)∧cl AP g362L1 ⟨[(0,.pv (.au (ds.map Dt.pv))),(4,.pv (vI 3)),(14,.az 14 0),(15,.pv (.au [])),(16,.az 16 0),(17,.own (acc.map Hd.pv) 0),(21,.pv (vI i))],[(14,zh),(16,tC g)],[],[acc.length]⟩ =
     some (.exit 2,⟨[(0,.pv (.au (ds.map Dt.pv))),(4,.pv (vI 3)),(14,.az 14 0),(15,.pv (.au [])),(16,.az 16 0),(17,.own (hs.map Hd.pv) 0),(21,.pv (vI ds.length)),(78,.pv (.bool false))],[(14,zh),(16,tC g)],[],[hs.length]⟩)
 |0,i,hn,hi,acc,ha,ho=>by
   have:i=ds.length:=by omega
   subst this;refine⟨acc,by omega,ho,?_⟩;rw[g362L1e];simp[g362B1,zh,tC]
 |n+1,i,hn,hi,acc,ha,ho=>by
   have hi:i<ds.length:=(by omega);obtain⟨d,hd⟩:=aV hi;have hc8:=(dW d (hD.all d (aR hd))).2.1;obtain⟨l,q1,q2,e⟩:=QE hg hD hd (T:=acc.length+32) (by omega) _ 0 rfl (by omega) acc (by omega) ho;obtain⟨hs,h1,h2,e'⟩:=QF hg hD hT n (i+1) (by omega) (by omega) l (by omega) q2;refine⟨hs,h1,h2,?_⟩;have hl:=hD.len;rw[g362L1e]at e' ⊢;rw[g362L2e]at e;simp[zh,tC]at e' e;simp (disch:=omega) [-getElem?_pos,g362B1,zh,tC,hd,hi,ah];rw[g362L2e];simp (disch:=omega) [e,ah];rw[g362L1e];simp[e']
theorem c362{g:Ty}(hg:bP g){ds:List Dt}(hD:rW ds){l:List En}(hl:l.length≤10000)(hc:∀x∈l,lS x.sc)(hnm:∀x∈l,x.name.length≤100):∃hs:List Hd,hs.length≤100000∧(∀h∈hs,vf h) ∧
   (aC AP).p 362 [.au (ds.map Dt.pv),.au (l.map En.pv),g.pv,.au [],vI 3]=some [.au (hs.map Hd.pv)]:=by
 obtain⟨a,b,c,k1,_⟩:=c194g hg.ok;have hdl:=hD.len;cases c with
 |true=>
   refine⟨[],by simp,by simp,?_⟩;simp at k1;rw[ae (af:=g362) rfl rfl (by decide)];simp[g362,k1]
 |false=>
   have hsub:∀x∈dm l,lS x.sc:=fun x hx=>hc x (mw l x hx);have hsl:=uM l
   obtain⟨vs,hv,_,k2⟩:=c376 (S:=[]) (by simp) (by simp) (Gl hg.kn (by simp) hg.ok) (l:=l) (by unfold Sm;omega) (by omega) (fun x hx=>Gl (hc x hx).kn (by simp) (hc x hx).ok)
   have hv0:vs=[]:=by
     rw[hv];refine Po ?_;intro t ht;simp only[List.mem_cons,List.mem_map]at ht;rcases ht with rfl|⟨x,hx,rfl⟩
     ·exact⟨KG,hg.kn,by simp⟩
     ·exact⟨KC,(hsub x hx).kn,by simp⟩
   subst hv0;have k3:=c46 (s:=[]) (by simp[Sm]) hg.ok;rw[B6]at k3;have k4:=c201 (l:=l) (by unfold Sm;omega);obtain⟨o1,a1,a2,h1⟩:=QD hg (ds:=ds) (E:=dm l) (by unfold Sm;omega) hsub (fun x hx=>hnm x (mw l x hx)) (T:=40000) (by omega) _ 0 rfl (by omega) [] (by simp;omega) (by simp);obtain⟨o2,b1,b2,h2⟩:=QF hg hD (T:=100000) (by omega) _ 0 rfl (by omega) o1 (by omega) a2;refine⟨o2,b1,b2,?_⟩;rw[g362L0e]at h1;rw[g362L1e]at h2;generalize dm l=E at *;simp[zh,tC]at h1 h2;simp at k1 k3 k4;simp[vS,gZ]at k2;rw[ae (af:=g362) rfl rfl (by decide)];simp[g362,k1,k2,k3,k4,g362L0e,h1,g362L1e,h2]
structure Tape(L:List Int)(tm:Nat)(TP:Int→Sh):Prop where
 get:∀i,(TP i)[tm]?=some (some [.pv (.au (L.map vI)),.pv (vI i)])
 set:∀i j,(TP i).set tm (some [.pv (.au (L.map vI)),.pv (vI j)])=TP j
 quiet:∀i,aL (TP i)
theorem Tape.norm{L:List Int}{tm:Nat}{TP:Int→Sh}(h:Tape L tm TP):∀i aI ts,a9 aI ts (TP i)=(TP i,aI,ts):=fun i=>(h.quiet i).norm
theorem Tape.shift{L:List Int}{tm:Nat}{TP:Int→Sh}(h:Tape L tm TP):∀i n,ej n (TP i)=TP i:=fun i=>(h.quiet i).shift
theorem Tape.take{L:List Int}{tm:Nat}{TP:Int→Sh}(h:Tape L tm TP):∀i j,(TP j).take (TP i).length=TP j:=by
 intro i j;refine List.take_of_length_le ?_;rw[←h.set i j,List.length_set];exact Nat.le_refl _
theorem Pp{L:List Int}{A B:Sh}(hA:aL A)(hB:aL B):Tape L A.length (fun i=>A++[some [.pv (.au (L.map vI)),.pv (vI i)]]++B) where
 get:=fun i=>by simp
 set:=fun i j=>by simp[List.set_append]
 quiet:=fun i=>(hA.app (aL.one (by intro v hv;simp at hv;rcases hv with rfl|rfl<;>exact⟨_,rfl⟩))).app hB
theorem p9{L:List Int}{tm:Nat}{TP:Int→Sh}(hT:Tape L tm TP)(hL:Sm L){i:Nat}(hi:i≤L.length){n:Int}(h1:1≤n)(h2:n<4611686018427387904) :
   ∃(r:Int) (j:Nat),(aC AP).i 68 [.aW tm 0,.pv (vI n)] (TP i) []=some ([.pv (vI r)],TP j,[])∧0≤r∧r<n∧j≤L.length:=by
 unfold Sm at hL;have tn:=hT.norm;have tsh:=hT.shift;have tg:=hT.get;have tset:=hT.set;have tl:=hT.take;rw[aE (af:=g68) rfl (by simp[g68])];by_cases h:i<L.length
 · obtain⟨x,hx⟩:=aV h;obtain⟨r,e,e1,e2⟩:=c26 (n:=x) h1 h2;refine⟨r,i+1,?_,e1,e2,h⟩;have h':¬L.length≤i:=by omega
   simp (disch:=omega) [-getElem?_pos,g68,h',ah,hx,e,tn,tsh,tg,tset,tl]
 ·have h':L.length≤i:=(by omega);refine⟨0,i,?_,by omega,by omega,hi⟩;simp[-getElem?_pos,g68,h',tn,tsh,tg,tset,tl]
theorem JE{L:List Int}{tm:Nat}{TP:Int→Sh}(hT:Tape L tm TP)(hL:Sm L){i:Nat}(hi:i≤L.length):∃(s:List UInt8) (j:Nat),(aC AP).i 175 [.aW tm 0] (TP i) []=some ([.pv (.str s)],TP j,[])∧s∈varNames∧j≤L.length:=by
 have tn:=hT.norm;have tsh:=hT.shift;have tl:=hT.take;obtain⟨k,j,e,k0,k8,hj⟩:=p9 hT hL hi (n:=8) (by omega) (by omega);obtain⟨m,rfl,hm⟩:=pF (n:=varNames.length) k0 (by simpa[varNames] using k8);obtain⟨s,hs⟩:=aV hm;refine⟨s,j,?_,aR hs,hj⟩
 try simp[tn,tsh,tl]at e
 rw[aE (af:=g175) rfl (by simp[tn,tsh,tl,g175])]
 have hs':([PV.str [120],.str [121],.str [122],.str [102],.str [103],.str [118,49],.str [118,50],.str [105,100]]:List PV)[m]?=some (.str s):=by
   have:([PV.str [120],.str [121],.str [122],.str [102],.str [103],.str [118,49],.str [118,50],.str [105,100]]:List PV)=varNames.map PV.str:=rfl;rw[this];simp[tn,tsh,tl,hs]
 simp[tn,tsh,tl,-getElem?_pos,g175,e,hs']
def pV(L:List Int)(tm:Nat)(TP:Int→Sh)(ds:List Dt)(lv:List Ty)(dep:Nat):Prop:=∀i:Nat,i≤L.length→∃(t:Ty) (j:Nat),
 (aC AP).i 27 [.aW tm 0,.pv (.au (ds.map Dt.pv)),.pv (.au (lv.map Ty.pv)),.pv (vI dep)] (TP i) []=some ([t.av],TP j,[])∧gQ (·∈ds) lv dep t∧j≤L.length
theorem Ve{L:List Int}{tm:Nat}{TP:Int→Sh}(hT:Tape L tm TP){ds:List Dt}{lv:List Ty}{dep:Nat}(hdep:dep<1000)(hg:pV L tm TP ds lv dep){d:Dt}(hS:Sm d.params):∀(n k:Nat),d.params.length-k=n→k≤d.params.length→∀(acc:List Ty) (i:Nat),acc.length=k→(∀x∈acc,gQ (·∈ds) lv dep x)→i≤L.length →
   ∃(r:List Ty) (j:Nat),cl AP g27L0 ⟨[(0,.aW tm 0),(1,.pv (.au (ds.map Dt.pv))),(2,.pv (.au (lv.map Ty.pv))),(3,.pv (vI (dep+1))),(8,.az 8 0),(10,.az 10 0),(11,.own (acc.map Ty.pv) 0),(12,.pv (vI k))],
     [(8,[.pv (vI 0),.pv (.str []),.pv (vI 0),.pv (vI 0),.own [] 1]),(10,[.pv (vI d.pos),.pv (.str d.name),.pv (.au (d.params.map .str)),.pv (.au (d.cons.map cR.pv))])],TP i,[acc.length,0]⟩ =
     some (.exit 1,⟨[(0,.aW tm 0),(1,.pv (.au (ds.map Dt.pv))),(2,.pv (.au (lv.map Ty.pv))),(3,.pv (vI (dep+1))),(8,.az 8 0),(10,.az 10 0),(11,.own (r.map Ty.pv) 0),(12,.pv (vI d.params.length)),(65,.pv (.bool false))],
     [(8,[.pv (vI 0),.pv (.str []),.pv (vI 0),.pv (vI 0),.own [] 1]),(10,[.pv (vI d.pos),.pv (.str d.name),.pv (.au (d.params.map .str)),.pv (.au (d.cons.map cR.pv))])],TP j,[r.length,0]⟩) ∧
     r.length=d.params.length∧(∀x∈r,gQ (·∈ds) lv dep x)∧j≤L.length
 |0,k,hn,hk,acc,i,ha,hm,hi=>by
   have tn:=hT.norm;have tsh:=hT.shift;have tl:=hT.take;have:k=d.params.length:=(by omega);subst this;refine⟨acc,i,?_,ha,hm,hi⟩;rw[g27L0e];simp[tn,tsh,tl,g27B0]
 |n+1,k,hn,hk,acc,i,ha,hm,hi=>by
   have tn:=hT.norm;have tsh:=hT.shift;have tl:=hT.take;unfold Sm at hS;have hk:k<d.params.length:=(by omega);have hb:(acc.length+1)*64≤140737488355328:=(by omega);obtain⟨t,j,e,mt,hj⟩:=hg i hi
   try simp[tn,tsh,tl]at e
   obtain⟨r,j',e',hr,hm',hj'⟩:=Ve hT hdep hg hS n (k+1) (by omega) (by omega) (acc++[t]) j (by simp;omega) (by
     intro x hx;simp at hx;rcases hx with hx|rfl
     ·exact hm x hx
     ·exact mt) hj
   try simp[tn,tsh,tl]at e'
   refine⟨r,j',?_,hr,hm',hj'⟩;rw[g27L0e];have h1:(dep:Int)+1-1=dep:=by omega
   simp (disch:=omega) [tn,tsh,tl,-getElem?_pos,g27B0,hk,ah,h1,e,hb];rw[e']
theorem Vf{L:List Int}{tm:Nat}{TP:Int→Sh}(hT:Tape L tm TP)(hL:Sm L){ds:List Dt}{lv:List Ty}(hlv:Sm lv):pV L tm TP ds lv 0:=by
 have tn:=hT.norm;have tsh:=hT.shift;have tl:=hT.take;intro i hi;obtain⟨k,j1,e1,k0,k7,hj1⟩:=p9 hT hL hi (n:=7) (by omega) (by omega)
 try simp[tn,tsh,tl]at e1
 unfold Sm at hlv;by_cases h1:k<3
 · by_cases h2:lv=[]
   · subst h2;refine⟨a0,j1,?_,.int,hj1⟩;have c:=c34
     try simp[tn,tsh,tl]at c
     rw[aE (af:=g27) rfl (by simp[tn,tsh,tl,g27])];simp[tn,tsh,tl,-getElem?_pos,g27,e1,h1,c,a0]
   · have hp:0<lv.length:=List.length_pos_iff.2 h2;obtain⟨r,j2,e2,r0,r1,hj2⟩:=p9 hT hL hj1 (n:=lv.length) (by omega) (by omega);obtain⟨m,rfl,hm⟩:=pF r0 r1;obtain⟨x,hx⟩:=aV hm
     try simp[tn,tsh,tl]at e2
     refine⟨x,j2,?_,.leaf (aR hx),hj2⟩;rw[aE (af:=g27) rfl (by simp[tn,tsh,tl,g27])];simp[tn,tsh,tl,-getElem?_pos,g27,e1,h1,hp,e2,hx]
 · refine⟨a0,j1,?_,.int,hj1⟩;have c:=c34
   try simp[tn,tsh,tl]at c
   rw[aE (af:=g27) rfl (by simp[tn,tsh,tl,g27])];simp[tn,tsh,tl,-getElem?_pos,g27,e1,h1,c,a0]
theorem Vg{L:List Int}{tm:Nat}{TP:Int→Sh}(hT:Tape L tm TP)(hL:Sm L){ds:List Dt}(hds:ds.length≤20)(hda:∀d∈ds,d.params.length≤8){lv:List Ty}(hlv:Sm lv){dep:Nat}(hdep:dep<1000)(hg:pV L tm TP ds lv dep):pV L tm TP ds lv (dep+1):=by
 have tn:=hT.norm;have tsh:=hT.shift;have tl:=hT.take;intro i hi;obtain⟨k,j1,e1,k0,k7,hj1⟩:=p9 hT hL hi (n:=7) (by omega) (by omega)
 try simp[tn,tsh,tl]at e1
 unfold Sm at hlv;have hd1:¬((dep:Int)+1<1):=by omega
 have hd2:(dep:Int)+1-1=dep:=by omega
 have leafCase:∀h1:k<3,∀h2:¬lv=[],∃(t:Ty) (j:Nat),(aC AP).i 27 [.aW tm 0,.pv (.au (ds.map Dt.pv)),.pv (.au (lv.map Ty.pv)),.pv (vI ((dep+1:Nat):Int))] (TP i) []=some ([t.av],TP j,[])∧gQ (·∈ds) lv (dep+1) t∧j≤L.length:=by
   intro h1 h2;have hp:0<lv.length:=List.length_pos_iff.2 h2;obtain⟨r,j2,e2,r0,r1,hj2⟩:=p9 hT hL hj1 (n:=lv.length) (by omega) (by omega);obtain⟨m,rfl,hm⟩:=pF r0 r1;obtain⟨x,hx⟩:=aV hm
   try simp[tn,tsh,tl]at e2
   refine⟨x,j2,?_,.leaf (aR hx),hj2⟩;rw[aE (af:=g27) rfl (by simp[tn,tsh,tl,g27])];simp[tn,tsh,tl,-getElem?_pos,g27,e1,h1,hp,e2,hx]
 by_cases h1:k<3∧¬lv=[]
 ·exact leafCase h1.1 h1.2
 · have h1':¬k<3∨lv=[]:=by
     by_cases h:k<3
     · right;by_cases h':lv=[]
       ·exact h'
       ·exact absurd ⟨h,h'⟩ h1
     ·exact .inl h
   by_cases h2:k<4
   · refine⟨a0,j1,?_,.int,hj1⟩;have c:=c34
     try simp[tn,tsh,tl]at c
     rw[aE (af:=g27) rfl (by simp[tn,tsh,tl,g27])];rcases h1' with h|h
     ·simp[tn,tsh,tl,-getElem?_pos,g27,e1,h,h2,c,a0]
     ·subst h;simp[tn,tsh,tl,-getElem?_pos,g27,e1,h2,c,a0]
   · have h3:¬k<3:=(by omega);by_cases h4:(k=4∨k=5)∧¬ds=[]
     · obtain⟨h4,h5⟩:=h4;have hp:0<ds.length:=List.length_pos_iff.2 h5;obtain⟨r,j2,e2,r0,r1,hj2⟩:=p9 hT hL hj1 (n:=ds.length) (by omega) (by omega);obtain⟨m,rfl,hm⟩:=pF r0 r1;obtain⟨d,hx⟩:=aV hm
       try simp[tn,tsh,tl]at e2
       have hdm:=aR hx
       have hps:Sm d.params:=by
         unfold Sm;have:=hda d hdm;omega
       obtain⟨as,j3,e3,ha,hm3,hj3⟩:=Ve hT hdep hg hps d.params.length 0 rfl (by omega) [] j2 rfl (by simp) hj2;rw[g27L0e]at e3
       try simp[tn,tsh,tl]at e3
       have hsa:Sm as:=(by unfold Sm at hps⊢;omega);have c:=c62 (s:=d.name) (l:=as) hsa
       try simp[tn,tsh,tl]at c
       refine⟨⟨4,d.name,0,0,as⟩,j3,?_,.cZ hdm ha hm3,hj3⟩;rw[aE (af:=g27) rfl (by simp[tn,tsh,tl,g27])];rcases h4 with rfl|rfl
       ·simp[tn,tsh,tl,-getElem?_pos,g27,e1,hp,hd1,e2,hx,g27L0e,e3,c]
       ·simp[tn,tsh,tl,-getElem?_pos,g27,e1,hp,hd1,e2,hx,g27L0e,e3,c]
     · obtain⟨a,j2,ea,ma,hj2⟩:=hg j1 hj1;obtain⟨b,j3,eb,mb,hj3⟩:=hg j2 hj2
       try simp[tn,tsh,tl]at ea eb
       have c:=c69 (a:=a) (b:=b)
       try simp[tn,tsh,tl]at c
       refine⟨⟨4,[45,62],0,0,[a,b]⟩,j3,?_,.arrow ma mb,hj3⟩;rw[aE (af:=g27) rfl (by simp[tn,tsh,tl,g27])];by_cases h5:ds=[]
       · subst h5
         try simp[tn,tsh,tl]at ea eb
         simp (disch:=omega) [tn,tsh,tl,-getElem?_pos,g27,e1,h2,h3,hd1,hd2,ah,ea,eb,c]
       · have h6:¬k=4∧¬k=5:=by
           constructor
           ·intro h;exact h4 ⟨.inl h,h5⟩
           ·intro h;exact h4 ⟨.inr h,h5⟩
         simp (disch:=omega) [tn,tsh,tl,-getElem?_pos,g27,e1,h2,h3,h6.1,h6.2,hd1,hd2,ah,ea,eb,c]
theorem R6{L:List Int}{tm:Nat}{TP:Int→Sh}(hT:Tape L tm TP)(hL:Sm L){ds:List Dt}(hds:ds.length≤20)(hda:∀d∈ds,d.params.length≤8){lv:List Ty}(hlv:Sm lv):∀dep:Nat,dep<1000→pV L tm TP ds lv dep
 |0,_=>Vf hT hL hlv
 |dep+1,h=>Vg hT hL hds hda hlv (by omega) (R6 hT hL hds hda hlv dep (by omega))
def sV(L:List Int)(tm:Nat)(TP:Int→Sh)(ds:List Dt)(dep:Nat):Prop:=∀i:Nat,i≤L.length→∃(e:Ex) (fk fa fg:Bool) (j:Nat),
 (aC AP).i 247 [.aW tm 0,.pv (.au (ds.map Dt.pv)),.pv (vI dep)] (TP i) []=some ([.agg (dZ fk fa fg e)],TP j,[])∧fc ds dep e∧j≤L.length
theorem xa{L:List Int}{tm:Nat}{TP:Int→Sh}(hT:Tape L tm TP)(hL:Sm L){ds:List Dt}(hds:ds.length≤8)(hD:∀d∈ds,D8 d){dep:Nat}{i j1:Nat}{k:Int}(hj1:j1≤L.length)
   (e1:(aC AP).i 68 [.aW tm 0,.pv (vI 14)] (TP i) []=some ([.pv (vI k)],TP j1,[])) (k0:0≤k) (hk:if dep=0 then True else k<5) :
   ∃(e:Ex) (fk fa fg:Bool) (j:Nat),(aC AP).i 247 [.aW tm 0,.pv (.au (ds.map Dt.pv)),.pv (vI dep)] (TP i) []=some ([.agg (dZ fk fa fg e)],TP j,[])∧fc ds dep e∧j≤L.length:=by
 have tn:=hT.norm;have tsh:=hT.shift;have tl:=hT.take
 try simp[tn,tsh,tl]at e1
 obtain⟨r,hr,hr0,hr1⟩:∃r:Int,(if dep=0 then k.tmod 5 else k)=r∧0≤r∧r<5:=by
   by_cases h:dep=0
   · refine⟨k.tmod 5,by simp[tn,tsh,tl,h],?_,?_⟩
     ·exact Int.tmod_nonneg 5 k0
     ·exact Int.tmod_lt_of_pos k (by omega)
   ·simp[tn,tsh,tl,h]at hk;exact⟨k,by simp[tn,tsh,tl,h],k0,hk⟩
 have hcase:r=0∨r=1∨r=2∨r=3∨r=4:=by omega
 have hd:dep=0∧k.tmod 5=r∨¬((dep:Int)<1)∧k=r:=by
   by_cases h:dep=0
   ·simp[tn,tsh,tl,h]at hr;exact .inl ⟨h,hr⟩
   ·simp[tn,tsh,tl,h]at hr;exact .inr ⟨by omega,hr⟩
 clear hr
 have hvar:r=0∨r=1→∃(e:Ex) (fk fa fg:Bool) (j:Nat),(aC AP).i 247 [.aW tm 0,.pv (.au (ds.map Dt.pv)),.pv (vI dep)] (TP i) []=some ([.agg (dZ fk fa fg e)],TP j,[])∧fc ds dep e∧j≤L.length:=by
   intro h;obtain⟨s,j,e2,hs,hj⟩:=JE hT hL hj1
   try simp[tn,tsh,tl]at e2
   refine⟨⟨1,0,s,0,[],[],bq⟩,true,true,true,j,?_,.var hs,hj⟩;rw[aE (af:=g247) rfl (by simp[tn,tsh,tl,g247])];rcases h with rfl|rfl<;>rcases hd with⟨rfl,h2⟩|⟨h1,rfl⟩
   ·simp[tn,tsh,tl,g247,e1,h2,e2,dZ,gI,bq]
   ·simp[tn,tsh,tl,g247,e1,h1,e2,dZ,gI,bq]
   ·simp[tn,tsh,tl,g247,e1,h2,e2,dZ,gI,bq]
   ·simp[tn,tsh,tl,g247,e1,h1,e2,dZ,gI,bq]
 rcases hcase with rfl|rfl|rfl|rfl|rfl
 ·exact hvar (.inl rfl)
 ·exact hvar (.inr rfl)
 · obtain⟨m,j,e2,m0,m4,hj⟩:=p9 hT hL hj1 (n:=4) (by omega) (by omega)
   try simp[tn,tsh,tl]at e2
   refine⟨⟨3,0,[],m,[],[],bq⟩,true,true,true,j,?_,.int m0 m4,hj⟩;rw[aE (af:=g247) rfl (by simp[tn,tsh,tl,g247])];rcases hd with⟨rfl,h2⟩|⟨h1,rfl⟩
   ·simp[tn,tsh,tl,g247,e1,h2,e2,dZ,gI,bq]
   ·simp[tn,tsh,tl,g247,e1,h1,e2,dZ,gI,bq]
 · by_cases h0:ds=[]
   · subst h0;refine⟨⟨2,0,[71,111,110,101],0,[],[],bq⟩,true,true,true,j1,?_,.gone,hj1⟩;rw[aE (af:=g247) rfl (by simp[tn,tsh,tl,g247])];rcases hd with⟨rfl,h2⟩|⟨h1,rfl⟩
     ·simp[tn,tsh,tl,g247,e1,h2,dZ,gI,bq]
     ·simp[tn,tsh,tl,g247,e1,h1,dZ,gI,bq]
   · have hp:0<ds.length:=List.length_pos_iff.2 h0;obtain⟨n,j2,e2,n0,n1,hj2⟩:=p9 hT hL hj1 (n:=ds.length) (by omega) (by omega);obtain⟨m,rfl,hm⟩:=pF n0 n1;obtain⟨d,hx⟩:=aV hm;obtain⟨_,hc0,hc8,_⟩:=hD d (aR hx);obtain⟨n',j3,e3,n0',n1',hj3⟩:=p9 hT hL hj2 (n:=d.cons.length) (by omega) (by omega);obtain⟨m',rfl,hm'⟩:=pF n0' n1';obtain⟨c,hy⟩:=aV hm'
     try simp[tn,tsh,tl]at e2 e3
     refine⟨⟨2,0,c.name,0,[],[],bq⟩,true,true,true,j3,?_,.cZ (aR hx) (aR hy),hj3⟩;rw[aE (af:=g247) rfl (by simp[tn,tsh,tl,g247])];rcases hd with⟨rfl,h2⟩|⟨h1,rfl⟩
     ·simp[tn,tsh,tl,-getElem?_pos,g247,e1,h2,e2,e3,hp,hx,hy,dZ,gI,bq]
     ·simp[tn,tsh,tl,-getElem?_pos,g247,e1,h1,e2,e3,hp,hx,hy,dZ,gI,bq]
 · refine⟨⟨10,0,[],0,[],[],bq⟩,true,true,true,j1,?_,.hole,hj1⟩;rw[aE (af:=g247) rfl (by simp[tn,tsh,tl,g247])];rcases hd with⟨rfl,h2⟩|⟨h1,rfl⟩
   ·simp[tn,tsh,tl,g247,e1,h2,dZ,gI,bq]
   ·simp[tn,tsh,tl,g247,e1,h1,dZ,gI,bq]
theorem JF{L:List Int}{tm:Nat}{TP:Int→Sh}(hT:Tape L tm TP)(hL:Sm L){ds:List Dt}(hds:ds.length≤8)(hD:∀d∈ds,D8 d){dep:Nat}(hdep:dep<1000)(hg:sV L tm TP ds dep){i j1:Nat}{k:Int}(hj1:j1≤L.length)
   (e1:(aC AP).i 68 [.aW tm 0,.pv (vI 14)] (TP i) []=some ([.pv (vI k)],TP j1,[])) (k5:5≤k) (k12:k≤12) :
   ∃(e:Ex) (fk fa fg:Bool) (j:Nat),(aC AP).i 247 [.aW tm 0,.pv (.au (ds.map Dt.pv)),.pv (vI (dep+1:Nat))] (TP i) []=some ([.agg (dZ fk fa fg e)],TP j,[])∧fc ds (dep+1) e∧j≤L.length:=by
 have tn:=hT.norm;have tsh:=hT.shift;have tl:=hT.take
 try simp[tn,tsh,tl]at e1
 have h1:¬((dep:Int)+1<1):=by omega
 have h2:(dep:Int)+1-1=dep:=by omega
 have hc:k=5∨k=6∨k=7∨k=8∨k=9∨k=10∨k=11∨k=12:=by omega
 have hlam:k=5∨k=6→∃(e:Ex) (fk fa fg:Bool) (j:Nat),(aC AP).i 247 [.aW tm 0,.pv (.au (ds.map Dt.pv)),.pv (vI (dep+1:Nat))] (TP i) []=some ([.agg (dZ fk fa fg e)],TP j,[])∧fc ds (dep+1) e∧j≤L.length:=by
   intro h;obtain⟨s,j2,e2,hs,hj2⟩:=JE hT hL hj1;obtain⟨a,f1,f2,f3,j3,e3,ha,hj3⟩:=hg j2 hj2;have hA:=dR f1 f2 f3 a;generalize dZ f1 f2 f3 a=A at e3 hA
   try simp[tn,tsh,tl]at e2 e3
   refine⟨⟨4,0,s,0,[a],[],bq⟩,true,true,true,j3,?_,.lam hs ha,hj3⟩;rw[aE (af:=g247) rfl (by simp[tn,tsh,tl,g247])];have ac:=Ex.bm a;rcases h with rfl|rfl<;>simp (disch:=omega) [tn,tsh,tl,g247,e1,h1,h2,ah,e2,e3,hA.dd,hA.flat,hA.gH,hA.len,hA.leaf,ac,dZ,gI,bq]
 have happ:k=7∨k=8∨k=9→∃(e:Ex) (fk fa fg:Bool) (j:Nat),(aC AP).i 247 [.aW tm 0,.pv (.au (ds.map Dt.pv)),.pv (vI (dep+1:Nat))] (TP i) []=some ([.agg (dZ fk fa fg e)],TP j,[])∧fc ds (dep+1) e∧j≤L.length:=by
   intro h;obtain⟨a,f1,f2,f3,j2,e2,ha,hj2⟩:=hg j1 hj1;obtain⟨b,f4,f5,f6,j3,e3,hb,hj3⟩:=hg j2 hj2;have hA:=dR f1 f2 f3 a;generalize dZ f1 f2 f3 a=A at e2 hA;have hB:=dR f4 f5 f6 b;generalize dZ f4 f5 f6 b=B at e3 hB
   try simp[tn,tsh,tl]at e2 e3
   refine⟨⟨5,0,[],0,[a,b],[],bq⟩,true,true,true,j3,?_,.app ha hb,hj3⟩;rw[aE (af:=g247) rfl (by simp[tn,tsh,tl,g247])];have ac:=Ex.bm a;have bc:=Ex.bm b;have tA:A.take 11=A:=List.take_of_length_le (by rw[hA.len];omega);rcases h with rfl|rfl|rfl<;>simp (disch:=omega) [tn,tsh,tl,g247,e1,h1,h2,ah,e2,e3,hA.dd,hA.flat,hA.gH,hA.len,hA.leaf,hB.dd,hB.flat,hB.gH,hB.len,hB.leaf,tA,ac,bc,aF,dZ,gI,bq]
 rcases hc with h|h|h|h|h|rfl|rfl|rfl
 ·exact hlam (.inl h)
 ·exact hlam (.inr h)
 ·exact happ (.inl h)
 ·exact happ (.inr (.inl h))
 ·exact happ (.inr (.inr h))
 · obtain⟨r,j2,e2,r0,r1,hj2⟩:=p9 hT hL hj1 (n:=2) (by omega) (by omega);obtain⟨s,j3,e3,hs,hj3⟩:=JE hT hL hj2;obtain⟨a,f1,f2,f3,j4,e4,ha,hj4⟩:=hg j3 hj3;obtain⟨b,f4,f5,f6,j5,e5,hb,hj5⟩:=hg j4 hj4;have hA:=dR f1 f2 f3 a;generalize dZ f1 f2 f3 a=A at e4 hA;have hB:=dR f4 f5 f6 b;generalize dZ f4 f5 f6 b=B at e5 hB
   try simp[tn,tsh,tl]at e2 e3 e4 e5
   have ac:=Ex.bm a;have bc:=Ex.bm b;have tA:A.take 11=A:=List.take_of_length_le (by rw[hA.len];omega);have hk:6+r=6∨6+r=7:=(by omega);refine⟨⟨6+r,0,s,0,[a,b],[],bq⟩,true,true,true,j5,?_,.sq hk hs ha hb,hj5⟩;rw[aE (af:=g247) rfl (by simp[tn,tsh,tl,g247])];simp (disch:=omega) [tn,tsh,tl,g247,e1,h1,h2,ah,e2,e3,e4,e5,hA.dd,hA.flat,hA.gH,hA.len,hA.leaf,hB.dd,hB.flat,hB.gH,hB.len,hB.leaf,tA,ac,bc,aF,dZ,gI,bq]
 ·obtain⟨a,f1,f2,f3,j2,e2,ha,hj2⟩:=hg j1 hj1;have hA:=dR f1 f2 f3 a;generalize dZ f1 f2 f3 a=A at e2 hA;obtain⟨t,j3,e3,ht,hj3⟩:=R6 hT hL (ds:=ds) (by omega) (fun d hd=>(hD d hd).1) (lv:=[]) (by simp[tn,tsh,tl,Sm]) 2 (by omega) j2 hj2;simp[tn,tsh,tl,Ty.av]at e2 e3;have ac:=Ex.bm a;refine⟨⟨9,0,[],0,[a],[],t⟩,true,true,false,j3,?_,.JU ha ht,hj3⟩;rw[aE (af:=g247) rfl (by simp[tn,tsh,tl,g247])];simp (disch:=omega) [tn,tsh,tl,g247,e1,h1,h2,ah,e2,e3,hA.dd,hA.flat,hA.gH,hA.len,hA.leaf,ac,dZ,gI,bq]
 · obtain⟨a,f1,f2,f3,j2,e2,ha,hj2⟩:=hg j1 hj1;have hA:=dR f1 f2 f3 a;generalize dZ f1 f2 f3 a=A at e2 hA
   try simp[tn,tsh,tl]at e2
   have ac:=Ex.bm a;refine⟨⟨11,0,[],0,[a],[],bq⟩,true,true,true,j2,?_,.held ha,hj2⟩;rw[aE (af:=g247) rfl (by simp[tn,tsh,tl,g247])];simp (disch:=omega) [tn,tsh,tl,g247,e1,h1,h2,ah,e2,hA.dd,hA.flat,hA.gH,hA.len,hA.leaf,ac,dZ,gI,bq]
theorem MX{L:List Int}{tm:Nat}{TP:Int→Sh}(hT:Tape L tm TP)(hL:Sm L){ds:List Dt}{dep:Nat}{d:Dt}{a:Ex}{as:List Ar}{ci:Nat}{c:cR}(hc:d.cons[ci]?=some c)(h8:c.fields.length≤8):∀(n k:Nat),c.fields.length-k=n→k≤c.fields.length→∀(vs:List bt) (i:Nat),vs.length=k→(∀v∈vs,v∈oG)→i≤L.length →
   ∃(r:List bt) (j:Nat),cl AP g247L1 ⟨[(0,.aW tm 0),(1,.pv (.au (ds.map Dt.pv))),(2,.pv (vI (dep+1))),(6,.az 6 0),(13,.az 13 0),(14,.az 14 0),(15,.pv (vI ci)),(16,.az 16 0),(17,.pv (vI k))],
     [(6,m6),(13,sO d),(14,O3 a as),(16,UG c vs)],TP i,[0,0,0,1,as.length,0,vs.length,0,0,0]⟩ =
     some (.exit 3,⟨[(0,.aW tm 0),(1,.pv (.au (ds.map Dt.pv))),(2,.pv (vI (dep+1))),(6,.az 6 0),(13,.az 13 0),(14,.az 14 0),(15,.pv (vI ci)),(16,.az 16 0),(17,.pv (vI c.fields.length)),(179,.pv (.bool false))],
     [(6,m6),(13,sO d),(14,O3 a as),(16,UG c r)],TP j,[0,0,0,1,as.length,0,r.length,0,0,0]⟩) ∧
     r.length=c.fields.length∧(∀v∈r,v∈oG)∧j≤L.length
 |0,k,hn,hk,vs,i,hv,hm,hi=>by
   have tn:=hT.norm;have tsh:=hT.shift;have tl:=hT.take;have:k=c.fields.length:=(by omega);subst this;refine⟨vs,i,?_,hv,hm,hi⟩;have hcl:=(List.getElem?_eq_some_iff.1 hc).1;rw[g247L1e];simp[tn,tsh,tl,-getElem?_pos,g247B1,m6,sO,O3,UG,hc,hcl]
 |n+1,k,hn,hk,vs,i,hv,hm,hi=>by
   have tn:=hT.norm;have tsh:=hT.shift;have tl:=hT.take;have hk:k<c.fields.length:=(by omega);have hcl:=(List.getElem?_eq_some_iff.1 hc).1;have hb:(vs.length+1)*16≤140737488355328:=(by omega);obtain⟨s,j,e,hs,hj⟩:=JE hT hL hi
   try simp[tn,tsh,tl]at e
   obtain⟨r,j',e',hr,hm',hj'⟩:=MX hT hL hc h8 (a:=a) (as:=as) (ds:=ds) (dep:=dep) n (k+1) (by omega) (by omega) (vs++[s]) j (by simp;omega) (by
     intro x hx;simp at hx;rcases hx with hx|rfl
     ·exact hm x hx
     ·exact hs) hj
   refine⟨r,j',?_,hr,hm',hj'⟩;simp[tn,tsh,tl,m6,sO,O3,UG]at e' ⊢;rw[g247L1e];simp (disch:=omega) [tn,tsh,tl,-getElem?_pos,g247B1,hc,hcl,hk,ah,e,hb,aF];exact e'
theorem MY{L:List Int}{tm:Nat}{TP:Int→Sh}(hT:Tape L tm TP)(hL:Sm L){ds:List Dt}{dep:Nat}(hdep:dep<1000)(hg:sV L tm TP ds dep){d:Dt}(hD:D8 d){a:Ex}:∀(n k:Nat),d.cons.length-k=n→k≤d.cons.length→∀(as:List Ar) (i:Nat),as.length=k→E_ ds dep d as→i≤L.length →
   ∃(r:List Ar) (j:Nat),cl AP g247L0 ⟨[(0,.aW tm 0),(1,.pv (.au (ds.map Dt.pv))),(2,.pv (vI (dep+1))),(6,.az 6 0),(13,.az 13 0),(14,.az 14 0),(15,.pv (vI k))],
     [(6,m6),(13,sO d),(14,O3 a as)],TP i,[0,0,0,1,as.length,0]⟩ =
     some (.exit 1,⟨[(0,.aW tm 0),(1,.pv (.au (ds.map Dt.pv))),(2,.pv (vI (dep+1))),(6,.az 6 0),(13,.az 13 0),(14,.az 14 0),(15,.pv (vI d.cons.length)),(161,.pv (.bool false))],
     [(6,m6),(13,sO d),(14,O3 a r)],TP j,[0,0,0,1,r.length,0]⟩) ∧
     r.length=d.cons.length∧E_ ds dep d r∧j≤L.length
 |0,k,hn,hk,as,i,ha,hm,hi=>by
   have tn:=hT.norm;have tsh:=hT.shift;have tl:=hT.take;have:k=d.cons.length:=(by omega);subst this;refine⟨as,i,?_,ha,hm,hi⟩;rw[g247L0e];simp[tn,tsh,tl,g247B0,m6,sO,O3]
 |n+1,k,hn,hk,as,i,ha,hm,hi=>by
   have tn:=hT.norm;have tsh:=hT.shift;have tl:=hT.take;have hk:k<d.cons.length:=(by omega);obtain⟨c,hc⟩:=aV hk;obtain⟨_,_,h8,hf⟩:=hD;obtain⟨vs,j,e,hv,hvm,hj⟩:=MX hT hL (ds:=ds) (dep:=dep) (a:=a) (as:=as) hc (hf c (aR hc)) _ 0 rfl (by omega) [] i rfl (by simp) hi;obtain⟨b,f1,f2,f3,j2,e2,hb,hj2⟩:=hg j hj;have hB:=dR f1 f2 f3 b;generalize dZ f1 f2 f3 b=B at e2 hB;have bc:=Ex.bm b;have tB:B.take 11=B:=List.take_of_length_le (by rw[hB.len];omega);have hbb:(as.length+1)*200≤140737488355328:=by omega
   have hm2:E_ ds dep d (as++[⟨0,c.name,vs,b⟩]):=by
     refine⟨?_,?_,?_⟩
     · intro x hx
       try simp[tn,tsh,tl]at hx
       rcases hx with hx|rfl
       ·exact hm.1 x hx
       ·exact hb
     · intro x hx
       try simp[tn,tsh,tl]at hx
       rcases hx with hx|rfl
       ·exact hm.2.1 x hx
       ·exact⟨rfl,hvm⟩
     · intro i c' x h1 h2;by_cases hlt:i<as.length
       ·rw[List.getElem?_append_left hlt]at h2;exact hm.2.2 i c' x h1 h2
       · rw[List.getElem?_append_right (by omega)]at h2
         have:i-as.length=0:=by
           have:=(List.getElem?_eq_some_iff.1 h2).1;simpa using this
         have hik:i=k:=(by omega);subst hik;rw[hc]at h1;cases h1;rw[this]at h2
         try simp[tn,tsh,tl]at h2
         subst h2;exact⟨rfl,hv⟩
   obtain⟨r,j',e',hr,hm',hj'⟩:=MY hT hL hdep hg ⟨by assumption,by assumption,h8,hf⟩ (a:=a) n (k+1) (by omega) (by omega) (as++[⟨0,c.name,vs,b⟩]) j2 (by simp;omega) hm2 hj2;refine⟨r,j',?_,hr,hm',hj'⟩;have hd1:(dep:Int)+1-1=dep:=by omega
   rw[g247L1e]at e;rw[g247L0e]at e';simp[tn,tsh,tl,m6,sO,O3,UG]at e e' e2⊢;rw[g247L0e];simp (disch:=omega) [tn,tsh,tl,-getElem?_pos,g247B0,hc,hk,ah,hd1,g247L1e,e,e2,hbb,aF,hB.dd,hB.flat,hB.gH,hB.len,hB.leaf,tB,bc];rw[g247L0e];simp[tn,tsh,tl,e']
theorem JG{L:List Int}{tm:Nat}{TP:Int→Sh}(hT:Tape L tm TP)(hL:Sm L){ds:List Dt}(hds:ds.length≤8)(hD:∀d∈ds,D8 d){dep:Nat}(hdep:dep<1000)(hg:sV L tm TP ds dep){i j1:Nat}{k:Int}(hj1:j1≤L.length)
   (e1:(aC AP).i 68 [.aW tm 0,.pv (vI 14)] (TP i) []=some ([.pv (vI k)],TP j1,[])) (k13:k=13) :
   ∃(e:Ex) (fk fa fg:Bool) (j:Nat),(aC AP).i 247 [.aW tm 0,.pv (.au (ds.map Dt.pv)),.pv (vI (dep+1:Nat))] (TP i) []=some ([.agg (dZ fk fa fg e)],TP j,[])∧fc ds (dep+1) e∧j≤L.length:=by
 have tn:=hT.norm;have tsh:=hT.shift;have tl:=hT.take;subst k13
 try simp[tn,tsh,tl]at e1
 have h1:¬((dep:Int)+1<1):=by omega
 have h2:(dep:Int)+1-1=dep:=by omega
 by_cases h0:ds=[]
 ·subst h0;obtain⟨a,f1,f2,f3,j2,e2,ha,hj2⟩:=hg j1 hj1;refine⟨a,f1,f2,f3,j2,?_,.up ha,hj2⟩;rw[aE (af:=g247) rfl (by simp[tn,tsh,tl,g247])];cases f1<;>cases f2<;>cases f3<;>simp[tn,tsh,tl,dZ,gI]at e2<;>simp (disch:=omega) [tn,tsh,tl,g247,e1,h1,h2,ah,e2,dZ,gI,aF]
 · have hp:0<ds.length:=List.length_pos_iff.2 h0;obtain⟨r,j2,e2,r0,r1,hj2⟩:=p9 hT hL hj1 (n:=ds.length) (by omega) (by omega);obtain⟨m,rfl,hm⟩:=pF r0 r1;obtain⟨d,hx⟩:=aV hm;have hDd:=hD d (aR hx);obtain⟨a,f1,f2,f3,j3,e3,ha,hj3⟩:=hg j2 hj2;have hA:=dR f1 f2 f3 a;generalize dZ f1 f2 f3 a=A at e3 hA;have ac:=Ex.bm a;obtain⟨as,j4,e4,OU,hao,hj4⟩:=MY hT hL hdep hg hDd (a:=a) _ 0 rfl (by omega) [] j3 rfl ⟨by simp,by simp,by simp⟩ hj3
   try simp[tn,tsh,tl]at e2 e3
   refine⟨⟨8,0,[],0,[a],as,bq⟩,false,false,false,j4,?_,.mD (aR hx) ha OU hao.1 hao.2.1 hao.2.2,hj4⟩;rw[aE (af:=g247) rfl (by simp[tn,tsh,tl,g247])];rw[g247L0e]at e4;simp[tn,tsh,tl,m6,sO,O3]at e4;simp (disch:=omega) [tn,tsh,tl,-getElem?_pos,g247,e1,h1,h2,h0,ah,e2,e3,hp,hx,hA.dd,hA.flat,hA.gH,hA.len,hA.leaf,ac,g247L0e,e4,aF,dZ,gI,bq]
theorem R7{L:List Int}{tm:Nat}{TP:Int→Sh}(hT:Tape L tm TP)(hL:Sm L){ds:List Dt}(hds:ds.length≤8)(hD:∀d∈ds,D8 d):∀dep:Nat,dep<1000→sV L tm TP ds dep
 |0,_=>fun i hi=>by
   have tn:=hT.norm;have tsh:=hT.shift;have tl:=hT.take;obtain⟨k,j1,e1,k0,k14,hj1⟩:=p9 hT hL hi (n:=14) (by omega) (by omega);exact xa hT hL hds hD hj1 e1 k0 (by simp)
 |dep+1,h=>fun i hi=>by
   have tn:=hT.norm;have tsh:=hT.shift;have tl:=hT.take;obtain⟨k,j1,e1,k0,k14,hj1⟩:=p9 hT hL hi (n:=14) (by omega) (by omega);have hg:=R7 hT hL hds hD dep (by omega);by_cases h5:k<5
   ·exact xa hT hL hds hD hj1 e1 k0 (by simpa using h5)
   · by_cases h12:k≤12
     ·exact JF hT hL hds hD (by omega) hg hj1 e1 (by omega) h12
     ·exact JG hT hL hds hD (by omega) hg hj1 e1 (by omega)
theorem iT:bq.Ok:=cI rfl
structure xd(n:Nat)(e:Ex):Prop where
 sc:wW e
 h:e.uY n
 w:e.sz≤wN n
 tx:lR e
theorem iU{n m:Nat}{e:Ex}(h:e.uY n):n≤m→e.uY m:=by
 induction h generalizing m with
 |mk _ ih=>
   intro hm;obtain⟨k,rfl⟩:∃k,m=k+1:=⟨m-1,by omega⟩;exact .mk fun x hx=>ih x hx (by omega)
theorem xd.up{n m:Nat}{e:Ex}(h:xd n e)(hm:n≤m):xd m e:=⟨h.sc,iU h.h hm,Nat.le_trans h.w (UC hm),h.tx⟩
theorem iV:bq.Cw:=⟨fun _=>rfl,by simp[bq]⟩
theorem B7{m:Nat}{l:List Ex}(hl:l.length≤10)(h:∀x∈l,x.sz≤50 ^ m):1+(l.map Ex.sz).sum≤50 ^ (m+1):=by
 have h1:=uQ h;have h2:l.length*50 ^ m≤10*50 ^ m:=Nat.mul_le_mul_right _ hl;have h3:1≤50 ^ m:=Nat.one_le_pow m 50 (by decide);rw[Nat.pow_succ];generalize 50 ^ m=P at *;omega
theorem fC{n:Nat}{k:Int}{s:bt}{m:Int}{l:List Ex}{t:Ty}(hk:k≠8)(hl:l.length≤10)(ht:t.Ok)(hc:t.Cw)(hx:∀x∈l,xd (12*n) x)(tx:lR ⟨k,0,s,m,l,[],t⟩):xd (12*(n+1)) ⟨k,0,s,m,l,[],t⟩ where
 sc:=⟨.mk (by simp only;omega) (by simp) (by simp) ht (by simpa[Ex.ch] using fun x h=>(hx x h).sc.ok),.mk (fun h=>absurd h hk) (by simpa[Ex.ch] using fun x h=>(hx x h).sc.one),.mk hc (by simpa[Ex.ch] using fun x h=>(hx x h).sc.cw)⟩
 h:=iU (n:=12*n+1) (.mk (by simpa[Ex.ch] using fun x h=>(hx x h).h)) (by omega)
 w:=by
   rw[wT,Ex.kF];have e:(⟨k,0,s,m,l,[],t⟩:Ex).ch=l:=by simp[Ex.ch]
   rw[e];exact B7 hl fun x h=>by have:=(hx x h).w;rwa [wT]at this
 tx:=tx
theorem ev{k:Int}{s:bt}{m:Int}(hk:(k=1∨k=2)∧s.length≤100∨k=3∧0≤m∧m<4∨k=10∧s=[]∧m=0):xd 12 ⟨k,0,s,m,[],[],bq⟩:=fC (n:=0) (by omega) (by simp) iT iV (by simp) (.leaf (hk.imp_right fun h=>h.imp_right fun h=>⟨h.1,h.2.1,h.2.2,rfl⟩) rfl rfl)
theorem Pq{n r:Nat}(hr:r<11){k:Int}{s:bt}{m:Int}{ks:List Ex}{y:Ex}(hf:xd (12*n+r) ⟨k,0,s,m,ks,[],bq⟩)(hy:xd (12*n) y):xd (12*n+r+1) ⟨5,0,[],0,[⟨k,0,s,m,ks,[],bq⟩,y],[],bq⟩ where
 sc:=⟨.mk (by simp) (by simp) (by simp) iT (by simpa[Ex.ch] using⟨hf.sc.ok,hy.sc.ok⟩),.mk (fun h=>absurd (show (5:Int)=8 from h) (by decide)) (by simpa[Ex.ch] using⟨hf.sc.one,hy.sc.one⟩),.mk iV (by simpa[Ex.ch] using⟨hf.sc.cw,hy.sc.cw⟩)⟩
 h:=.mk (by simpa[Ex.ch] using⟨hf.h,iU hy.h (by omega)⟩)
 w:=by
   have h1:=hf.w;have h2:=hy.w;rw[wT]at h2;have h3:1≤50 ^ n:=Nat.one_le_pow n 50 (by decide);rw[Ex.kF];have e:(⟨5,0,[],0,[⟨k,0,s,m,ks,[],bq⟩,y],[],bq⟩:Ex).ch=[⟨k,0,s,m,ks,[],bq⟩,y]:=(by simp[Ex.ch]);rw[e];simp only[List.map_cons,List.map_nil,List.sum_cons,List.sum_nil];unfold wN at h1⊢;have e1:(12*n+r) / 12=n:=(by omega);have e2:(12*n+r) % 12=r:=(by omega);have e3:(12*n+r+1) / 12=n:=(by omega);have e4:(12*n+r+1) % 12=r+1:=(by omega);rw[e1,e2]at h1;rw[e3,e4];have e5:50 ^ n*(2*(r+1)+1)=50 ^ n*(2*r+1)+2*50 ^ n:=(by rw[show 2*(r+1)+1=(2*r+1)+2 from by omega,Nat.mul_add];omega);rw[e5];omega
 tx:=.app rfl rfl rfl hf.tx hy.tx
theorem R8{L:List Int}{tm:Nat}{TP:Int→Sh}(hT:Tape L tm TP){I:Nat}{g:Ty}(hg:bP g){E:List En}(hE:E.length≤10000)(hc:∀x∈E,lS x.sc)(hnm:∀x∈E,x.name.length≤100):∀(n i:Nat),E.length-i=n→i≤E.length→∀acc:List bt,acc.length≤i→(∀s∈acc,s.length≤100) →
   ∃fs:List bt,fs.length≤E.length∧(∀s∈fs,s.length≤100)∧cl AP g348L0 ⟨[(0,.aW tm 0),(7,.az 7 0),(8,.az 8 0),(9,.own (acc.map .str) 0),(10,.pv (.au (E.map En.pv))),(11,.pv (vI i))],[(7,tC g),(8,pP 1)],TP I,[acc.length,0,0,0]⟩ =
     some (.exit 0,⟨[(0,.aW tm 0),(7,.az 7 0),(8,.az 8 0),(9,.own (fs.map .str) 0),(10,.pv (.au (E.map En.pv))),(11,.pv (vI E.length)),(19,.pv (.bool false))],[(7,tC g),(8,pP 1)],TP I,[fs.length,0,0,0]⟩)
 |0,i,hn,hi,acc,ha,hsn=>by
   have tn:=hT.norm;have tsh:=hT.shift;have tl:=hT.take;have:i=E.length:=(by omega);subst this;refine⟨acc,ha,hsn,?_⟩;rw[g348L0e];simp[tn,tsh,tl,g348B0,tC,pP]
 |n+1,i,hn,hi,acc,ha,hsn=>by
   have tn:=hT.norm;have tsh:=hT.shift;have tl:=hT.take;have hi:i<E.length:=(by omega);obtain⟨x,hx⟩:=aV hi;obtain⟨K,q1,q2,q3⟩:=(hc x (aR hx)).Vd;have k:=c238 (N:=K) (by omega) (p:=x.sc.ty) hg.ok q3;have hb:(acc.length+1)*16≤140737488355328:=(by omega);cases hI:MS K x.sc.ty g with
   |none=>
     obtain⟨fs,h1,h1n,e'⟩:=R8 hT (L:=L) (I:=I) hg hE hc hnm n (i+1) (by omega) (by omega) acc (by omega) hsn;refine⟨fs,h1,h1n,?_⟩;rw[hI]at k;rw[g348L0e]at e' ⊢;simp[tn,tsh,tl,tC,pP]at e';simp[tn,tsh,tl,rI]at k;simp (disch:=omega) [tn,tsh,tl,-getElem?_pos,g348B0,tC,pP,hx,hi,q1,k,ah];rw[g348L0e];simp[tn,tsh,tl,e']
   |some l=>
     obtain⟨fs,h1,h1n,e'⟩:=R8 hT (L:=L) (I:=I) hg hE hc hnm n (i+1) (by omega) (by omega) (acc++[x.name]) (by simp;omega) (by
       intro s hs;simp only[List.mem_append,List.mem_singleton]at hs;rcases hs with hs|rfl
       ·exact hsn s hs
       ·exact hnm x (aR hx))
     refine⟨fs,h1,h1n,?_⟩;rw[hI]at k;rw[g348L0e]at e' ⊢;simp[tn,tsh,tl,tC,pP]at e';simp[tn,tsh,tl,rI]at k;simp (disch:=omega) [tn,tsh,tl,-getElem?_pos,g348B0,tC,pP,hx,hi,q1,k,hb,ah];rw[g348L0e];simp[tn,tsh,tl,e']
def nq(L:List Int)(tm:Nat)(TP:Int→Sh)(n:Nat)(r:Option (List AV×Sh×aG)):Prop:=∃(e:Ex) (fk fa fg:Bool) (j:Nat),r=some ([.agg (dZ fk fa fg e)],TP j,[])∧xd n e∧j≤L.length
structure Ctx(n:Nat)(l:List En):Prop where
 len:l.length≤n
 Vh:∀x∈l,lS x.sc
 nm:∀x∈l,x.name.length≤100
theorem c348{L:List Int}{tm:Nat}{TP:Int→Sh}(hT:Tape L tm TP)(hL:Sm L){ds:List Dt}{l:List En}(hl:Ctx 10000 l){g:Ty}(hg:bP g){i:Nat}(hi:i≤L.length) :
   nq L tm TP 12 ((aC AP).i 348 [.aW tm 0,.pv (.au (ds.map Dt.pv)),.pv (.au (l.map En.pv)),.pv g.pv] (TP i) []):=by
 have tn:=hT.norm;have tsh:=hT.shift;have tl:=hT.take;have hsl:=uM l;have hll:=hl.len;have k1:=c201 (l:=l) (by unfold Sm;omega);obtain⟨fs,hf,hfn,e⟩:=R8 hT (L:=L) (I:=i) hg (E:=dm l) (by omega) (fun x hx=>hl.Vh x (mw l x hx)) (fun x hx=>hl.nm x (mw l x hx)) _ 0 rfl (by omega) [] (by simp) (by simp);generalize dm l=E at *;have k2:=c20 (a:=g) (b:=a0) hg.ok;have k3:=c34;rw[g348L0e]at e;simp[tn,tsh,tl,tC,pP]at e k1 k3
 have tail:∀j,j≤L.length→(g=a0∧∃r j1,0≤r∧j1≤L.length∧(aC AP).i 68 [.aW tm 0,.pv (vI 4)] (TP j) []=some ([.pv (vI r)],TP j1,[]))∨¬g=a0:=by
   intro j hj;by_cases q:g=a0
   ·obtain⟨r,j1,e1,r0,_,hj1⟩:=p9 hT hL hj (n:=4) (by omega) (by omega);exact .inl ⟨q,r,j1,r0,hj1,e1⟩
   ·exact .inr q
 by_cases TW:fs=[]
 · subst TW
   try simp[tn,tsh,tl]at e
   rcases tail i hi with⟨q,r,j1,r0,hj1,e1⟩|q
   · rw[decide_eq_true q]at k2;subst q
     try simp[tn,tsh,tl]at k2 e1
     by_cases hr:0<r
     · obtain⟨m,j2,e2,m0,m1,hj2⟩:=p9 hT hL hj1 (n:=3) (by omega) (by omega);refine⟨⟨3,0,[],m,[],[],bq⟩,true,true,true,j2,?_,ev (.inr (.inl ⟨rfl,m0,by omega⟩)),hj2⟩
       try simp[tn,tsh,tl]at e2
       simp[tn,tsh,tl,a0]at k2 k3 e;rw[aE (af:=g348) rfl (by simp[tn,tsh,tl,g348])];simp[tn,tsh,tl,g348,k1,g348L0e,e,k3,k2,e1,hr,e2,dZ,gI,bq,a0]
     ·refine⟨⟨10,0,[],0,[],[],bq⟩,true,true,true,j1,?_,ev (.inr (.inr ⟨rfl,rfl,rfl⟩)),hj1⟩;simp[tn,tsh,tl,a0]at k2 k3 e;rw[aE (af:=g348) rfl (by simp[tn,tsh,tl,g348])];simp[tn,tsh,tl,g348,k1,g348L0e,e,k3,k2,e1,hr,dZ,gI,bq,a0]
   ·rw[decide_eq_false q]at k2;refine⟨⟨10,0,[],0,[],[],bq⟩,true,true,true,i,?_,ev (.inr (.inr ⟨rfl,rfl,rfl⟩)),hi⟩;simp[tn,tsh,tl,a0]at k2 k3;rw[aE (af:=g348) rfl (by simp[tn,tsh,tl,g348])];simp[tn,tsh,tl,g348,k1,g348L0e,e,k3,k2,dZ,gI,bq,a0]
 · have hp:0<fs.length:=List.length_pos_iff.2 TW;obtain⟨r6,j6,e6,r60,_,hj6⟩:=p9 hT hL hi (n:=6) (by omega) (by omega)
   try simp[tn,tsh,tl]at e6
   by_cases h6:0<r6
   · obtain⟨m,j7,e7,m0,m1,hj7⟩:=p9 hT hL hj6 (n:=fs.length) (by omega) (by omega);obtain⟨m,rfl,hm⟩:=pF m0 m1;obtain⟨s,hs⟩:=aV hm;refine⟨⟨1,0,s,0,[],[],bq⟩,true,true,true,j7,?_,ev (.inl ⟨.inl rfl,hfn s (aR hs)⟩),hj7⟩
     try simp[tn,tsh,tl]at e7
     rw[aE (af:=g348) rfl (by simp[tn,tsh,tl,g348])];simp[tn,tsh,tl,-getElem?_pos,g348,k1,g348L0e,e,hp,e6,h6,e7,hs,dZ,gI,bq]
   · rcases tail j6 hj6 with⟨q,r,j1,r0,hj1,e1⟩|q
     · rw[decide_eq_true q]at k2;subst q
       try simp[tn,tsh,tl]at k2 e1
       by_cases hr:0<r
       · obtain⟨m,j2,e2,m0,m1,hj2⟩:=p9 hT hL hj1 (n:=3) (by omega) (by omega);refine⟨⟨3,0,[],m,[],[],bq⟩,true,true,true,j2,?_,ev (.inr (.inl ⟨rfl,m0,by omega⟩)),hj2⟩
         try simp[tn,tsh,tl]at e2
         simp[tn,tsh,tl,a0]at k2 k3 e;rw[aE (af:=g348) rfl (by simp[tn,tsh,tl,g348])];simp[tn,tsh,tl,g348,k1,g348L0e,e,hp,e6,h6,k3,k2,e1,hr,e2,dZ,gI,bq,a0]
       ·refine⟨⟨10,0,[],0,[],[],bq⟩,true,true,true,j1,?_,ev (.inr (.inr ⟨rfl,rfl,rfl⟩)),hj1⟩;simp[tn,tsh,tl,a0]at k2 k3 e;rw[aE (af:=g348) rfl (by simp[tn,tsh,tl,g348])];simp[tn,tsh,tl,g348,k1,g348L0e,e,hp,e6,h6,k3,k2,e1,hr,dZ,gI,bq,a0]
     ·rw[decide_eq_false q]at k2;refine⟨⟨10,0,[],0,[],[],bq⟩,true,true,true,j6,?_,ev (.inr (.inr ⟨rfl,rfl,rfl⟩)),hj6⟩;simp[tn,tsh,tl,a0]at k2 k3;rw[aE (af:=g348) rfl (by simp[tn,tsh,tl,g348])];simp[tn,tsh,tl,g348,k1,g348L0e,e,hp,e6,h6,k3,k2,dZ,gI,bq,a0]
def ki(L:List Int)(tm:Nat)(TP:Int→Sh)(ds:List Dt)(dep:Nat):Prop:=∀(i:Nat) (l:List En) (g:Ty),i≤L.length→Ctx (1000-20*dep) l→bP g→g.nodes.length≤6000-20*dep →
 nq L tm TP (12*(dep+1)) ((aC AP).i 326 [.aW tm 0,.pv (.au (ds.map Dt.pv)),.pv (.au (l.map En.pv)),.pv g.pv,.pv (vI dep)] (TP i) [])
theorem Ctx.push{n m:Nat}{l:List En}(h:Ctx n l){s:bt}{c:Sc}(hc:lS c)(hs:s.length≤100)(hm:n+1≤m):Ctx m (l++[⟨s,c⟩]):=⟨by have:=h.len;simp;omega,by
 intro x hx;simp at hx;rcases hx with hx|rfl
 ·exact h.Vh x hx
 ·exact hc,by
 intro x hx;simp at hx;rcases hx with hx|rfl
 ·exact h.nm x hx
 ·exact hs⟩
theorem Ctx.gY{n m:Nat}{l:List En}(h:Ctx n l)(hm:n≤m):Ctx m l:=⟨by have:=h.len;omega,h.Vh,h.nm⟩
theorem lE{D:Dt→Prop}(hD:∀d,D d→d.params.length≤8)(hN:∀d,D d→d.name.length≤100){lv:List Ty}(h:∀t∈lv,t.args=[]∧t.kind=3∧t.name=[]){n:Nat}{t:Ty}(m:gQ D lv n t):bP t:=by
 refine⟨m.ok hD (fun t ht=>(h t ht).1),?_⟩;induction m with
 |leaf hl=>exact .bare (h _ hl).1 (fun _=>by rw[(h _ hl).2.1];simp) (by rw[(h _ hl).2.2];simp)
 |int=>exact .bare rfl (by simp[a0]) (by simp[a0])
 |cZ hd _ _ ih=>exact .mk (by simp) (hN _ hd) ih
 |arrow _ _ iha ihb=>exact .mk (by simp) (by simp) (by intro x hx;simp at hx;rcases hx with rfl|rfl<;>assumption)
theorem bP.arrow{a b:Ty}(ha:bP a)(hb:bP b):bP ⟨4,[45,62],0,0,[a,b]⟩:=⟨⟨by simp[Sm],by intro x hx;simp at hx;rcases hx with rfl|rfl;exact ha.ok;exact hb.ok⟩,.mk (by simp) (by simp) (by intro x hx;simp at hx;rcases hx with rfl|rfl;exact ha.kn;exact hb.kn)⟩
theorem dB:∀s∈varNames,s.length≤100:=by
 intro s hs;simp only[varNames,List.mem_cons,List.not_mem_nil,or_false]at hs;rcases hs with rfl|rfl|rfl|rfl|rfl|rfl|rfl|rfl<;>simp
theorem Vi{g:Ty}(hg:bP g)(h:g.kh 3=false):g.Kn KT:=by
 have hk:=hg.kn;clear hg;induction hk with
 | @mk t hh hn _ ih=>
   rw[Ty.Gf,Bool.or_eq_false_iff,List.any_eq_false]at h;refine .mk (fun q=>?_) hn fun x hx=>ih x hx (by simpa using h.2 x hx);obtain⟨a,b⟩:=hh q;refine⟨?_,b⟩;have:=h.1
   simp at a this⊢;omega
variable {L: List Int}  {tm:Nat} {TP:Int→Sh} {ds:List Dt} {dep:Nat} {l:List En} {g:Ty} {i:Nat}
def vg(L:List Int)(tm:Nat)(TP:Int→Sh)(ds:List Dt)(dep:Nat)(l:List En)(g:Ty)(i:Nat):Prop:=
 nq L tm TP (12*(dep+1)) ((aC AP).i 326 [.aW tm 0,.pv (.au (ds.map Dt.pv)),.pv (.au (l.map En.pv)),.pv g.pv,.pv (vI dep)] (TP i) [])
theorem MZ(hT:Tape L tm TP)(hL:Sm L)(hl:Ctx 10000 l)(hg:bP g)(hi:i≤L.length):vg L tm TP ds 0 l g i:=by
 have tn:=hT.norm;have tsh:=hT.shift;have tl:=hT.take;obtain⟨e,f1,f2,f3,j,k,ht,hj⟩:=c348 hT hL (ds:=ds) hl hg hi;refine⟨e,f1,f2,f3,j,?_,ht.up (by omega),hj⟩;rw[aE (af:=g326) rfl (by simp[tn,tsh,tl,g326])];cases f1<;>cases f2<;>cases f3<;>simp[tn,tsh,tl,dZ,gI]at k<;>simp[tn,tsh,tl,g326,k,dZ,gI,aF]
theorem Pr(hT:Tape L tm TP)(hL:Sm L)(hdep:dep<100)(hl:Ctx 10000 l)(hg:bP g){j9:Nat}(hj9:j9≤L.length)(e9:(aC AP).i 68 [.aW tm 0,.pv (vI 9)] (TP i) []=some ([.pv (vI 0)],TP j9,[])):vg L tm TP ds (dep+1) l g i:=by
 have tn:=hT.norm;have tsh:=hT.shift;have tl:=hT.take;obtain⟨e,f1,f2,f3,j,k,ht,hj⟩:=c348 hT hL (ds:=ds) hl hg hj9;refine⟨e,f1,f2,f3,j,?_,ht.up (by omega),hj⟩;have h1:¬((dep:Int)+1<1):=by omega
 try simp[tn,tsh,tl]at e9
 rw[aE (af:=g326) rfl (by simp[tn,tsh,tl,g326])];cases f1<;>cases f2<;>cases f3<;>simp[tn,tsh,tl,dZ,gI]at k<;>simp[tn,tsh,tl,g326,h1,e9,k,dZ,gI,aF]
structure M0(L:List Int)(tm:Nat)(TP:Int→Sh)(g:Ty)(i:Nat)(a b:Ty)(ar:Bool)(k r9:Int)(j9 j:Nat):Prop where
 nz:¬r9=0
 e9:(aC AP).i 68 [.aW tm 0,.pv (vI 9)] (TP i) []=some ([.pv (vI r9)],TP j9,[])
 arr:(aC AP).p 194 [g.pv]=some [a.pv,b.pv,.bool ar]
 vh:(aC AP).i 68 [.aW tm 0,.pv (vI 10)] (TP j9) []=some ([.pv (vI k)],TP j,[])
 hj:j≤L.length
theorem R9(hT:Tape L tm TP)(hL:Sm L)(hdep:dep<10)(hG:ki L tm TP ds dep)(hl:Ctx (1000-20*(dep+1)) l){a b:Ty}{k r9:Int}{j9 j:Nat}(P:M0 L tm TP g i a b true k r9 j9 j)(hk:k<7)(ha:bP a)(hb:bP b)(hbn:b.nodes.length≤6000-20*dep):vg L tm TP ds (dep+1) l g i:=by
 have tn:=hT.norm;have tsh:=hT.shift;have tl:=hT.take;obtain⟨nz,e9,arr,vh,hj⟩:=P;obtain⟨s,j1,e1,hs,hj1⟩:=JE hT hL hj;have hll:=hl.len;have k1:=c176 (t:=a);have k2:=c179 (l:=l) (by unfold Sm;omega) (n:=s) (c:=⟨0,a⟩);obtain⟨e,f1,f2,f3,j2,e2,he,hj2⟩:=hG j1 (l++[⟨s,⟨0,a⟩⟩]) b hj1 (hl.push ha.mono (dB _ hs) (by omega)) hb hbn;have hA:=dR f1 f2 f3 e;generalize dZ f1 f2 f3 e=A at e2 hA;have ac:=Ex.bm e;refine⟨⟨4,0,s,0,[e],[],bq⟩,true,true,true,j2,?_,(fC (by decide) (by simp) iT iV (by simpa using he) (.lam rfl (dB _ hs) rfl rfl he.tx)).up (by omega),hj2⟩;have h1:¬((dep:Int)+1<1):=by omega
 have h2:(dep:Int)+1-1=dep:=by omega
 try simp[tn,tsh,tl]at e9 arr vh e1 k1 k2 e2
 rw[aE (af:=g326) rfl (by simp[tn,tsh,tl,g326])];simp (disch:=omega) [tn,tsh,tl,g326,h1,h2,nz,e9,arr,vh,hk,e1,k1,k2,e2,ah,hA.dd,hA.flat,hA.gH,hA.len,hA.leaf,ac,dZ,gI,bq]
theorem R_(hT:Tape L tm TP)(hL:Sm L)(hdep:dep<10)(hds:ds.length≤20)(hda:∀d∈ds,d.params.length≤8)(hdn:∀d∈ds,d.name.length≤100)(hG:ki L tm TP ds dep)(hl:Ctx (1000-20*(dep+1)) l)(hg:bP g)(hgn:g.nodes.length≤6000-20*(dep+1)){a b:Ty}{k r9:Int}{j9 j:Nat}(P:M0 L tm TP g i a b false k r9 j9 j)(hk:k<2):vg L tm TP ds (dep+1) l g i:=by
 have tn:=hT.norm;have tsh:=hT.shift;have tl:=hT.take;obtain⟨nz,e9,arr,vh,hj⟩:=P;obtain⟨t,j1,e1,mt,hj1⟩:=R6 hT hL hds hda (lv:=[]) (by simp[tn,tsh,tl,Sm]) 1 (by omega) j hj;have gt:bP t:=lE hda hdn (by simp) mt;have tn9:=mt.small hda (by simp);have k1:=c69 (a:=t) (b:=g);have hl':Ctx (1000-20*dep) l:=hl.gY (by omega);obtain⟨x,f1,f2,f3,j2,e2,hx,hj2⟩:=hG j1 l _ hj1 hl' (gt.arrow hg) (by rw[Ty.aM];simp;omega);obtain⟨y,f4,f5,f6,j3,e3,hy,hj3⟩:=hG j2 l _ hj2 hl' gt (by omega);have hA:=dR f1 f2 f3 x;generalize dZ f1 f2 f3 x=A at e2 hA;have hB:=dR f4 f5 f6 y;generalize dZ f4 f5 f6 y=B at e3 hB;have ac:=Ex.bm x;have bc:=Ex.bm y;have tA:A.take 11=A:=List.take_of_length_le (by rw[hA.len];omega);refine⟨⟨5,0,[],0,[x,y],[],bq⟩,true,true,true,j3,?_,(fC (by decide) (by simp) iT iV (by simpa using⟨hx,hy⟩) (.app rfl rfl rfl hx.tx hy.tx)).up (by omega),hj3⟩;have h1:¬((dep:Int)+1<1):=by omega
 have h2:(dep:Int)+1-1=dep:=by omega
 simp[tn,tsh,tl,Ty.av]at e9 arr vh e1 k1 e2 e3;rw[aE (af:=g326) rfl (by simp[tn,tsh,tl,g326])];simp (disch:=omega) [tn,tsh,tl,g326,h1,h2,nz,e9,arr,vh,hk,e1,k1,e2,e3,ah,hA.dd,hA.flat,hA.gH,hA.len,hA.leaf,hB.dd,hB.flat,hB.gH,hB.len,hB.leaf,tA,ac,bc,aF,dZ,gI,bq]
theorem R'(hT:Tape L tm TP)(hL:Sm L)(hdep:dep<10)(hG:ki L tm TP ds dep)(hl:Ctx (1000-20*(dep+1)) l)(hg:bP g)(hgn:g.nodes.length≤6000-20*(dep+1)){a b:Ty}{r9:Int}{j9 j:Nat}(P:M0 L tm TP g i a b false 4 r9 j9 j)(h3:g.kh 3=false)(h4:g.kh 1=false):vg L tm TP ds (dep+1) l g i:=by
 have tn:=hT.norm;have tsh:=hT.shift;have tl:=hT.take;obtain⟨nz,e9,arr,vh,hj⟩:=P;have k1:=c351 (k:=3) hg.ok;have k2:=c351 (k:=1) hg.ok;rw[h3]at k1;rw[h4]at k2;have hl':Ctx (1000-20*dep) l:=hl.gY (by omega);obtain⟨x,f1,f2,f3,j2,e2,hx,hj2⟩:=hG j l _ hj hl' hg (by omega);have hA:=dR f1 f2 f3 x;generalize dZ f1 f2 f3 x=A at e2 hA;have ac:=Ex.bm x;refine⟨⟨9,0,[],0,[x],[],g⟩,true,true,false,j2,?_,(fC (by decide) (by simp) hg.ok hg.kn.cw (by simpa using hx) (.JU rfl rfl rfl (Vi hg h3) (by simp only;omega) hx.tx)).up (by omega),hj2⟩;have h1:¬((dep:Int)+1<1):=by omega
 have h2:(dep:Int)+1-1=dep:=by omega
 try simp[tn,tsh,tl]at e9 arr vh k1 k2 e2
 rw[aE (af:=g326) rfl (by simp[tn,tsh,tl,g326])];simp (disch:=omega) [tn,tsh,tl,g326,h1,h2,nz,e9,arr,vh,k1,k2,e2,ah,hA.dd,hA.flat,hA.gH,hA.len,hA.leaf,ac,dZ,gI,bq]
theorem Ps(hT:Tape L tm TP)(hL:Sm L)(hdep:dep<10)(hG:ki L tm TP ds dep)(hl:Ctx (1000-20*(dep+1)) l)(hg:bP g)(hgn:g.nodes.length≤6000-20*(dep+1)){a b:Ty}{r9:Int}{j9 j:Nat}(P:M0 L tm TP g i a b false 5 r9 j9 j):vg L tm TP ds (dep+1) l g i:=by
 have tn:=hT.norm;have tsh:=hT.shift;have tl:=hT.take;obtain⟨nz,e9,arr,vh,hj⟩:=P;have hl':Ctx (1000-20*dep) l:=hl.gY (by omega);obtain⟨x,f1,f2,f3,j2,e2,hx,hj2⟩:=hG j l _ hj hl' hg (by omega);have hA:=dR f1 f2 f3 x;generalize dZ f1 f2 f3 x=A at e2 hA;have ac:=Ex.bm x;refine⟨⟨11,0,[],0,[x],[],bq⟩,true,true,true,j2,?_,(fC (by decide) (by simp) iT iV (by simpa using hx) (.held rfl rfl rfl hx.tx)).up (by omega),hj2⟩;have h1:¬((dep:Int)+1<1):=by omega
 have h2:(dep:Int)+1-1=dep:=by omega
 try simp[tn,tsh,tl]at e9 arr vh e2
 rw[aE (af:=g326) rfl (by simp[tn,tsh,tl,g326])];simp (disch:=omega) [tn,tsh,tl,g326,h1,h2,nz,e9,arr,vh,e2,ah,hA.dd,hA.flat,hA.gH,hA.len,hA.leaf,ac,dZ,gI,bq]
end Go.Ab.Lw
namespace Go.Ab.Lw
open Ev
structure WT(x u:Ty):Prop where
 ok:u.Ok
 kn:u.Kn KS
 vr:∀y∈u.nodes,y.kind=1→∃z∈x.nodes,z.kind=3∧z.home=99∧y.id=IntKind.i64.wrap (900+z.id)
 n:u.nodes.length≤x.nodes.length
structure Vj(x u:Ty):Prop where
 ok:u.Ok
 kn:u.Kn KS
 vr:∀y∈u.nodes,y.kind=1→∃z∈x.nodes,z.kind=3∧z.home=99∧y.id=IntKind.i64.wrap (900+z.id)
theorem QG{x:Ty}(hx:x.Ok)(IH:∀a∈x.args,∃u:Ty,(aC AP).p 375 [a.pv]=some [u.pv]∧WT a u):∀(k i:Nat),x.args.length-i=k→i≤x.args.length→∀acc:List Ty,acc.length=i→(∀u∈acc,Vj x u)→(acc.flatMap Ty.nodes).length≤((x.args.take i).flatMap Ty.nodes).length→∃us:List Ty,
   cl AP g375L0 ⟨[(1,.az 1 0),(2,.az 2 0),(3,.az 3 0),(4,.pv (vI i))],[(1,tC x),(2,zC 0),(3,uC x acc 1)],[],[0,acc.length]⟩ =
     some (.exit 0,⟨[(1,.az 1 0),(2,.az 2 0),(3,.az 3 0),(4,.pv (vI x.args.length)),(23,.pv (.bool false))],[(1,tC x),(2,zC 0),(3,uC x us 1)],[],[0,us.length]⟩)∧us.length=x.args.length∧(∀u∈us,Vj x u)∧(us.flatMap Ty.nodes).length≤(x.args.flatMap Ty.nodes).length
 |0,i,hk,hi,acc,ha,hu,hc=>by
   have:i=x.args.length:=by omega
   subst this;refine⟨acc,?_,ha,hu,by simpa using hc⟩;rw[g375L0e];simp[g375B0,tC,zC,uC]
 |k+1,i,hk,hi,acc,ha,hu,hc=>by
   have hi:i<x.args.length:=(by omega);obtain⟨a,hax⟩:=aV hi;have hsm:=hx.sm;unfold Sm at hsm;obtain⟨u,e,hO⟩:=IH a (aR hax);have hnn:=hO.n
   obtain⟨us,e',h1,h2,h3⟩:=QG hx IH k (i+1) (by omega) (by omega) (acc++[u]) (by simp;omega) (by
     intro y hy;simp at hy;rcases hy with hy|rfl
     ·exact hu y hy
     ·exact⟨hO.ok,hO.kn,fun z hz q=>by obtain⟨w,hw,hr⟩:=hO.vr z hz q;exact⟨w,JC a (aR hax) w hw,hr⟩⟩) (by rw[List.take_add_one,hax,List.flatMap_append,List.length_append,List.flatMap_append,List.length_append];simp only[Option.toList_some,List.flatMap_cons,List.flatMap_nil,List.append_nil];omega)
   refine⟨us,?_,h1,h2,h3⟩;have hb:(acc.length+1)*64≤140737488355328:=by omega
   rw[g375L0e]at e' ⊢;simp at e;simp[tC,zC,uC]at e';simp (disch:=omega) [-getElem?_pos,g375B0,tC,zC,uC,hi,hax,ah,e,hb];rw[g375L0e];simp[e']
theorem c375x{t:Ty}(hG:bP t):∃u:Ty,(aC AP).p 375 [t.pv]=some [u.pv]∧WT t u:=by
 revert hG
 refine Ty.dF (p:=fun t=>bP t→∃u:Ty,(aC AP).p 375 [t.pv]=some [u.pv]∧WT t u) ?_ t;intro t ih hG;have hself:t∈t.nodes:=by rw[Ty.aM];simp
 have hpos:1≤t.nodes.length:=by rw[Ty.aM];simp
 by_cases q:t.kind=3∧t.home=99
 · have k:=c63 (n:=IntKind.i64.wrap (900+t.id));refine⟨⟨1,[],IntKind.i64.wrap (900+t.id),0,[]⟩,?_,⟨cI rfl,.bare rfl (by simp) (by simp),?_,by rw[Ty.aM];simpa using hpos⟩⟩
   ·simp at k;rw[ae (af:=g375) rfl rfl (by decide)];simp[g375,q.1,q.2,k]
   ·intro y hy _;rw[Ty.aM]at hy;simp at hy;subst hy;exact⟨t,hself,q.1,q.2,rfl⟩
 · obtain⟨us,e,h1,h2,h3⟩:=QG hG.ok (fun a ha=>ih a ha (hG.gw a ha)) _ 0 rfl (by omega) [] rfl (by simp) (by simp);refine⟨⟨t.kind,t.name,t.id,t.home,us⟩,?_,⟨⟨by have:=hG.ok.sm;unfold Sm at *;simp only;omega,fun y hy=>(h2 y hy).ok⟩,.mk (fun r=>?_) hG.kn.nm fun y hy=>(h2 y hy).kn,?_,by rw[Ty.aM,Ty.aM t];simp only[List.length_cons];omega⟩⟩
   · rw[ae (af:=g375) rfl rfl (by decide)];rw[g375L0e]at e;simp[tC,zC,uC]at e;by_cases q1:t.kind=3
     ·have q2:¬t.home=99:=fun h=>q ⟨q1,h⟩;simp[q1]at e;simp[g375,q1,q2,g375L0e,e]
     ·simp[g375,q1,g375L0e,e]
   ·have:=hG.kn.hd r;refine⟨P' _ this.1,?_⟩;rw[this.2]at h1;exact List.length_eq_zero_iff.1 h1
   · intro y hy hk;rw[Ty.aM]at hy;simp only[List.mem_cons,List.mem_flatMap]at hy;rcases hy with rfl|⟨u,hu,hy⟩
     · have:=(hG.kn.hd (by change t.kind=1 at hk;rw[hk];decide)).1
       change t.kind=1 at hk
       rw[hk]at this;simp at this
     ·exact (h2 u hu).vr y hy hk
theorem M1{l:List Ty}:∀{out:List Ty} {y:Ty},y∈out∨y∈l→y∈l.foldl gW out:=by
 induction l with
 |nil=>intro out y h;simpa using h
 |cons a r ih=>
   intro out y h;rw[List.foldl_cons];refine ih ?_;rcases h with h|h
   · left;unfold gW;split
     ·exact h
     ·simp[h]
   · simp only[List.mem_cons]at h;rcases h with rfl|h
     · left;unfold gW;split
       ·assumption
       ·simp
     ·exact .inr h
theorem c59x{u:Ty}(hu:u.Ok)(hn:u.nodes.length≤4000):∃r:List Ty,(aC AP).p 59 [.au [u.pv]]=some [.au (r.map Ty.pv)]∧Sm r∧∀y∈u.fe 3,y∈r:=by
 have hl:=pQ (k:=3) (t:=u);have c0:gm (u.fe 3) []:=⟨by simp,by simp,by omega,fun x hx=>cI (mI x hx)⟩;have hk:∀x∈[u].flatMap (Ty.fe 3),x∈u.fe 3:=by simp
 have h:=WK (S:=u.fe 3) (l:=[u]) (by simp[Sm]) (by simpa using hu) hk _ 0 rfl (by omega) [] c0;have hc:=c0.fold hk;refine⟨_,?_,hc.len,fun y hy=>M1 (.inr (by simpa using hy))⟩;rw[ae (af:=g59) rfl rfl (by decide)];rw[g59L0e]at h;simp at h;simp[g59,g59L0e,h]
theorem M3{k:Int}{t:Ty}:∀y∈t.nodes,y.kind=k→y.args=[]→y∈t.fe k:=by
 refine Ty.dF (p:=fun t=>∀y∈t.nodes,y.kind=k→y.args=[]→y∈t.fe k) ?_ t;intro t ih y hy hk ha;rw[Ty.aM]at hy;rw[Ty.mu];simp only[List.mem_cons,List.mem_flatMap]at hy;rcases hy with rfl|⟨a,ham,hy⟩
 ·rw[if_pos ⟨hk,by rw[ha];rfl⟩];simp
 · have:¬(t.kind=k∧t.args.length=0):=by
     rintro⟨_,h⟩
     rw[List.length_eq_zero_iff.1 h]at ham;cases ham
   rw[if_neg this];simp only[List.mem_flatMap];exact⟨a,ham,ih a ham y hy hk ha⟩
theorem M4{r:List Ty}(hr:Sm r){t:Ty}:∀(n i:Nat),r.length-i=n→i≤r.length→∀acc:List Int,acc.length≤i→∃ids:List Int,ids.length≤r.length∧(∀v∈acc,v∈ids)∧(∀z∈r.drop i,z.home=99→IntKind.i64.wrap (900+z.id)∈ids) ∧
   cl AP g361L0 ⟨[(1,.az 1 0),(2,.az 2 0),(3,.own (acc.map vI) 0),(4,.pv (.au (r.map Ty.pv))),(5,.pv (vI i))],[(1,tC t),(2,gz 1)],[],[acc.length,0]⟩ =
     some (.exit 0,⟨[(1,.az 1 0),(2,.az 2 0),(3,.own (ids.map vI) 0),(4,.pv (.au (r.map Ty.pv))),(5,.pv (vI r.length)),(12,.pv (.bool false))],[(1,tC t),(2,gz 1)],[],[ids.length,0]⟩)
 |0,i,hn,hi,acc,ha=>by
   have:i=r.length:=by omega
   subst this;refine⟨acc,ha,fun _ h=>h,by simp,?_⟩;rw[g361L0e];simp[g361B0,tC,gz]
 |n+1,i,hn,hi,acc,ha=>by
   have hi:i<r.length:=(by omega);obtain⟨x,hx⟩:=aV hi;have hr':=hr;unfold Sm at hr;have hb:(acc.length+1)*8≤140737488355328:=(by omega);have hh:bf 1 (acc.map vI)=true:=oB.head acc;rw[bj hx];by_cases q:x.home=99
   · obtain⟨ids,h1,h2,h3,e⟩:=M4 (t:=t) hr' n (i+1) (by omega) (by omega) (acc++[IntKind.i64.wrap (900+x.id)]) (by simp;omega);refine⟨ids,h1,fun v hv=>h2 v (by simp[hv]),?_,?_⟩
     · intro z hz hh;simp only[List.mem_cons]at hz;rcases hz with rfl|hz
       ·exact h2 _ (by simp)
       ·exact h3 z hz hh
     ·rw[g361L0e]at e⊢;simp[tC,gz]at e;simp (disch:=omega) [-getElem?_pos,g361B0,tC,gz,hx,hi,q,hb,hh];rw[g361L0e];have w1:IntKind.i64.wrap ((i:Int)+1)=(i:Int)+1:=ah (by omega) (by omega);simp[w1,e]
   · obtain⟨ids,h1,h2,h3,e⟩:=M4 (t:=t) hr' n (i+1) (by omega) (by omega) acc (by omega);refine⟨ids,h1,h2,?_,?_⟩
     · intro z hz hh;simp only[List.mem_cons]at hz;rcases hz with rfl|hz
       ·exact absurd hh q
       ·exact h3 z hz hh
     ·rw[g361L0e]at e⊢;simp[tC,gz]at e;simp (disch:=omega) [-getElem?_pos,g361B0,tC,gz,hx,hi,q,ah];rw[g361L0e];simp[e]
theorem oL{ids:List Int}:∀(vs:List Int) (acc:List As),(∀a∈acc,∃k:Nat,k<acc.length∧a.ty=cy k)→(∀a∈cL ids vs acc,∃k:Nat,k<(cL ids vs acc).length∧a.ty=cy k)∧(cL ids vs acc).length≤acc.length+vs.length∧(∀v,(∃x,lp acc v=some x)→∃x,lp (cL ids vs acc) v=some x)∧∀v∈vs,v∈ids→∃x,lp (cL ids vs acc) v=some x
 |[],acc,h=>⟨h,by simp[cL],fun _ h=>h,by simp⟩
 |v::r,acc,h=>by
   simp only[cL];by_cases q:v∈ids
   · rw[if_pos q]
     obtain⟨h1,h2,h3,h4⟩:=oL (ids:=ids) r (acc++[⟨v,cy acc.length⟩]) (by
       intro a ha;simp at ha;rcases ha with ha|rfl
       ·obtain⟨k,hk,e⟩:=h a ha;exact⟨k,by simp;omega,e⟩
       ·exact⟨acc.length,by simp,rfl⟩)
     refine⟨h1,by simp at h2⊢;omega,?_,?_⟩
     · rintro w ⟨x,hx⟩
       exact h3 w ⟨x,by rw[yJ,hx];rfl⟩
     · intro w hw hi;simp only[List.mem_cons]at hw;rcases hw with rfl|hw
       · refine h3 w ?_;rw[yJ];cases lp acc w with
         |some x=>exact⟨x,rfl⟩
         |none=>exact⟨cy acc.length,by simp[lp]⟩
       ·exact h4 w hw hi
   · rw[if_neg q];obtain⟨h1,h2,h3,h4⟩:=oL (ids:=ids) r acc h;refine⟨h1,by simp;omega,h3,?_⟩;intro w hw hi;simp only[List.mem_cons]at hw;rcases hw with rfl|hw
     ·exact absurd hi q
     ·exact h4 w hw hi
theorem JH{s:List As}{t:Ty}:∀y∈(t.sub s).nodes,(∃i x,lp s i=some x∧y∈x.nodes)∨∃z∈t.nodes,y.kind=z.kind:=by
 refine Ty.dF (p:=fun t=>∀y∈(t.sub s).nodes,(∃i x,lp s i=some x∧y∈x.nodes)∨∃z∈t.nodes,y.kind=z.kind) ?_ t;intro t ih y hy
 have gw:∀a∈t.args,y∈(a.sub s).nodes→(∃i x,lp s i=some x∧y∈x.nodes)∨∃z∈t.nodes,y.kind=z.kind:=by
   intro a ha h;rcases ih a ha y h with h|⟨z,hz,h⟩
   ·exact .inl h
   ·exact .inr ⟨z,JC a ha z hz,h⟩
 have hself:t∈t.nodes:=by rw[Ty.aM];simp
 rw[Ty.sub_eq]at hy;split at hy
 · cases e:lp s t.id with
   |some x=>rw[e]at hy;exact .inl ⟨_,x,e,hy⟩
   |none=>rw[e]at hy;exact .inr ⟨y,by simpa using hy,rfl⟩
 · rw[Ty.aM]at hy;simp only[List.mem_cons,List.mem_flatMap,List.mem_map]at hy;rcases hy with rfl|⟨b,⟨a,ha,rfl⟩,hy⟩
   ·exact .inr ⟨t,hself,rfl⟩
   ·exact gw a ha hy
theorem xe:∀{l:List Ty} {out:List Int},(l.foldl eC out).length≤out.length+l.length
 |[],out=>by simp
 |a::r,out=>by
   have h:=xe (l:=r) (out:=eC out a);have:(eC out a).length≤out.length+1:=by unfold eC;split<;>simp
   simp only[List.foldl_cons,List.length_cons];omega
theorem Pt{u:Ty}:(vars [u]).length≤u.nodes.length:=by
 have:=xe (l:=[u].flatMap Ty.nodes) (out:=[]);simpa[vars] using this
theorem xg{l:List Ty}:∀{out:List Int} {y:Ty},y∈l→y.kind=1→y.id∈l.foldl eC out:=by
 have aU:∀(l:List Ty) (out:List Int) (v:Int),v∈out→v∈l.foldl eC out:=by
   intro l;induction l with
   |nil=>intro out v h;exact h
   |cons a r ih=>intro out v h;rw[List.foldl_cons];refine ih _ v ?_;unfold eC;split<;>simp[h]
 induction l with
 |nil=>intro out y h;simp at h
 |cons a r ih=>
   intro out y h hk;rw[List.foldl_cons];simp only[List.mem_cons]at h;rcases h with rfl|h
   ·refine aU r _ _ ?_;unfold eC;by_cases q:y.id∈out<;>simp[q,hk]
   ·exact ih h hk
theorem c361x{x:Ty}(hG:bP x)(hn:x.nodes.length≤90):∃c:Sc,(aC AP).p 361 [x.pv]=some [c.pv]∧lS c:=by
 obtain⟨r,k1,hr,hl3⟩:=c59x hG.ok (by omega);obtain⟨u,k2,T⟩:=c375x hG;obtain⟨ids,hi,_,hin,h⟩:=M4 (t:=x) hr _ 0 rfl (by omega) [] (by simp);have hl:=pQ (k:=1) (t:=u);have hun:=T.n;have k3:=c208 (t:=u) ⟨T.ok,T.kn.wf,u.fe 1,by omega,fun y hy=>cI (mI y hy),fun y hy=>hy⟩ (ids:=ids) (by unfold Sm at *;omega);have hv:=Pt (u:=u);obtain⟨c1,c2,_,c4⟩:=oL (ids:=ids) (vars [u]) [] (by simp)
 have hall:∀y∈u.nodes,y.kind=1→∃z,lp (cL ids (vars [u]) []) y.id=some z:=by
   intro y hy hk;refine c4 _ (xg (by simpa using hy) hk) ?_;obtain⟨z,hz,z3,z99,e⟩:=T.vr y hy hk;rw[e]
   refine hin z (by
     rw[List.drop_zero];refine hl3 z ?_;have hb:=(hG.kn.nodes z hz (by rw[z3];decide)).2;exact M3 z hz z3 hb) z99
 refine⟨pJ ids u (vars [u]),?_,⟨EU T.ok,?_,(cL ids (vars [u]) []).length,rfl,by simp at c2;omega,?_⟩⟩
 ·generalize pJ ids u (vars [u])=c at *;rw[g361L0e]at h;simp[tC,gz]at h;simp at k1 k2 k3;rw[ae (af:=g361) rfl rfl (by decide)];simp[g361,k1,k2,k3,g361L0e,h]
 ·refine EY (K:=KS) T.kn (by simp only[KS,KC];omega) ?_ (.inr hall);intro i z hz;obtain⟨a,ha,rfl⟩:=na hz;obtain⟨k,_,e⟩:=c1 a ha;rw[e];exact .bare rfl (by simp[cy]) (by simp[cy])
 · intro y hy hk;rcases JH y hy with⟨i,z,hz,hy⟩|⟨z,hz,e⟩
   ·obtain⟨a,ha,rfl⟩:=na hz;obtain⟨k,hk2,e⟩:=c1 a ha;rw[e,Ty.aM]at hy;simp[cy]at hy;subst hy;simp only;omega
   ·have:=(T.kn.nodes z hz (by rw[←e,hk];decide)).1;rw[←e,hk]at this;simp at this
def M5:List Ty:=[⟨3,[],0,99,[]⟩,⟨3,[],1,99,[]⟩]
theorem c349{L:List Int}{tm:Nat}{TP:Int→Sh}(hT:Tape L tm TP){ds:List Dt}{dep:Nat}{l:List En}{g:Ty}{i:Nat}(hL:Sm L)(hdep:dep<10)(hds:ds.length≤20)(hda:∀d∈ds,d.params.length≤8)(hdn:∀d∈ds,d.name.length≤100)(hG:ki L tm TP ds dep)(hl:Ctx (1000-20*(dep+1)) l)(hg:bP g)(hgn:g.nodes.length≤6000-20*(dep+1))(hi:i≤L.length) :
   nq L tm TP (12*(dep+2)) ((aC AP).i 349 [.aW tm 0,.pv (.au (ds.map Dt.pv)),.pv (.au (l.map En.pv)),.pv g.pv,.pv (vI (dep+1:Nat))] (TP i) []):=by
 have tn:=hT.norm;have tsh:=hT.shift;have tl:=hT.take;obtain⟨r,j1,e1,r0,r1,hj1⟩:=p9 hT hL hi (n:=2) (by omega) (by omega);obtain⟨s,j2,e2,hs,hj2⟩:=JE hT hL hj1;obtain⟨p,j3,e3,p0,p1,hj3⟩:=p9 hT hL hj2 (n:=2) (by omega) (by omega)
 have hlv:∀t∈(if p=0 then M5 else []),t.args=[]∧t.kind=3∧t.name=[]:=by
   intro t ht;split at ht
   ·simp[tn,tsh,tl,M5]at ht;rcases ht with rfl|rfl<;>exact⟨rfl,rfl,rfl⟩
   ·cases ht
 obtain⟨x,j4,e4,mx,hj4⟩:=R6 hT hL hds hda (lv:=if p=0 then M5 else []) (by unfold Sm;split<;>simp[tn,tsh,tl,M5]) 2 (by omega) j3 hj3;have gx:bP x:=lE hda hdn hlv mx;have hxn:=mx.small hda (fun t ht=>(hlv t ht).1);obtain⟨c,kc,sc⟩:=c361x gx (by omega);have hll:=hl.len;have k1:=c176 (t:=x);have k2:=c179 (l:=l) (by unfold Sm;omega) (n:=s) (c:=⟨0,x⟩);have hl':Ctx (1000-20*dep) l:=hl.gY (by omega)
 have hlx:Ctx (1000-20*dep) (if r=1 then l++[⟨s,⟨0,x⟩⟩] else l):=by
   split
   ·exact hl.push gx.mono (dB _ hs) (by omega)
   ·exact hl'
 obtain⟨a,f1,f2,f3,j5,e5,ha,hj5⟩:=hG j4 _ x hj4 hlx gx (by omega);obtain⟨b10,k3⟩:=c307 ha.sc.ok 10;obtain⟨b11,k4⟩:=c307 ha.sc.ok 11;have k5:=c34;have k6:=c176 (t:=a0)
 obtain⟨c',hc',QH⟩:∃c':Sc,c'=(if b10=true∨b11=true then ⟨0,a0⟩ else c)∧lS c':=by
   refine⟨_,rfl,?_⟩;split
   ·exact sU.mono
   ·exact sc
 have k7:=c179 (l:=l) (by unfold Sm;omega) (n:=s) (c:=c');obtain⟨b,f4,f5,f6,j6,e6,hb,hj6⟩:=hG j5 _ g hj5 (hl.push (s:=s) QH (dB _ hs) (by omega)) hg (by omega);have hA:=dR f1 f2 f3 a;generalize dZ f1 f2 f3 a=A at e5 hA;have hB:=dR f4 f5 f6 b;generalize dZ f4 f5 f6 b=B at e6 hB;have ac:=Ex.bm a;have bc:=Ex.bm b;have tA:A.take 11=A:=List.take_of_length_le (by rw[hA.len];omega);have hk:6+r≠8:=by omega
 refine⟨⟨6+r,0,s,0,[a,b],[],bq⟩,true,true,true,j6,?_,(fC hk (by simp) iT iV (by simpa using⟨ha,hb⟩) (.sq (by simp only;omega) (dB _ hs) rfl rfl ha.tx hb.tx)).up (by omega),hj6⟩;have h2:(dep:Int)+1-1=dep:=by omega
 have q1:=c71 (n:=99) (m:=0);have q2:=c71 (n:=99) (m:=1);have hr:r=0∨r=1:=by omega
 simp[tn,tsh,tl,Ty.av]at e1 e2 e3 e4 kc k1 k2 k3 k4 e5;rw[aE (af:=g349) rfl (by simp[tn,tsh,tl,g349])];rcases hr with rfl|rfl<;>by_cases hp:p=0<;>cases b10<;>cases b11<;>subst hc'<;>simp[tn,tsh,tl,a0]at k5 k6 k7 e6<;>simp[tn,tsh,tl,hp,M5]at e4 e5 q1 q2 <;>
 simp (disch:=omega) [tn,tsh,tl,g349,h2,e1,e2,e3,hp,e4,kc,k1,k2,k3,k4,k5,k6,k7,e5,e6,q1,q2,ah,hA.dd,hA.flat,hA.gH,hA.len,hA.leaf,hB.dd,hB.flat,hB.gH,hB.len,hB.leaf,tA,ac,bc,aF,dZ,gI,bq]
theorem JI{vs:List Int}{x:Ty}{v:Int}(h:v∈vs):lp (vs.map fun v=>As.mk v x) v=some x:=by
 induction vs with
 |nil=>simp at h
 |cons a r ih=>
   simp only[List.map_cons,lp];by_cases e:a=v
   ·simp[e]
   · simp only[List.mem_cons]at h;rcases h with h|h
     ·exact absurd h.symm e
     ·simp[e,ih h]
theorem vi{vs:List Int}{x y:Ty}{v:Int}(h:lp (vs.map fun v=>As.mk v x) v=some y):y=x:=by
 obtain⟨a,ha,rfl⟩:=na h;simp only[List.mem_map]at ha;obtain⟨w,_,rfl⟩:=ha;rfl
theorem Pu{s:List As}(hs:∀i x,lp s i=some x→x.nodes.length≤1)(t:Ty):(t.sub s).nodes.length≤t.nodes.length:=by
 refine Ty.dF (p:=fun t=>(t.sub s).nodes.length≤t.nodes.length) ?_ t;intro t ih;rw[Ty.sub_eq];split
 · cases e:lp s t.id with
   |some x=>
     have:=hs _ _ e;rw[Ty.aM t];simp only[Option.getD_some,List.length_cons];omega
   |none=>exact Nat.le_refl _
 · rw[Ty.aM,Ty.aM t];simp only[List.length_cons,List.length_flatMap,List.map_map]
   have:(t.args.map ((fun x=>x.nodes.length) ∘ Ty.sub s)).sum≤(t.args.map fun x=>x.nodes.length).sum:=by
     generalize t.args=l at ih;induction l with
     |nil=>simp
     |cons a r ih2=>
       have h1:=ih a (by simp);have h2:=ih2 fun x hx=>ih x (by simp[hx])
       simp only[List.map_cons,List.sum_cons,Function.comp_apply];omega
   omega
theorem c363x{t:Ty}(h:JA t):∃u:Ty,(aC AP).p 363 [t.pv]=some [u.pv]∧bP u∧u.nodes.length≤4000:=by
 have hl:=pQ (k:=1) (t:=t);have hn:=h.2;refine⟨_,c363 (S:=t.fe 1) (by omega) (fun x hx=>cI (mI x hx)) (t:=t) ⟨h.1.1,h.1.2.wf,fun x hx=>hx⟩,⟨?_,?_⟩,Nat.le_trans (Pu (fun i x hx=>by rw[vi hx,Ty.aM];simp[a0]) t) h.2⟩
 ·refine ES ?_ h.1.1;intro a ha;simp only[List.mem_map]at ha;obtain⟨w,_,rfl⟩:=ha;exact sU.ok
 · refine EY (K:=KS) h.1.2 (by simp only[KS,KG];omega) ?_ (.inr ?_)
   ·intro i x hx;rw[vi hx];exact sU.kn
   ·intro y hy hk;exact⟨a0,JI (xg (by simpa using hy) hk)⟩
def SY(h:Hd):List AV:=[.pv (.str h.name),.pv (.bool h.cZ),.pv (.au (h.args.map Ty.pv)),.pv (.au (h.types.map Ty.pv))]
def SZ(k:Int)(s:bt)(ks:List Ex):List AV:=[.pv (vI k),.pv (vI 0),.pv (.str s),.pv (vI 0),.own (ks.map Ex.pv) 3,.own [] 4,.pv (vI 0),.pv (.str []),.pv (vI 0),.pv (vI 0),.own [] 5]
theorem Vk{L:List Int}{tm:Nat}{TP:Int→Sh}(hT:Tape L tm TP){ds:List Dt}{dep:Nat}{l:List En}(hdep:dep<10)(hG:ki L tm TP ds dep)(hl:Ctx (1000-20*dep) l){h:Hd}(hh:vf h):∀(n i:Nat),h.args.length-i=n→i≤h.args.length→∀(k:Int) (s:bt) (ks:List Ex) (I N:Nat),xd N ⟨k,0,s,0,ks,[],bq⟩→12*(dep+1)≤N→N+n≤12*(dep+1)+11→I≤L.length→∃(k':Int) (s':bt) (ks':List Ex) (J:Nat),xd (N+n) ⟨k',0,s',0,ks',[],bq⟩∧J≤L.length ∧
   cl AP g352L0 ⟨[(0,.aW tm 0),(1,.pv (.au (ds.map Dt.pv))),(2,.pv (.au (l.map En.pv))),(4,.pv (vI (dep+1))),(10,.az 10 0),(12,.az 12 0),(13,.az 13 0),(14,.pv (vI i))],[(10,pP 0),(12,SY h),(13,SZ k s ks)],TP I,[0,0,0,ks.length,0,0]⟩ =
     some (.exit 0,⟨[(0,.aW tm 0),(1,.pv (.au (ds.map Dt.pv))),(2,.pv (.au (l.map En.pv))),(4,.pv (vI (dep+1))),(10,.az 10 0),(12,.az 12 0),(13,.az 13 0),(14,.pv (vI h.args.length)),(45,.pv (.bool false))],[(10,pP 0),(12,SY h),(13,SZ k' s' ks')],TP J,[0,0,0,ks'.length,0,0]⟩)
 |0,i,hn,hi,k,s,ks,I,N,hY,hN,hN2,hI=>by
   have tn:=hT.norm;have tsh:=hT.shift;have tl:=hT.take;have:i=h.args.length:=(by omega);subst this;refine⟨k,s,ks,I,hY,hI,?_⟩;rw[g352L0e];simp[tn,tsh,tl,g352B0,pP,SY,SZ]
 |n+1,i,hn,hi,k,s,ks,I,N,hY,hN,hN2,hI=>by
   have tn:=hT.norm;have tsh:=hT.shift;have tl:=hT.take;have hi:i<h.args.length:=(by omega);obtain⟨t,ht⟩:=aV hi;obtain⟨u,k1,gu,gn⟩:=c363x (hh.2.1 t (aR ht));obtain⟨y,f1,f2,f3,j,k2,hy,hj⟩:=hG I l u hI hl gu (by omega)
   have hY2:xd (N+1) ⟨5,0,[],0,[⟨k,0,s,0,ks,[],bq⟩,y],[],bq⟩:=by
     obtain⟨r,rfl⟩:∃r,N=12*(dep+1)+r:=⟨N-12*(dep+1),by omega⟩;exact Pq (by omega) hY hy
   obtain⟨k',s',ks',J,q1,q2,e'⟩:=Vk hT hdep hG hl hh n (i+1) (by omega) (by omega) 5 [] [⟨k,0,s,0,ks,[],bq⟩,y] j (N+1) hY2 (by omega) (by omega) hj;refine⟨k',s',ks',J,q1.up (by omega),q2,?_⟩;have hA:=dR f1 f2 f3 y;generalize dZ f1 f2 f3 y=A at k2 hA;have ac:=Ex.bm y;have tA:A.take 11=A:=List.take_of_length_le (by rw[hA.len];omega);have h2:(dep:Int)+1-1=dep:=by omega
   have ha:=hh.1;rw[g352L0e]at e' ⊢;simp[tn,tsh,tl,pP,SY,SZ,bq]at e'
   try simp[tn,tsh,tl]at k1 k2
   simp (disch:=omega) [tn,tsh,tl,-getElem?_pos,g352B0,pP,SY,SZ,ht,hi,h2,k1,k2,ah,hA.dd,hA.flat,hA.gH,hA.len,hA.leaf,tA,ac,aF];rw[g352L0e];simp[tn,tsh,tl,e']
theorem c352{L:List Int}{tm:Nat}{TP:Int→Sh}(hT:Tape L tm TP){ds:List Dt}{dep:Nat}{l:List En}{g:Ty}{i:Nat}(hL:Sm L)(hdep:dep<10)(hD:rW ds)(hG:ki L tm TP ds dep)(hl:Ctx (1000-20*(dep+1)) l)(hg:bP g)(hi:i≤L.length) :
   nq L tm TP (12*(dep+2)) ((aC AP).i 352 [.aW tm 0,.pv (.au (ds.map Dt.pv)),.pv (.au (l.map En.pv)),.pv g.pv,.pv (vI (dep+1:Nat))] (TP i) []):=by
 have tn:=hT.norm;have tsh:=hT.shift;have tl:=hT.take;have hll:=hl.len;obtain⟨hs,n1,hO,k1⟩:=c362 hg hD (l:=l) (by omega) hl.Vh hl.nm;by_cases z:hs=[]
 · subst z;obtain⟨e,f1,f2,f3,j,k,ht,hj⟩:=c348 hT hL (ds:=ds) (hl.gY (by omega)) hg hi;refine⟨e,f1,f2,f3,j,?_,ht.up (by omega),hj⟩
   try simp[tn,tsh,tl]at k1
   rw[aE (af:=g352) rfl (by simp[tn,tsh,tl,g352])];cases f1<;>cases f2<;>cases f3<;>simp[tn,tsh,tl,dZ,gI]at k<;>simp[tn,tsh,tl,g352,k1,k,dZ,gI,aF]
 · have hp:0<hs.length:=List.length_pos_iff.2 z;obtain⟨m,j,e1,m0,m1,hj⟩:=p9 hT hL hi (n:=hs.length) (by omega) (by omega);obtain⟨m,rfl,hm⟩:=pF m0 m1;obtain⟨h,hx⟩:=aV hm;have hhO:=hO h (aR hx);have ha:=hhO.1;obtain⟨k',s',ks',J,q1,q2,e2⟩:=Vk hT (L:=L) (l:=l) hdep hG (hl.gY (by omega)) hhO _ 0 rfl (by omega) (if h.cZ=true then 2 else 1) h.name [] j (12*(dep+1)) ((ev (.inl ⟨by split<;>simp,hhO.2.2⟩)).up (by omega)) (by omega) (by omega) hj;refine⟨⟨k',0,s',0,ks',[],bq⟩,false,false,false,J,?_,q1.up (by omega),q2⟩;rw[g352L0e]at e2
   try simp[tn,tsh,tl]at k1 e1
   rw[aE (af:=g352) rfl (by simp[tn,tsh,tl,g352])];cases hc:h.cZ<;>simp[tn,tsh,tl,pP,SY,SZ,hc]at e2<;>simp[tn,tsh,tl,-getElem?_pos,g352,k1,z,e1,hx,hc,g352L0e,e2,dZ,gI,bq,aF]
theorem Pv:∀d∈bz,d.params.length≤100∧∀c∈d.cons,∀f∈c.fields,Pm ⟨d.params.length,f.mJ d.params⟩=true:=by decide +kernel
theorem B8{K:Nat}{t:Ty}(h:lS ⟨K,t⟩){as:List Ty}(ha:as.length=K)(hg:∀a∈as,bP a):bP (t.nh as):=by
 obtain⟨K',h1,_,h3⟩:=h.Vd;have:K'=K:=by simp at h1;omega
 subst this;exact⟨Mq (fun a h=>(hg a h).ok) h.ok,Mr h.kn (by simp only[KC,KG];omega) (fun a h=>(hg a h).kn) (fun y hy hk=>by have:=h3 y hy hk;omega)⟩
theorem B9{ds:List Dt}(hD:rW ds){s:bt}{as:List Ty}(hg:∀a∈as,bP a):((fieldsOf ds s as).getD []).length≤8∧∀f∈(fieldsOf ds s as).getD [],bP f:=by
 cases e:fieldsOf ds s as with
 |none=>simp
 |some fs=>
   simp only[fieldsOf,Option.bind_eq_some_iff]at e;obtain⟨q,_,d,hd,c,hc,e⟩:=e;split at e
   ·rename_i hl;cases e;have dA:=hD.all d (aR hd);obtain⟨_,_,h8⟩:=dW d dA;obtain⟨hb,hb2⟩:=Pv d dA;refine⟨by simpa using (h8 c (aR hc)).1,?_⟩;intro f hf;simp only[Option.getD_some,List.mem_map]at hf;obtain⟨x,hx,rfl⟩:=hf;exact B8 (Gj rfl hb (hb2 c (aR hc) x hx)) hl hg
   ·cases e
theorem rW.small{ds:List Dt}(h:rW ds):Small ds where
 num:=by have:=h.len;unfold Sm;omega
 cZ:=fun d hd=>by have:=(dW d (h.all d hd)).2.1;unfold Sm;omega
 Xw:=by have:=h.len;have:=O' (b:=8) fun d hd=>(dW d (h.all d hd)).2.1;unfold Sm;omega
 par:=fun d hd=>by have:=(dW d (h.all d hd)).1;unfold Sm;omega
 Xg:=fun d hd c hc=>by
   obtain⟨a,b,c2⟩:=Gk (h.all d hd) c hc;exact⟨a,b,fun x hx=>(c2 x hx).cw⟩
theorem QI{L:List Int}{tm:Nat}{TP:Int→Sh}(hT:Tape L tm TP)(hL:Sm L){ds:List Dt}(hds:ds.length≤20)(hda:∀d∈ds,d.params.length≤8)(hdn:∀d∈ds,d.name.length≤100){p2:PV}{p4:PV}{g:Ty}{d:Dt}(hd8:d.params.length≤8):∀(n k:Nat),d.params.length-k=n→k≤d.params.length→∀(acc:List Ty) (i:Nat),acc.length=k→(∀x∈acc,bP x∧x.nodes.length≤9)→i≤L.length →
   ∃(r:List Ty) (j:Nat),r.length=d.params.length∧(∀x∈r,bP x∧x.nodes.length≤9)∧j≤L.length ∧
   cl AP g350L0 ⟨[(0,.aW tm 0),(1,.pv (.au (ds.map Dt.pv))),(2,.pv p2),(4,.pv p4),(8,.az 8 0),(10,.az 10 0),(11,.az 11 0),(12,.own (acc.map Ty.pv) 0),(13,.pv (vI k))],[(8,tC g),(10,pP 1),(11,sO d)],TP i,[acc.length,0,0,0]⟩ =
     some (.exit 0,⟨[(0,.aW tm 0),(1,.pv (.au (ds.map Dt.pv))),(2,.pv p2),(4,.pv p4),(8,.az 8 0),(10,.az 10 0),(11,.az 11 0),(12,.own (r.map Ty.pv) 0),(13,.pv (vI d.params.length)),(41,.pv (.bool false))],[(8,tC g),(10,pP 1),(11,sO d)],TP j,[r.length,0,0,0]⟩)
 |0,k,hn,hk,acc,i,ha,hm,hi=>by
   have tn:=hT.norm;have tsh:=hT.shift;have tl:=hT.take;have:k=d.params.length:=(by omega);subst this;refine⟨acc,i,ha,hm,hi,?_⟩;rw[g350L0e];simp[tn,tsh,tl,g350B0,tC,pP,sO]
 |n+1,k,hn,hk,acc,i,ha,hm,hi=>by
   have tn:=hT.norm;have tsh:=hT.shift;have tl:=hT.take;have hk:k<d.params.length:=(by omega);obtain⟨t,j1,e1,mt,hj1⟩:=R6 hT hL hds hda (lv:=[]) (by simp[tn,tsh,tl,Sm]) 1 (by omega) i hi;have gt:bP t:=lE hda hdn (by simp) mt;have gn:=mt.small hda (by simp)
   obtain⟨r,j,h1,h2,h3,e'⟩:=QI hT hL hds hda hdn (p2:=p2) (p4:=p4) (g:=g) hd8 n (k+1) (by omega) (by omega) (acc++[t]) j1 (by simp;omega) (by
     intro x hx;simp at hx;rcases hx with hx|rfl
     ·exact hm x hx
     ·exact⟨gt,by omega⟩) hj1
   refine⟨r,j,h1,h2,h3,?_⟩;have hb:(acc.length+1)*64≤140737488355328:=by omega
   rw[g350L0e]at e' ⊢;simp[tn,tsh,tl,tC,pP,sO]at e';simp[tn,tsh,tl,Ty.av]at e1;simp (disch:=omega) [tn,tsh,tl,-getElem?_pos,g350B0,tC,pP,sO,hk,e1,hb,ah];rw[g350L0e];simp[tn,tsh,tl,e']
def NJ(x:Ex)(as:List Ar):List AV:=[.pv (vI 8),.pv (vI 0),.pv (.str []),.pv (vI 0),.own [x.pv] 4,.own (as.map Ar.pv) 5,.pv (vI 0),.pv (.str []),.pv (vI 0),.pv (vI 0),.own [] 6]
def S4(c:cR)(vs:List bt):List AV:=[.pv (vI 0),.pv (.str c.name),.own (vs.map .str) 7,.pv (vI 0),.pv (vI 0),.pv (.str []),.pv (vI 0),.own [] 8,.own [] 9,.pv (vI 0),.pv (.str []),.pv (vI 0),.pv (vI 0),.own [] 10]
def Vl:List bt:=[[120],[121],[122],[119]]
theorem Gm:∀s∈Vl,s.length≤100:=by
 intro s hs;simp only[Vl,List.mem_cons,List.not_mem_nil,or_false]at hs;rcases hs with rfl|rfl|rfl|rfl<;>simp
theorem QJ{L:List Int}{tm:Nat}{TP:Int→Sh}(hT:Tape L tm TP){I:Nat}{p1 p2 p4:PV}{g:Ty}{d:Dt}{as:List Ty}{x:Ex}{ar:List Ar}{C:Nat}{c:cR}{f:List Ty}(hf8:f.length≤8)(hf:∀t∈f,bP t){N:Nat}(hN:N≤10000):∀(n k:Nat),f.length-k=n→k≤f.length→∀(vs:List bt) (l:List En),vs.length=k→(∀v∈vs,v.length≤100)→Ctx (N+k) l →
   ∃(r:List bt) (l':List En),r.length=f.length∧(∀v∈r,v.length≤100)∧Ctx (N+f.length) l' ∧
   cl AP g350L2 ⟨[(0,.aW tm 0),(1,.pv p1),(2,.pv p2),(4,.pv p4),(8,.az 8 0),(10,.az 10 0),(11,.az 11 0),(12,.own (as.map Ty.pv) 0),(14,.az 14 0),(15,.pv (vI C)),(16,.pv (.au (f.map Ty.pv))),(18,.az 18 0),(19,.pv (.au (l.map En.pv))),(20,.pv (vI k))],
     [(8,tC g),(10,pP 1),(11,sO d),(14,NJ x ar),(18,S4 c vs)],TP I,[as.length,0,0,0,1,ar.length,0,vs.length,0,0,0]⟩ =
     some (.exit 4,⟨[(0,.aW tm 0),(1,.pv p1),(2,.pv p2),(4,.pv p4),(8,.az 8 0),(10,.az 10 0),(11,.az 11 0),(12,.own (as.map Ty.pv) 0),(14,.az 14 0),(15,.pv (vI C)),(16,.pv (.au (f.map Ty.pv))),(18,.az 18 0),(19,.pv (.au (l'.map En.pv))),(20,.pv (vI f.length)),(92,.pv (.bool false))],
     [(8,tC g),(10,pP 1),(11,sO d),(14,NJ x ar),(18,S4 c r)],TP I,[as.length,0,0,0,1,ar.length,0,r.length,0,0,0]⟩)
 |0,k,hn,hk,vs,l,hv,hvn,hl=>by
   have tn:=hT.norm;have tsh:=hT.shift;have tl:=hT.take;have:k=f.length:=(by omega);subst this;refine⟨vs,l,hv,hvn,hl,?_⟩;rw[g350L2e];simp[tn,tsh,tl,g350B2,tC,pP,sO,NJ,S4]
 |n+1,k,hn,hk,vs,l,hv,hvn,hl=>by
   have tn:=hT.norm;have tsh:=hT.shift;have tl:=hT.take;have hk:k<f.length:=(by omega);obtain⟨t,ht⟩:=aV hk;have hll:=hl.len;obtain⟨q,hrem,hq⟩:∃q:Nat,(k:Int).tmod 4=q∧q<4:=⟨((k:Int) % 4).toNat,by rw[Int.tmod_eq_emod_of_nonneg (by omega)];omega,by omega⟩;obtain⟨s,hs⟩:=aV (l:=Vl) (i:=q) (by simpa[Vl] using hq);have k1:=c176 (t:=t);have k2:=c179 (l:=l) (by unfold Sm;omega) (n:=s) (c:=⟨0,t⟩)
   obtain⟨r,l',h1,h1n,h2,e'⟩:=QJ hT (L:=L) (I:=I) (p1:=p1) (p2:=p2) (p4:=p4) (g:=g) (d:=d) (as:=as) (x:=x) (ar:=ar) (C:=C) (c:=c) hf8 hf hN n (k+1) (by omega) (by omega) (vs++[s]) (l++[⟨s,⟨0,t⟩⟩]) (by simp;omega) (by
     intro v hv;simp only[List.mem_append,List.mem_singleton]at hv;rcases hv with hv|rfl
     ·exact hvn v hv
     ·exact Gm _ (aR hs)) (hl.push (hf t (aR ht)).mono (Gm _ (aR hs)) (by omega))
   refine⟨r,l',h1,h1n,h2,?_⟩;have hb:(vs.length+1)*16≤140737488355328:=by omega
   have hs':([PV.str [120],.str [121],.str [122],.str [119]]:List PV)[q]?=some (.str s):=by
     have:([PV.str [120],.str [121],.str [122],.str [119]]:List PV)=Vl.map PV.str:=rfl;rw[this];simp[tn,tsh,tl,hs]
   rw[g350L2e]at e' ⊢;simp[tn,tsh,tl,tC,pP,sO,NJ,S4]at e'
   try simp[tn,tsh,tl]at k1 k2
   simp (disch:=omega) [tn,tsh,tl,-getElem?_pos,g350B2,tC,pP,sO,NJ,S4,hk,ht,hrem,hs',k1,k2,hb,ah,aF];rw[g350L2e];simp[tn,tsh,tl,e']
def Sa(n:Nat)(a:Ar):Prop:=(a.cZ.length≤100∧a.vars.length≤10∧∀v∈a.vars,v.length≤100)∧xd n a.body
theorem B_{n:Nat}{x:Ex}{as:List Ar}(hx:xd (12*n) x)(ha:as.length≤9)(h:∀a∈as,Sa (12*n) a):xd (12*(n+1)) ⟨8,0,[],0,[x],as,bq⟩:=by
 have hc:∀y∈(⟨8,0,[],0,[x],as,bq⟩:Ex).ch,xd (12*n) y:=by
   intro y hy;simp[Ex.ch]at hy;rcases hy with rfl|⟨a,ha,rfl⟩
   ·exact hx
   ·exact (h a ha).2
 refine⟨⟨.mk (by simp) (by simp only;omega) (fun a hm=>by have:=(h a hm).1.2.1;omega) iT fun y hy=>(hc y hy).sc.ok,.mk (fun _=>rfl) fun y hy=>(hc y hy).sc.one,.mk iV fun y hy=>(hc y hy).sc.cw⟩,iU (n:=12*n+1) (.mk fun y hy=>(hc y hy).h) (by omega),?_,.mD rfl rfl hx.tx (by simp only;omega) (fun a hm=>(h a hm).1) (fun a hm=>(h a hm).2.tx)⟩;rw[wT,Ex.kF];exact B7 (by rw[Ex.dQ];simp only[List.length_singleton];omega) fun y hy=>by have:=(hc y hy).w;rwa [wT]at this
theorem QK{L:List Int}{tm:Nat}{TP:Int→Sh}(hT:Tape L tm TP){ds:List Dt}{dep:Nat}{l:List En}{g:Ty}(hdep:dep<10)(hD:rW ds)(hG:ki L tm TP ds dep)(hl:Ctx (1000-20*(dep+1)) l)(hg:bP g)(hgn:g.nodes.length≤6000-20*(dep+1)){d:Dt}(hdm:d∈ds){as:List Ty}(has:as.length≤8)(hga:∀a∈as,bP a){x:Ex}:∀(n k:Nat),d.cons.length-k=n→k≤d.cons.length→∀(ar:List Ar) (i:Nat),ar.length=k→(∀a∈ar,Sa (12*(dep+1)) a)→i≤L.length →
   ∃(r:List Ar) (j:Nat),r.length=d.cons.length∧(∀a∈r,Sa (12*(dep+1)) a)∧j≤L.length ∧
   cl AP g350L1 ⟨[(0,.aW tm 0),(1,.pv (.au (ds.map Dt.pv))),(2,.pv (.au (l.map En.pv))),(4,.pv (vI (dep+1))),(8,.az 8 0),(10,.az 10 0),(11,.az 11 0),(12,.own (as.map Ty.pv) 0),(14,.az 14 0),(15,.pv (vI k))],
     [(8,tC g),(10,pP 1),(11,sO d),(14,NJ x ar)],TP i,[as.length,0,0,0,1,ar.length,0]⟩ =
     some (.exit 2,⟨[(0,.aW tm 0),(1,.pv (.au (ds.map Dt.pv))),(2,.pv (.au (l.map En.pv))),(4,.pv (vI (dep+1))),(8,.az 8 0),(10,.az 10 0),(11,.az 11 0),(12,.own (as.map Ty.pv) 0),(14,.az 14 0),(15,.pv (vI d.cons.length)),(66,.pv (.bool false))],
     [(8,tC g),(10,pP 1),(11,sO d),(14,NJ x r)],TP j,[as.length,0,0,0,1,r.length,0]⟩)
 |0,k,hn,hk,ar,i,ha,hm,hi=>by
   have tn:=hT.norm;have tsh:=hT.shift;have tl:=hT.take;have:k=d.cons.length:=(by omega);subst this;refine⟨ar,i,ha,hm,hi,?_⟩;rw[g350L1e];simp[tn,tsh,tl,g350B1,tC,pP,sO,NJ]
 |n+1,k,hn,hk,ar,i,ha,hm,hi=>by
   have tn:=hT.norm;have tsh:=hT.shift;have tl:=hT.take;have hk:k<d.cons.length:=(by omega);obtain⟨c,hc⟩:=aV hk;have hc8:=(dW d (hD.all d hdm)).2.1;have k1:=c207 hD.small (as:=as) (by unfold Sm;omega) (s:=c.name);obtain⟨hf8,hf⟩:=B9 hD (s:=c.name) hga;generalize hff:fieldsOf ds c.name as=F at *;generalize hfe:F.getD []=f at *;obtain⟨vs,l',hv,hvn,hl',e1⟩:=QJ hT (L:=L) (I:=i) (p1:=.au (ds.map Dt.pv)) (p2:=.au (l.map En.pv)) (p4:=vI (dep+1)) (g:=g) (d:=d) (as:=as) (x:=x) (ar:=ar) (C:=k) (c:=c) hf8 hf (N:=1000-20*(dep+1)) (by omega) _ 0 rfl (by omega) [] l rfl (by simp) (hl.gY (by omega));obtain⟨b,f1,f2,f3,j2,e2,hb,hj2⟩:=hG i l' g hi (hl'.gY (by omega)) hg (by omega)
   obtain⟨r,j,q1,q2,q3,e'⟩:=QK hT hdep hD hG hl hg hgn hdm has hga (x:=x) n (k+1) (by omega) (by omega) (ar++[⟨0,c.name,vs,b⟩]) j2 (by simp;omega) (by
     intro a h;simp at h;rcases h with h|rfl
     ·exact hm a h
     ·exact⟨⟨(iS d (hD.all d hdm)).2 c (aR hc),by simp only;omega,hvn⟩,hb⟩) hj2
   refine⟨r,j,q1,q2,q3,?_⟩;have hB:=dR f1 f2 f3 b;generalize dZ f1 f2 f3 b=B at e2 hB;have bc:=Ex.bm b;have tB:B.take 11=B:=List.take_of_length_le (by rw[hB.len];omega);have hbb:(ar.length+1)*200≤140737488355328:=by omega
   have hd1:(dep:Int)+1-1=dep:=(by omega);rw[g350L2e]at e1;rw[g350L1e]at e';simp[tn,tsh,tl,tC,pP,sO,NJ,S4]at e1 e' e2⊢;simp[tn,tsh,tl,U4,hfe]at k1;rw[g350L1e];simp (disch:=omega) [tn,tsh,tl,-getElem?_pos,g350B1,hc,hk,k1,ah,hd1,g350L2e,e1,e2,hbb,aF,hB.dd,hB.flat,hB.gH,hB.len,hB.leaf,tB,bc];rw[g350L1e];simp[tn,tsh,tl,e']
theorem c350{L:List Int}{tm:Nat}{TP:Int→Sh}(hT:Tape L tm TP){ds:List Dt}{dep:Nat}{l:List En}{g:Ty}{i:Nat}(hL:Sm L)(hdep:dep<10)(hD:rW ds)(hG:ki L tm TP ds dep)(hl:Ctx (1000-20*(dep+1)) l)(hg:bP g)(hgn:g.nodes.length≤6000-20*(dep+1))(hi:i≤L.length) :
   nq L tm TP (12*(dep+2)) ((aC AP).i 350 [.aW tm 0,.pv (.au (ds.map Dt.pv)),.pv (.au (l.map En.pv)),.pv g.pv,.pv (vI (dep+1:Nat))] (TP i) []):=by
 have tn:=hT.norm;have tsh:=hT.shift;have tl:=hT.take;have hll:=hl.len;by_cases z:ds=[]
 ·subst z;obtain⟨e,f1,f2,f3,j,k,ht,hj⟩:=c348 hT hL (ds:=[]) (hl.gY (by omega)) hg hi;refine⟨e,f1,f2,f3,j,?_,ht.up (by omega),hj⟩;rw[aE (af:=g350) rfl (by simp[tn,tsh,tl,g350])];cases f1<;>cases f2<;>cases f3<;>simp[tn,tsh,tl,dZ,gI]at k<;>simp[tn,tsh,tl,g350,k,dZ,gI,aF]
 · have hp:0<ds.length:=List.length_pos_iff.2 z;have hdl:=hD.len;have hda:∀d∈ds,d.params.length≤8:=fun d hd=>(dW d (hD.all d hd)).1
   obtain⟨m,j1,e1,m0,m1,hj1⟩:=p9 hT hL hi (n:=ds.length) (by omega) (by omega);obtain⟨m,rfl,hm⟩:=pF m0 m1;obtain⟨d,hd⟩:=aV hm;have hdm:=aR hd;obtain⟨as,j2,a1,a2,hj2,e2⟩:=QI hT hL (by omega) hda (fun d hd=>(iS d (hD.all d hd)).1) (p2:=.au (l.map En.pv)) (p4:=vI (dep+1)) (g:=g) (hda d hdm) _ 0 rfl (by omega) [] j1 rfl (by simp) hj1;have hd8:=hda d hdm;have hd10:=(dW d (hD.all d hdm)).2.1;have k1:=c62 (s:=d.name) (l:=as) (by unfold Sm;omega);have gt:bP ⟨4,d.name,0,0,as⟩:=⟨⟨by unfold Sm;simp only;omega,fun x hx=>(a2 x hx).1.ok⟩,.mk (by simp) (iS d (hD.all d hdm)).1 fun x hx=>(a2 x hx).1.kn⟩
   have gtn:(⟨4,d.name,0,0,as⟩:Ty).nodes.length≤100:=by
     rw[Ty.aM];simp only[List.length_cons,List.length_flatMap];have:=uQ (f:=fun x:Ty=>x.nodes.length) fun x hx=>(a2 x hx).2
     omega
   obtain⟨x,f1,f2,f3,j3,e3,hx,hj3⟩:=hG j2 l _ hj2 (hl.gY (by omega)) gt (by omega);obtain⟨r,j4,b1,b2,hj4,e4⟩:=QK hT hdep hD hG hl hg hgn hdm (by omega) (fun a ha=>(a2 a ha).1) (x:=x) _ 0 rfl (by omega) [] j3 rfl (by simp) hj3;refine⟨⟨8,0,[],0,[x],r,bq⟩,false,false,false,j4,?_,(B_ hx (by omega) b2).up (by omega),hj4⟩;have hA:=dR f1 f2 f3 x;generalize dZ f1 f2 f3 x=A at e3 hA;have ac:=Ex.bm x;have hd1:(dep:Int)+1-1=dep:=by omega
   rw[g350L0e]at e2;rw[g350L1e]at e4;simp[tn,tsh,tl,tC,pP,sO,NJ]at e1 e2 e3 e4 k1;rw[aE (af:=g350) rfl (by simp[tn,tsh,tl,g350])];simp (disch:=omega) [tn,tsh,tl,-getElem?_pos,g350,z,hd1,ah,e1,hd,g350L0e,e2,k1,e3,hA.dd,hA.flat,hA.gH,hA.len,hA.leaf,ac,g350L1e,e4,aF,dZ,gI,bq]
theorem c326{L:List Int}{tm:Nat}{TP:Int→Sh}(hT:Tape L tm TP){ds:List Dt}(hL:Sm L)(hD:rW ds):∀dep:Nat,dep≤10→ki L tm TP ds dep
 |0,_=>fun i l g hi hl hg _=>MZ hT hL (hl.gY (by omega)) hg hi
 |dep+1,hdep=>fun i l g hi hl hg hgn=>by
   have tn:=hT.norm;have tsh:=hT.shift;have tl:=hT.take;have hG:=c326 hT hL hD dep (by omega);have hdl:=hD.len;have hda:∀d∈ds,d.params.length≤8:=fun d hd=>(dW d (hD.all d hd)).1
   have hdn:∀d∈ds,d.name.length≤100:=fun d hd=>(iS d (hD.all d hd)).1;obtain⟨r9,j9,e9,r0,r1,hj9⟩:=p9 hT hL hi (n:=9) (by omega) (by omega);by_cases nz:r9=0
   ·subst nz;exact Pr hT hL (by omega) (hl.gY (by omega)) hg hj9 e9
   · obtain⟨a,b,ar,arr,_,_,hab⟩:=c194g hg.ok;obtain⟨k,j,vh,k0,k1,hj⟩:=p9 hT hL hj9 (n:=10) (by omega) (by omega);have P:M0 L tm TP g i a b ar k r9 j9 j:=⟨nz,e9,arr,vh,hj⟩;have h1:¬((dep:Int)+1<1):=by omega
     have headed:(ar=true→7≤k)→(ar=false→¬k<2∧k≠2∧k≠3∧k≠5∧(k=4→¬(g.kh 3=false∧g.kh 1=false)))→vg L tm TP ds (dep+1) l g i:=by
       intro H1 H2;obtain⟨e,f1,f2,f3,j',kk,ht,hj'⟩:=c352 hT hL (by omega) hD hG hl hg hj;refine⟨e,f1,f2,f3,j',?_,ht,hj'⟩;have c3:=c351 (k:=3) hg.ok;have c1:=c351 (k:=1) hg.ok
       try simp[tn,tsh,tl]at e9 arr vh c3 c1
       rw[aE (af:=g326) rfl (by simp[tn,tsh,tl,g326])];cases ar with
       |true=>
         have q:=H1 rfl;have q7:¬k<7:=(by omega);have q2:¬k<2:=(by omega);have q3:¬k=2:=(by omega);have q4:¬k=3:=(by omega);have q5:¬k=4:=(by omega);have q6:¬k=5:=(by omega);cases f1<;>cases f2<;>cases f3<;>simp[tn,tsh,tl,dZ,gI]at kk<;>simp[tn,tsh,tl,g326,h1,nz,e9,arr,vh,q7,q2,q3,q4,q5,q6,kk,dZ,gI,aF]
       |false=>
         obtain⟨q2,q3,q4,q6,q5⟩:=H2 rfl;by_cases h4:k=4
         · have:=q5 h4;subst h4;cases g3:g.kh 3 with
           |true=>
             rw[g3]at c3;cases f1<;>cases f2<;>cases f3<;>simp[tn,tsh,tl,dZ,gI]at kk<;>simp[tn,tsh,tl,g326,h1,nz,e9,arr,vh,c3,kk,dZ,gI,aF]
           |false=>
             rw[g3]at c3
             have g1:g.kh 1=true:=by
               cases g1:g.kh 1 with
               |true=>rfl
               |false=>exact absurd ⟨g3,g1⟩ this
             rw[g1]at c1;cases f1<;>cases f2<;>cases f3<;>simp[tn,tsh,tl,dZ,gI]at kk<;>simp[tn,tsh,tl,g326,h1,nz,e9,arr,vh,c3,c1,kk,dZ,gI,aF]
         ·cases f1<;>cases f2<;>cases f3<;>simp[tn,tsh,tl,dZ,gI]at kk<;>simp[tn,tsh,tl,g326,h1,nz,e9,arr,vh,q2,q3,q4,h4,q6,kk,dZ,gI,aF]
     cases ar with
     |true=>
       have hq:=hab rfl;by_cases h7:k<7
       · exact R9 hT hL (by omega) hG hl P h7 (hg.gw a (by rw[hq];simp)) (hg.gw b (by rw[hq];simp)) (by
           have:=ly (f:=fun x:Ty=>x.nodes.length) (l:=g.args) (x:=b) (by rw[hq];simp);rw[Ty.aM]at hgn;simp only[List.length_cons,List.length_flatMap]at hgn;omega)
       ·exact headed (fun _=>by omega) (by simp)
     |false=>
       by_cases h2:k<2
       ·exact R_ hT hL (by omega) (by omega) hda hdn hG hl hg hgn P h2
       · by_cases h3:k=2
         · subst h3;obtain⟨e,f1,f2,f3,j',kk,ht,hj'⟩:=c349 hT hL (by omega) (by omega) hda hdn hG hl hg hgn hj;refine⟨e,f1,f2,f3,j',?_,ht,hj'⟩
           try simp[tn,tsh,tl]at e9 arr vh
           rw[aE (af:=g326) rfl (by simp[tn,tsh,tl,g326])];cases f1<;>cases f2<;>cases f3<;>simp[tn,tsh,tl,dZ,gI]at kk<;>simp[tn,tsh,tl,g326,h1,nz,e9,arr,vh,kk,dZ,gI,aF]
         · by_cases h4:k=3
           · subst h4;obtain⟨e,f1,f2,f3,j',kk,ht,hj'⟩:=c350 hT hL (by omega) hD hG hl hg hgn hj;refine⟨e,f1,f2,f3,j',?_,ht,hj'⟩
             try simp[tn,tsh,tl]at e9 arr vh
             rw[aE (af:=g326) rfl (by simp[tn,tsh,tl,g326])];cases f1<;>cases f2<;>cases f3<;>simp[tn,tsh,tl,dZ,gI]at kk<;>simp[tn,tsh,tl,g326,h1,nz,e9,arr,vh,kk,dZ,gI,aF]
           · by_cases h5:k=5
             ·subst h5;exact Ps hT hL (by omega) hG hl hg hgn P
             · by_cases h6:k=4∧g.kh 3=false∧g.kh 1=false
               ·obtain⟨rfl,q1,q2⟩:=h6;exact R' hT hL (by omega) hG hl hg hgn P q1 q2
               ·exact headed (by simp) (fun _=>⟨h2,h3,h4,h5,fun q=>fun w=>h6 ⟨q,w⟩⟩)
theorem Pw{s:List bt}{y:bt}(h:y∈s):0≤pK s y∧pK s y<s.length:=by
 unfold pK;cases e:bM (fun x=>decide (x=y)) s with
 |none=>have:=ji.1 e y h;simp at this
 |some k=>
   have:k<s.length:=by
     clear h;induction s generalizing k with
     |nil=>simp[bM]at e
     |cons a r ih=>
       simp only[bM]at e;split at e
       ·cases e;simp
       ·simp only[Option.map_eq_some_iff]at e;obtain⟨j,hj,rfl⟩:=e;have:=ih j hj;simp;omega
   simp[kb];omega
theorem B':∀{l out:List bt} {y:bt},y∈l→y∈l.foldl eZ out
 |a::r,out,y,h=>by
   rw[List.foldl_cons];simp only[List.mem_cons]at h;rcases h with rfl|h
   · refine wY ?_;unfold eZ;split
     ·assumption
     ·simp
   ·exact B' h
theorem xh:∀{l out:List bt},(l.foldl eZ out).length≤out.length+l.length
 |[],out=>by simp
 |a::r,out=>by
   have h:=xh (l:=r) (out:=eZ out a);have:(eZ out a).length≤out.length+1:=by unfold eZ;split<;>simp
   simp only[List.foldl_cons,List.length_cons];omega
theorem Fk{t:Ty}:t.gp.length≤t.nodes.length∧∀z∈t.nodes,z.kind=5→z.name∈t.gp:=by
 refine Ty.dF (p:=fun t=>t.gp.length≤t.nodes.length∧∀z∈t.nodes,z.kind=5→z.name∈t.gp) ?_ t;intro t ih
 have key:∀l:List Ty,(∀a∈l,a.gp.length≤a.nodes.length)→(l.flatMap Ty.gp).length≤(l.flatMap Ty.nodes).length:=by
   intro l;induction l with
   |nil=>intro _;simp
   |cons a r ihr=>
     intro h;have h1:=h a (by simp);have h2:=ihr fun b hb=>h b (by simp[hb])
     simp only[List.flatMap_cons,List.length_append];omega
 rw[Ty.Ge,Ty.aM];refine⟨?_,?_⟩
 · have:=key t.args fun a ha=>(ih a ha).1;have h1:(if t.kind=5 then [t.name] else []).length≤1:=by split<;>simp
   simp only[List.length_append,List.length_cons];omega
 · intro z hz hk;simp only[List.mem_cons,List.mem_flatMap]at hz;rcases hz with rfl|⟨a,ha,hz⟩
   ·rw[if_pos hk];simp
   ·refine List.mem_append_right _ ?_;simp only[List.mem_flatMap];exact⟨a,ha,(ih a ha).2 z hz hk⟩
theorem Px{l:List bt}{t:Ty}(h:t.Kn (·=5))(hl:∀z∈t.nodes,z.kind=5→z.name∈l):(t.mJ l).Kn KC∧Pj l.length (t.mJ l):=by
 induction h with
 | @mk t hh hnn _ ih=>
   have hself:t∈t.nodes:=(by rw[Ty.aM];simp);rw[Ty.yX];by_cases k:t.kind=5
   ·have hp:=Pw (hl t hself k);rw[if_pos ⟨k,hp.1⟩];refine⟨.bare rfl (by simp[cy]) (by simp[cy]),?_⟩;intro y hy _;rw[Ty.aM]at hy;simp[cy]at hy;subst hy;exact hp
   · rw[if_neg (fun q=>k q.1)]
     have hk4:t.kind=4:=by
       by_cases q:t.kind=4
       ·exact q
       ·exact absurd (hh q).1 k
     refine⟨.mk (fun q=>absurd hk4 q) hnn ?_,?_⟩
     ·intro x hx;simp only[List.mem_map]at hx;obtain⟨a,ha,rfl⟩:=hx;exact (ih a ha fun z hz=>hl z (JC a ha z hz)).1
     · intro y hy hy2;rw[Ty.aM]at hy;simp only[List.mem_cons,List.mem_flatMap,List.mem_map]at hy;rcases hy with rfl|⟨b,⟨a,ha,rfl⟩,hy⟩
       ·simp only at hy2;omega
       ·exact (ih a ha fun z hz=>hl z (JC a ha z hz)).2 y hy hy2
theorem mM{D:Dt→Prop}(hN:∀d,D d→d.name.length≤100){lv:List Ty}(h:∀t∈lv,t.args=[]∧t.kind=5∧t.name.length≤100){n:Nat}{t:Ty}(m:gQ D lv n t):t.Kn (·=5):=by
 induction m with
 |leaf hl=>exact .bare (h _ hl).1 (fun _=>(h _ hl).2.1) (h _ hl).2.2
 |int=>exact .bare rfl (by simp[a0]) (by simp[a0])
 |cZ hd _ _ ih=>exact .mk (by simp) (hN _ hd) ih
 |arrow _ _ iha ihb=>exact .mk (by simp) (by simp) (by intro x hx;simp at hx;rcases hx with rfl|rfl<;>assumption)
theorem vj{h:Int}:∀{n:Nat} {x:Ty},x∈lC h n→∃i:Nat,x=ll h i
 |0,x,hx=>by simp[lC]at hx
 |n+1,x,hx=>by
   simp[lC]at hx;rcases hx with hx|rfl
   ·exact vj hx
   ·exact⟨n,rfl⟩
theorem xj{f:Ty→Ty}{l:List Ty}(h:∀x∈l,(f x).nodes.length≤x.nodes.length):((l.map f).flatMap Ty.nodes).length≤(l.flatMap Ty.nodes).length:=by
 induction l with
 |nil=>simp
 |cons a r ih=>
   have h1:=h a (by simp);have h2:=ih fun x hx=>h x (by simp[hx])
   simp only[List.map_cons,List.flatMap_cons,List.length_append];omega
theorem Py{l:List bt}(t:Ty):(t.mJ l).nodes.length≤t.nodes.length:=by
 refine Ty.dF (p:=fun t=>(t.mJ l).nodes.length≤t.nodes.length) ?_ t;intro t ih;rw[Ty.yX];split
 ·rw[Ty.aM,Ty.aM t];simp[cy]
 ·rw[Ty.aM,Ty.aM t];have:=xj (f:=Ty.mJ l) ih;simp only[List.length_cons];omega
theorem Pz{l:List Ty}(hl:∀x∈l,x.nodes.length≤1)(t:Ty):(t.nh l).nodes.length≤t.nodes.length:=by
 refine Ty.dF (p:=fun t=>(t.nh l).nodes.length≤t.nodes.length) ?_ t;intro t ih;rw[Ty.mC];cases e:Mo l t with
 |some x=>
   obtain⟨_,_,_,hx⟩:=mB e;have:=hl x (aR hx);rw[Ty.aM t];simp only[Option.getD_some,List.length_cons];omega
 |none=>
   simp only[Option.getD_none];rw[Ty.aM,Ty.aM t];have:=xj (f:=Ty.nh l) ih;simp only[List.length_cons];omega
structure JJ(t:Ty):Prop where
 ok:t.Ok
 kn:t.Kn (·=5)
 n:t.nodes.length≤90
theorem JJ.both{t:Ty}(h:JJ t):∃(u:Ty) (c:Sc),(aC AP).p 325 [t.pv]=some [u.pv]∧(aC AP).p 327 [t.pv,vI 98]=some [u.pv,c.pv]∧bP u∧lS c∧u.nodes.length≤90:=by
 obtain⟨s1,s2⟩:=Fk (t:=t);have hn:=h.n;have k1:=c325 (S:=t.gp) (by omega) h.ok h.kn.cw (fun y hy=>hy);have k2:=c327 (S:=t.gp) (by omega) h.ok h.kn.cw (fun y hy=>hy) (h:=98)
 have hl:(dT t).length≤90:=by
   have:=xh (l:=t.gp) (out:=[]);simp at this;unfold dT;omega
 obtain⟨b1,b2⟩:=Px (l:=dT t) h.kn (fun z hz hk=>B' (s2 z hz hk));have sc:lS ⟨(dT t).length,t.mJ (dT t)⟩:=⟨Fg h.ok,b1,(dT t).length,rfl,by omega,b2⟩;refine⟨_,_,k1,k2,?_,sc,Nat.le_trans (Pz (fun x hx=>by obtain⟨i,rfl⟩:=vj hx;rw[Ty.aM];simp[ll]) _) (Nat.le_trans (Py t) hn)⟩;refine B8 sc (by rw[mK]) ?_;intro a ha;obtain⟨i,rfl⟩:=vj ha;exact⟨cI rfl,.bare rfl (by simp[ll]) (by simp[ll])⟩
structure Bd where
 pos:Int
 rc:Bool
 name:bt
 sg:Bool
 sig:Ty
 body:Ex
def Bd.cells(b:Bd):List PV:=[vI b.pos,.bool b.rc,.str b.name,.bool b.sg,vI b.sig.kind,.str b.sig.name,vI b.sig.id,vI b.sig.home,.au (b.sig.args.map Ty.pv)]++b.body.cells
def Bd.pv(b:Bd):PV:=.agg b.cells
@[simp] theorem Bd.ml(b:Bd):b.pv=.agg [vI b.pos,.bool b.rc,.str b.name,.bool b.sg,vI b.sig.kind,.str b.sig.name,vI b.sig.id,vI b.sig.home,.au (b.sig.args.map Ty.pv),.int .i64 b.body.kind,.int .i64 b.body.pos,.str b.body.name,.int .i64 b.body.num,.au (b.body.kids.map Ex.pv),.au (b.body.aD.map Ar.pv),.int .i64 b.body.ty.kind,.str b.body.ty.name,.int .i64 b.body.ty.id,.int .i64 b.body.ty.home,.au (b.body.ty.args.map Ty.pv)]:=by
 rw[Bd.pv,Bd.cells,Ex.bm];rfl
theorem ga:Row Bd.cells 20:=⟨by omega,fun b=>by rw[Bd.cells,Ex.bm];rfl⟩
theorem Vm:El Bd.pv 20 true:=⟨fun b=>by simp,fun b=>by simp⟩
@[simp] theorem S5{l:List Bd}:bf 20 (l.map Bd.pv)=true:=Vm.head l
theorem Fl{l:List Bd}:((eA (aN Bd.cells l)).bind (dP 20 true l.length)).map PV.au=some (.au (l.map Bd.pv)):=nf ga
theorem Sb{l:List Bd}:((l.map Bd.pv).flatMap aX).map AV.pv=aN Bd.cells l:=ng ga
structure oM(N:Nat)(b:Bd):Prop where
 sc:wW b.body
 h:b.body.uY N
 so:b.sig.Ok
 sw:b.sig.Cw
 sn:b.sig.nodes.length≤90
 nm:b.name.length≤100
 st:b.sig.Kn KT
 w:b.body.sz≤70000*N
 tx:lR b.body
def vU(L:List Int)(k:Nat)(bs:List Bd)(j:Int):Sh:=[]++[some [.pv (.au (L.map vI)),.pv (vI j)]]++(nn k++[some (aN Bd.cells bs)])
theorem kI{L:List Int}{k:Nat}{bs:List Bd}:Tape L 0 (vU L k bs):=Pp (A:=[]) (by intro cs h;simp at h) ((ct k).app (aL.one aY))
theorem Gn{L:List Int}{k:Nat}{bs:List Bd}{j:Int}:(vU L k bs j)[1+k]?=some (some (aN Bd.cells bs)):=by
 simp[vU,List.getElem?_append_right,Nat.add_comm,nn]
theorem PA{L:List Int}{k:Nat}{bs:List Bd}{j:Int}{F:List AV}:(vU L k bs j).set (1+k) none++[some F]=[]++[some [.pv (.au (L.map vI)),.pv (vI j)]]++(nn (k+1)++[some F]):=by
 simp[vU,nn,Nat.add_comm 1 k,List.set_append,List.replicate_succ']
theorem PB{L:List Int}{k:Nat}{bs:List Bd}{j:Int}:(vU L k bs j).length=1+k+1:=by simp[vU,nn];omega
def S6:List bt:=[[112],[113],[114],[115]]
theorem PC{i:Nat}{s:bt}(h:S6[i]?=some s):([PV.str [112],.str [113],.str [114],.str [115]]:List PV)[i]?=some (.str s):=by
 have:([PV.str [112],.str [113],.str [114],.str [115]]:List PV)=S6.map PV.str:=rfl;rw[this];simp[h]
structure It(L:List Int)(tm:Nat)(TP:Int→Sh)(ds:List Dt)(l:List En)(nm:bt)(i:Nat)(r4 r3 r2:Int)(x1 x u:Ty)(sc c':Sc)(e:Ex)(A:List AV)(b10 b11:Bool)(j1 j2 j3 j4 j5 j6:Nat):Prop where
 e1:(aC AP).i 68 [.aW tm 0,.pv (vI 4)] (TP i) []=some ([.pv (vI r4)],TP j1,[])
 k0:(aC AP).p 67 []=some [.au (mr.map Ty.pv)]
 e2:(aC AP).i 27 [.aW tm 0,.pv (.au (ds.map Dt.pv)),.pv (.au (mr.map Ty.pv)),.pv (vI 2)] (TP j1) []=some ([x1.av],TP j2,[])
 e3:(aC AP).i 68 [.aW tm 0,.pv (vI 3)] (TP j2) []=some ([.pv (vI r3)],TP j3,[])
 e4:if r3=0 then (aC AP).i 27 [.aW tm 0,.pv (.au (ds.map Dt.pv)),.pv (.au []),.pv (vI 2)] (TP j3) []=some ([x.av],TP j4,[]) else x=x1∧j4=j3
 e5:(aC AP).i 68 [.aW tm 0,.pv (vI 2)] (TP j4) []=some ([.pv (vI r2)],TP j5,[])
 k1:(aC AP).p 325 [x.pv]=some [u.pv]
 k2:(aC AP).p 327 [x.pv,vI 98]=some [u.pv,sc.pv]
 k3:(aC AP).p 176 [u.pv]=some [(As.mk 0 u).pv]
 k4:(aC AP).p 179 [.au (l.map En.pv),.str nm,(As.mk 0 u).pv]=some [.au ((l++[En.mk nm ⟨0,u⟩]).map En.pv)]
 e6:(aC AP).i 326 [.aW tm 0,.pv (.au (ds.map Dt.pv)),.pv (.au ((if r4=1 then l++[⟨nm,⟨0,u⟩⟩] else l).map En.pv)),.pv u.pv,.pv (vI 3)] (TP j5) []=some ([.agg A],TP j6,[])
 hA:Xf e A
 k5:(aC AP).p 307 [e.pv,vI 10]=some [.bool b10]
 k6:(aC AP).p 307 [e.pv,vI 11]=some [.bool b11]
 k7:(aC AP).p 34 []=some [a0.pv]
 k8:(aC AP).p 176 [a0.pv]=some [(As.mk 0 a0).pv]
 hc:c'=if ¬r2=0∧(b10=true∨b11=true) then ⟨0,a0⟩ else sc
 k9:(aC AP).p 179 [.au (l.map En.pv),.str nm,c'.pv]=some [.au ((l++[En.mk nm c']).map En.pv)]
 QH:lS c'
 ty:xd 48 e
 sx:JJ x
 hj:j6≤L.length
theorem Vn{L:List Int}{tm:Nat}{TP:Int→Sh}(hT:Tape L tm TP)(hL:Sm L){ds:List Dt}(hD:rW ds){l:List En}(hl:Ctx 900 l){i:Nat}(hi:i≤L.length)(nm:bt)(hnm:nm.length≤100) :
   ∃r4 r3 r2 x1 x u sc c' e A b10 b11 j1 j2 j3 j4 j5 j6,It L tm TP ds l nm i r4 r3 r2 x1 x u sc c' e A b10 b11 j1 j2 j3 j4 j5 j6:=by
 have hdl:=hD.len;have hda:∀d∈ds,d.params.length≤8:=fun d hd=>(dW d (hD.all d hd)).1
 have hdn:∀d∈ds,d.name.length≤100:=fun d hd=>(iS d (hD.all d hd)).1;have hll:=hl.len
 have nL:∀t∈mr,t.args=[]∧t.kind=5∧t.name.length≤100:=by
   intro t ht;simp[mr]at ht;rcases ht with rfl|rfl|rfl<;>exact⟨rfl,rfl,by decide⟩
 have sig:∀{lv:List Ty} {x:Ty},(∀t∈lv,t.args=[]∧t.kind=5∧t.name.length≤100)→gQ (·∈ds) lv 2 x→JJ x:=fun h m=>⟨m.ok hda (fun t ht=>(h t ht).1),mM hdn h m,by have:=m.small hda (fun t ht=>(h t ht).1);omega⟩;obtain⟨r4,j1,e1,_,_,hj1⟩:=p9 hT hL hi (n:=4) (by omega) (by omega);obtain⟨x1,j2,e2,m1,hj2⟩:=R6 hT hL (ds:=ds) (by omega) hda (lv:=mr) (by simp[Sm,mr]) 2 (by omega) j1 hj1;obtain⟨r3,j3,e3,_,_,hj3⟩:=p9 hT hL hj2 (n:=3) (by omega) (by omega)
 obtain⟨x,j4,e4,sx,hj4⟩:∃(x:Ty) (j4:Nat),(if r3=0 then (aC AP).i 27 [.aW tm 0,.pv (.au (ds.map Dt.pv)),.pv (.au []),.pv (vI 2)] (TP j3) []=some ([x.av],TP j4,[]) else x=x1∧j4=j3)∧JJ x∧j4≤L.length:=by
   by_cases h:r3=0
   ·obtain⟨x,j4,e4,m,hj4⟩:=R6 hT hL (ds:=ds) (by omega) hda (lv:=[]) (by simp[Sm]) 2 (by omega) j3 hj3;exact⟨x,j4,by rw[if_pos h];exact e4,sig (by simp) m,hj4⟩
   ·exact⟨x1,j3,by rw[if_neg h];exact⟨rfl,rfl⟩,sig nL m1,hj3⟩
 obtain⟨r2,j5,e5,_,_,hj5⟩:=p9 hT hL hj4 (n:=2) (by omega) (by omega);obtain⟨u,sc,k1,k2,gu,hsc,un⟩:=sx.both;have k3:=c176 (t:=u);have k4:=c179 (l:=l) (by unfold Sm;omega) (n:=nm) (c:=⟨0,u⟩)
 have hli:Ctx (1000-20*3) (if r4=1 then l++[⟨nm,⟨0,u⟩⟩] else l):=by
   split
   ·exact hl.push gu.mono hnm (by omega)
   ·exact hl.gY (by omega)
 obtain⟨e,f1,f2,f3,j6,e6,he,hj6⟩:=c326 hT hL hD 3 (by omega) j5 _ u hj5 hli gu (by omega);obtain⟨b10,k5⟩:=c307 he.sc.ok 10;obtain⟨b11,k6⟩:=c307 he.sc.ok 11
 have QH:lS (if ¬r2=0∧(b10=true∨b11=true) then ⟨0,a0⟩ else sc):=by
   split
   ·exact sU.mono
   ·exact hsc
 exact⟨r4,r3,r2,x1,x,u,sc,_,e,_,b10,b11,j1,j2,j3,j4,j5,j6,e1,c67,e2,e3,e4,e5,k1,k2,k3,k4,e6,dR f1 f2 f3 e,k5,k6,c34,c176,rfl,c179 (by unfold Sm;omega),QH,he,sx,hj6⟩
theorem y4:∀s∈S6,s.length≤100:=by
 intro s hs;simp only[S6,List.mem_cons,List.not_mem_nil,or_false]at hs;rcases hs with rfl|rfl|rfl|rfl<;>simp
def lT(nm:bt)(r4 r2:Int)(x:Ty)(e:Ex):Bd:=⟨0,decide (r4=1),nm,decide (r2=0),if r2=0 then x else bq,e⟩
theorem Gp{nm:bt}{r4 r2:Int}{x:Ty}{e:Ex}(hnm:nm.length≤100)(sx:JJ x)(ty:xd 48 e):oM 100 (lT nm r4 r2 x e):=by
 refine⟨ty.sc,iU ty.h (by omega),?_,?_,?_,hnm,?_,by have:=ty.w;rw[show (48:Nat)=12*4 from rfl,wT]at this;simp only[lT];omega,ty.tx⟩<;>simp only[lT]<;>split
 ·exact sx.ok
 ·exact iT
 ·exact sx.kn.cw
 ·exact iV
 ·exact sx.n
 ·rw[Ty.aM];simp[bq]
 ·exact sx.kn.imp (fun k hk=>.inr hk)
 ·exact .bare rfl (by simp[bq]) (by simp[bq])
theorem Vo{L:List Int}(hL:Sm L){ds:List Dt}(hD:rW ds){l:List En}(hl:Ctx 900 l){N i k:Nat}(hi4:i<N)(hN:N≤4){bs:List Bd}(hb0:bs.length=i){j:Nat}(hj:j≤L.length):∃(b:Bd) (l':List En) (j':Nat),oM 100 b∧Ctx (l.length+1) l'∧j'≤L.length ∧
   cl AP g306L0 ⟨[(4,.az 4 0),(5,.aW 0 0),(6,.az 6 0),(7,.pv (.au (l.map En.pv))),(8,.pv (vI N)),(9,.pv (vI i))],[(4,[.own [] 0,.own [] 1]),(6,[.pv (.au (ds.map Dt.pv)),.aP (1+k) 20 bs.length true])],vU L k bs j,[0,0]⟩ =
   cl AP g306L0 ⟨[(4,.az 4 0),(5,.aW 0 0),(6,.az 6 0),(7,.pv (.au (l'.map En.pv))),(8,.pv (vI N)),(9,.pv (vI (i+1:Nat)))],[(4,[.own [] 0,.own [] 1]),(6,[.pv (.au (ds.map Dt.pv)),.aP (1+k+1) 20 (bs++[b]).length true])],vU L (k+1) (bs++[b]) j',[0,0]⟩:=by
 obtain⟨nm,hnm⟩:=aV (l:=S6) (i:=i) (by simp[S6];omega);have hnm':=PC hnm;have hT:=kI (L:=L) (k:=k) (bs:=bs);obtain⟨r4,r3,r2,x1,x,u,sc,c',e,A,b10,b11,j1,j2,j3,j4,j5,j6,I⟩:=Vn hT hL hD hl hj nm (y4 nm (aR hnm));obtain⟨e1,k0,e2,e3,e4,e5,k1,k2,k3,k4,e6,hA,k5,k6,k7,k8,hc,k9,QH,ty,sx,hj6⟩:=I
 refine⟨lT nm r4 r2 x e,l++[⟨nm,c'⟩],j6,Gp (y4 nm (aR hnm)) sx ty,⟨by simp,by
   intro y hy;simp at hy;rcases hy with hy|rfl
   ·exact hl.Vh y hy
   ·exact QH,by
   intro y hy;simp at hy;rcases hy with hy|rfl
   ·exact hl.nm y hy
   ·exact y4 nm (aR hnm)⟩,hj6,?_⟩
 have tn:=hT.norm;have tsh:=hT.shift;have tl:=hT.take;have g1:=Gn (L:=L) (k:=k) (bs:=bs) (j:=j6);have g2:=PA (L:=L) (k:=k) (bs:=bs) (j:=j6) (F:=aN Bd.cells (bs++[lT nm r4 r2 x e]));have g3:=PB (L:=L) (k:=k) (bs:=bs) (j:=j6);have hfl:aN Bd.cells (bs++[lT nm r4 r2 x e])=aN Bd.cells bs++(lT nm r4 r2 x e).cells.map .pv:=by rw[nc];simp[aN]
 have ec:=Ex.bm e;have bc:(lT nm r4 r2 x e).cells=[vI 0,.bool (decide (r4=1)),.str nm,.bool (decide (r2=0)),vI (if r2=0 then x else bq).kind,.str (if r2=0 then x else bq).name,vI (if r2=0 then x else bq).id,vI (if r2=0 then x else bq).home,.au ((if r2=0 then x else bq).args.map Ty.pv)]++e.cells:=rfl;have r1:(aN Bd.cells bs).length=bs.length*20:=bo ga;have r2':bV (aN Bd.cells bs)=false:=bI aY;have r3':(aN Bd.cells bs).take (bs.length*20)=aN Bd.cells bs:=List.take_of_length_le (by omega);have hb2:(bs.length+1)*256≤140737488355328:=by omega
 have hi':(i:Int)<N:=by omega
 have hq:aL (vU L (k+1) (bs++[lT nm r4 r2 x e]) j6):=(kI (L:=L) (k:=k+1) (bs:=bs++[lT nm r4 r2 x e])).quiet j6;have tn2:=hq.norm;have sheq:vU L (k+1) (bs++[lT nm r4 r2 x e]) j6=(vU L k bs j6).set (1+k) none++[some (aN Bd.cells bs++(lT nm r4 r2 x e).cells.map .pv)]:=by rw[←hfl,g2];rfl
 rw[sheq]at tn2⊢;rw[bc]at tn2⊢;generalize aN Bd.cells bs=F at *;have tA:A.take 11=A:=List.take_of_length_le (by rw[hA.len];omega);generalize hTP:vU L k bs=TP at *;clear g2 hfl sheq;generalize hS1:(TP j6).set (1+k) none=S1 at *;rw[ec];rw[ec]at tn2;simp[Ty.av]at e1 k0 e2 e3 e5 k1 k2 k3 k4 e6 k5 k6 k7 k8 k9;by_cases h4:r4=1
 · by_cases h3:r3=0
   · simp[h3,Ty.av]at e4 e3;by_cases h2:r2=0
     · simp[h4,h2,bq]at e1 e5 e6 hc tn2;subst hc
       try simp at k9
       conv=>lhs;rw[g306L0e]
       simp (disch:=omega) [-getElem?_pos,g306B0,hi',hnm',e1,k0,e2,e3,e4,e5,k1,k2,k3,k4,e6,k5,k6,k7,k8,k9,h4,h3,h2,tn,tsh,tl,g1,g3,r1,r2',r3',hb2,tn2,ah,aF,hA.dd,hA.flat,hA.gH,hA.len,hA.leaf,tA,ec,hS1,bq]
     · have h2b:(r2 == 0)=false:=(by simpa using h2);simp[h4,h2,bq]at e1 e5 e6 hc tn2;cases b10
       · cases b11
         · simp at hc;subst hc
           try simp at k9
           conv=>lhs;rw[g306L0e]
           simp (disch:=omega) [-getElem?_pos,g306B0,hi',hnm',e1,k0,e2,e3,e4,e5,k1,k2,k3,k4,e6,k5,k6,k7,k8,k9,h4,h3,h2,h2b,tn,tsh,tl,g1,g3,r1,r2',r3',hb2,tn2,ah,aF,hA.dd,hA.flat,hA.gH,hA.len,hA.leaf,tA,ec,hS1,bq]
         · simp at hc;subst hc;simp[a0]at k7 k8 k9;conv=>lhs;rw[g306L0e]
           simp (disch:=omega) [-getElem?_pos,g306B0,hi',hnm',e1,k0,e2,e3,e4,e5,k1,k2,k3,k4,e6,k5,k6,k7,k8,k9,h4,h3,h2,h2b,tn,tsh,tl,g1,g3,r1,r2',r3',hb2,tn2,ah,aF,hA.dd,hA.flat,hA.gH,hA.len,hA.leaf,tA,ec,hS1,bq,a0]
       · simp at hc;subst hc;simp[a0]at k7 k8 k9;conv=>lhs;rw[g306L0e]
         simp (disch:=omega) [-getElem?_pos,g306B0,hi',hnm',e1,k0,e2,e3,e4,e5,k1,k2,k3,k4,e6,k5,k6,k7,k8,k9,h4,h3,h2,h2b,tn,tsh,tl,g1,g3,r1,r2',r3',hb2,tn2,ah,aF,hA.dd,hA.flat,hA.gH,hA.len,hA.leaf,tA,ec,hS1,bq,a0]
   · simp[h3]at e4;obtain⟨rfl,rfl⟩:=e4;by_cases h2:r2=0
     · simp[h4,h2,bq]at e1 e5 e6 hc tn2;subst hc
       try simp at k9
       conv=>lhs;rw[g306L0e]
       simp (disch:=omega) [-getElem?_pos,g306B0,hi',hnm',e1,k0,e2,e3,e5,k1,k2,k3,k4,e6,k5,k6,k7,k8,k9,h4,h3,h2,tn,tsh,tl,g1,g3,r1,r2',r3',hb2,tn2,ah,aF,hA.dd,hA.flat,hA.gH,hA.len,hA.leaf,tA,ec,hS1,bq]
     · have h2b:(r2 == 0)=false:=(by simpa using h2);simp[h4,h2,bq]at e1 e5 e6 hc tn2;cases b10
       · cases b11
         · simp at hc;subst hc
           try simp at k9
           conv=>lhs;rw[g306L0e]
           simp (disch:=omega) [-getElem?_pos,g306B0,hi',hnm',e1,k0,e2,e3,e5,k1,k2,k3,k4,e6,k5,k6,k7,k8,k9,h4,h3,h2,h2b,tn,tsh,tl,g1,g3,r1,r2',r3',hb2,tn2,ah,aF,hA.dd,hA.flat,hA.gH,hA.len,hA.leaf,tA,ec,hS1,bq]
         · simp at hc;subst hc;simp[a0]at k7 k8 k9;conv=>lhs;rw[g306L0e]
           simp (disch:=omega) [-getElem?_pos,g306B0,hi',hnm',e1,k0,e2,e3,e5,k1,k2,k3,k4,e6,k5,k6,k7,k8,k9,h4,h3,h2,h2b,tn,tsh,tl,g1,g3,r1,r2',r3',hb2,tn2,ah,aF,hA.dd,hA.flat,hA.gH,hA.len,hA.leaf,tA,ec,hS1,bq,a0]
       · simp at hc;subst hc;simp[a0]at k7 k8 k9;conv=>lhs;rw[g306L0e]
         simp (disch:=omega) [-getElem?_pos,g306B0,hi',hnm',e1,k0,e2,e3,e5,k1,k2,k3,k4,e6,k5,k6,k7,k8,k9,h4,h3,h2,h2b,tn,tsh,tl,g1,g3,r1,r2',r3',hb2,tn2,ah,aF,hA.dd,hA.flat,hA.gH,hA.len,hA.leaf,tA,ec,hS1,bq,a0]
 · have h4b:(r4 == 1)=false:=(by simpa using h4);by_cases h3:r3=0
   · simp[h3,Ty.av]at e4 e3;by_cases h2:r2=0
     · simp[h4,h2,bq]at e1 e5 e6 hc tn2;subst hc
       try simp at k9
       conv=>lhs;rw[g306L0e]
       simp (disch:=omega) [-getElem?_pos,g306B0,hi',hnm',e1,k0,e2,e3,e4,e5,k1,k2,k3,k4,e6,k5,k6,k7,k8,k9,h4,h3,h2,h4b,tn,tsh,tl,g1,g3,r1,r2',r3',hb2,tn2,ah,aF,hA.dd,hA.flat,hA.gH,hA.len,hA.leaf,tA,ec,hS1,bq]
     · have h2b:(r2 == 0)=false:=(by simpa using h2);simp[h4,h2,bq]at e1 e5 e6 hc tn2;cases b10
       · cases b11
         · simp at hc;subst hc
           try simp at k9
           conv=>lhs;rw[g306L0e]
           simp (disch:=omega) [-getElem?_pos,g306B0,hi',hnm',e1,k0,e2,e3,e4,e5,k1,k2,k3,k4,e6,k5,k6,k7,k8,k9,h4,h3,h2,h2b,h4b,tn,tsh,tl,g1,g3,r1,r2',r3',hb2,tn2,ah,aF,hA.dd,hA.flat,hA.gH,hA.len,hA.leaf,tA,ec,hS1,bq]
         · simp at hc;subst hc;simp[a0]at k7 k8 k9;conv=>lhs;rw[g306L0e]
           simp (disch:=omega) [-getElem?_pos,g306B0,hi',hnm',e1,k0,e2,e3,e4,e5,k1,k2,k3,k4,e6,k5,k6,k7,k8,k9,h4,h3,h2,h2b,h4b,tn,tsh,tl,g1,g3,r1,r2',r3',hb2,tn2,ah,aF,hA.dd,hA.flat,hA.gH,hA.len,hA.leaf,tA,ec,hS1,bq,a0]
       · simp at hc;subst hc;simp[a0]at k7 k8 k9;conv=>lhs;rw[g306L0e]
         simp (disch:=omega) [-getElem?_pos,g306B0,hi',hnm',e1,k0,e2,e3,e4,e5,k1,k2,k3,k4,e6,k5,k6,k7,k8,k9,h4,h3,h2,h2b,h4b,tn,tsh,tl,g1,g3,r1,r2',r3',hb2,tn2,ah,aF,hA.dd,hA.flat,hA.gH,hA.len,hA.leaf,tA,ec,hS1,bq,a0]
   · simp[h3]at e4;obtain⟨rfl,rfl⟩:=e4;by_cases h2:r2=0
     · simp[h4,h2,bq]at e1 e5 e6 hc tn2;subst hc
       try simp at k9
       conv=>lhs;rw[g306L0e]
       simp (disch:=omega) [-getElem?_pos,g306B0,hi',hnm',e1,k0,e2,e3,e5,k1,k2,k3,k4,e6,k5,k6,k7,k8,k9,h4,h3,h2,h4b,tn,tsh,tl,g1,g3,r1,r2',r3',hb2,tn2,ah,aF,hA.dd,hA.flat,hA.gH,hA.len,hA.leaf,tA,ec,hS1,bq]
     · have h2b:(r2 == 0)=false:=(by simpa using h2);simp[h4,h2,bq]at e1 e5 e6 hc tn2;cases b10
       · cases b11
         · simp at hc;subst hc
           try simp at k9
           conv=>lhs;rw[g306L0e]
           simp (disch:=omega) [-getElem?_pos,g306B0,hi',hnm',e1,k0,e2,e3,e5,k1,k2,k3,k4,e6,k5,k6,k7,k8,k9,h4,h3,h2,h2b,h4b,tn,tsh,tl,g1,g3,r1,r2',r3',hb2,tn2,ah,aF,hA.dd,hA.flat,hA.gH,hA.len,hA.leaf,tA,ec,hS1,bq]
         · simp at hc;subst hc;simp[a0]at k7 k8 k9;conv=>lhs;rw[g306L0e]
           simp (disch:=omega) [-getElem?_pos,g306B0,hi',hnm',e1,k0,e2,e3,e5,k1,k2,k3,k4,e6,k5,k6,k7,k8,k9,h4,h3,h2,h2b,h4b,tn,tsh,tl,g1,g3,r1,r2',r3',hb2,tn2,ah,aF,hA.dd,hA.flat,hA.gH,hA.len,hA.leaf,tA,ec,hS1,bq,a0]
       · simp at hc;subst hc;simp[a0]at k7 k8 k9;conv=>lhs;rw[g306L0e]
         simp (disch:=omega) [-getElem?_pos,g306B0,hi',hnm',e1,k0,e2,e3,e5,k1,k2,k3,k4,e6,k5,k6,k7,k8,k9,h4,h3,h2,h2b,h4b,tn,tsh,tl,g1,g3,r1,r2',r3',hb2,tn2,ah,aF,hA.dd,hA.flat,hA.gH,hA.len,hA.leaf,tA,ec,hS1,bq,a0]
theorem nr{L:List Int}:Tape L 0 (tp L) where
 get:=fun i=>by simp
 set:=fun i j=>by simp
 quiet:=fun i=>aL.one (by intro v hv;simp at hv;rcases hv with rfl|rfl<;>exact⟨_,rfl⟩)
theorem Vp{L:List Int}(hL:Sm L){ds:List Dt}(hD:rW ds){N:Nat}(h0:0<N)(hN:N≤4){j:Nat}(hj:j≤L.length):∃(b:Bd) (l':List En) (j':Nat),oM 100 b∧Ctx 1 l'∧j'≤L.length ∧
   cl AP g306L0 ⟨[(4,.az 4 0),(5,.aW 0 0),(6,.az 6 0),(7,.own [] 0),(8,.pv (vI N)),(9,.pv (vI 0))],[(4,[.own [] 1,.own [] 2]),(6,[.pv (.au (ds.map Dt.pv)),.own [] 3])],tp L j,[0,0,0,0]⟩ =
   cl AP g306L0 ⟨[(4,.az 4 0),(5,.aW 0 0),(6,.az 6 0),(7,.pv (.au (l'.map En.pv))),(8,.pv (vI N)),(9,.pv (vI 1))],[(4,[.own [] 0,.own [] 1]),(6,[.pv (.au (ds.map Dt.pv)),.aP 1 20 1 true])],vU L 0 [b] j',[0,0]⟩:=by
 have hT:=nr (L:=L);obtain⟨r4,r3,r2,x1,x,u,sc,c',e,A,b10,b11,j1,j2,j3,j4,j5,j6,I⟩:=Vn hT hL hD (l:=[]) ⟨by simp,by simp,by simp⟩ hj [112] (by simp);obtain⟨e1,k0,e2,e3,e4,e5,k1,k2,k3,k4,e6,hA,k5,k6,k7,k8,hc,k9,QH,ty,sx,hj6⟩:=I
 refine⟨lT [112] r4 r2 x e,[⟨[112],c'⟩],j6,Gp (by simp) sx ty,⟨by simp,by
   intro y hy;simp at hy;subst hy;exact QH,by
   intro y hy;simp at hy;subst hy;simp⟩,hj6,?_⟩
 have tn:=hT.norm;have tsh:=hT.shift;have tl:=hT.take;have g3:∀i,(tp L i).length=1:=fun i=>rfl
 have ec:=Ex.bm e;have hi':=h0;have hz:N≠0:=by omega
 have hq:aL (vU L 0 [lT [112] r4 r2 x e] j6):=(kI (L:=L) (k:=0) (bs:=[lT [112] r4 r2 x e])).quiet j6;have tn2:=hq.norm;have bc:(lT [112] r4 r2 x e).cells=[vI 0,.bool (decide (r4=1)),.str [112],.bool (decide (r2=0)),vI (if r2=0 then x else bq).kind,.str (if r2=0 then x else bq).name,vI (if r2=0 then x else bq).id,vI (if r2=0 then x else bq).home,.au ((if r2=0 then x else bq).args.map Ty.pv)]++e.cells:=rfl;have sheq:vU L 0 [lT [112] r4 r2 x e] j6=tp L j6++[some ((lT [112] r4 r2 x e).cells.map .pv)]:=by simp[vU,nn,aN]
 rw[sheq]at tn2⊢;rw[bc]at tn2⊢;generalize tp L=TP at *;have tA:A.take 11=A:=List.take_of_length_le (by rw[hA.len];omega);clear sheq;rw[ec];rw[ec]at tn2;simp[Ty.av]at e1 k0 e2 e3 e5 k1 k2 k3 k4 e6 k5 k6 k7 k8 k9;by_cases h4:r4=1
 · by_cases h3:r3=0
   · simp[h3,Ty.av]at e4 e3;by_cases h2:r2=0
     · simp[h4,h2,bq]at e1 e5 e6 hc tn2;subst hc
       try simp at k9
       conv=>lhs;rw[g306L0e]
       simp (disch:=omega) [-getElem?_pos,g306B0,hi',hz,e1,k0,e2,e3,e4,e5,k1,k2,k3,k4,e6,k5,k6,k7,k8,k9,h4,h3,h2,tn,tsh,tl,g3,tn2,ah,aF,hA.dd,hA.flat,hA.gH,hA.len,hA.leaf,tA,ec,bq];conv=>lhs;rw[g306L0e]
       conv=>rhs;rw[g306L0e]
       simp[h4,h2,tn2,bq]
     · have h2b:(r2 == 0)=false:=(by simpa using h2);simp[h4,h2,bq]at e1 e5 e6 hc tn2;cases b10
       · cases b11
         · simp at hc;subst hc
           try simp at k9
           conv=>lhs;rw[g306L0e]
           simp (disch:=omega) [-getElem?_pos,g306B0,hi',hz,e1,k0,e2,e3,e4,e5,k1,k2,k3,k4,e6,k5,k6,k7,k8,k9,h4,h3,h2,h2b,tn,tsh,tl,g3,tn2,ah,aF,hA.dd,hA.flat,hA.gH,hA.len,hA.leaf,tA,ec,bq];conv=>lhs;rw[g306L0e]
           conv=>rhs;rw[g306L0e]
           simp[h4,h2,h2b,tn2,bq]
         · simp at hc;subst hc;simp[a0]at k7 k8 k9;conv=>lhs;rw[g306L0e]
           simp (disch:=omega) [-getElem?_pos,g306B0,hi',hz,e1,k0,e2,e3,e4,e5,k1,k2,k3,k4,e6,k5,k6,k7,k8,k9,h4,h3,h2,h2b,tn,tsh,tl,g3,tn2,ah,aF,hA.dd,hA.flat,hA.gH,hA.len,hA.leaf,tA,ec,bq,a0];conv=>lhs;rw[g306L0e]
           conv=>rhs;rw[g306L0e]
           simp[h4,h2,h2b,tn2,bq]
       · simp at hc;subst hc;simp[a0]at k7 k8 k9;conv=>lhs;rw[g306L0e]
         simp (disch:=omega) [-getElem?_pos,g306B0,hi',hz,e1,k0,e2,e3,e4,e5,k1,k2,k3,k4,e6,k5,k6,k7,k8,k9,h4,h3,h2,h2b,tn,tsh,tl,g3,tn2,ah,aF,hA.dd,hA.flat,hA.gH,hA.len,hA.leaf,tA,ec,bq,a0];conv=>lhs;rw[g306L0e]
         conv=>rhs;rw[g306L0e]
         simp[h4,h2,h2b,tn2,bq]
   · simp[h3]at e4;obtain⟨rfl,rfl⟩:=e4;by_cases h2:r2=0
     · simp[h4,h2,bq]at e1 e5 e6 hc tn2;subst hc
       try simp at k9
       conv=>lhs;rw[g306L0e]
       simp (disch:=omega) [-getElem?_pos,g306B0,hi',hz,e1,k0,e2,e3,e5,k1,k2,k3,k4,e6,k5,k6,k7,k8,k9,h4,h3,h2,tn,tsh,tl,g3,tn2,ah,aF,hA.dd,hA.flat,hA.gH,hA.len,hA.leaf,tA,ec,bq];conv=>lhs;rw[g306L0e]
       conv=>rhs;rw[g306L0e]
       simp[h4,h2,tn2,bq]
     · have h2b:(r2 == 0)=false:=(by simpa using h2);simp[h4,h2,bq]at e1 e5 e6 hc tn2;cases b10
       · cases b11
         · simp at hc;subst hc
           try simp at k9
           conv=>lhs;rw[g306L0e]
           simp (disch:=omega) [-getElem?_pos,g306B0,hi',hz,e1,k0,e2,e3,e5,k1,k2,k3,k4,e6,k5,k6,k7,k8,k9,h4,h3,h2,h2b,tn,tsh,tl,g3,tn2,ah,aF,hA.dd,hA.flat,hA.gH,hA.len,hA.leaf,tA,ec,bq];conv=>lhs;rw[g306L0e]
           conv=>rhs;rw[g306L0e]
           simp[h4,h2,h2b,tn2,bq]
         · simp at hc;subst hc;simp[a0]at k7 k8 k9;conv=>lhs;rw[g306L0e]
           simp (disch:=omega) [-getElem?_pos,g306B0,hi',hz,e1,k0,e2,e3,e5,k1,k2,k3,k4,e6,k5,k6,k7,k8,k9,h4,h3,h2,h2b,tn,tsh,tl,g3,tn2,ah,aF,hA.dd,hA.flat,hA.gH,hA.len,hA.leaf,tA,ec,bq,a0];conv=>lhs;rw[g306L0e]
           conv=>rhs;rw[g306L0e]
           simp[h4,h2,h2b,tn2,bq]
       · simp at hc;subst hc;simp[a0]at k7 k8 k9;conv=>lhs;rw[g306L0e]
         simp (disch:=omega) [-getElem?_pos,g306B0,hi',hz,e1,k0,e2,e3,e5,k1,k2,k3,k4,e6,k5,k6,k7,k8,k9,h4,h3,h2,h2b,tn,tsh,tl,g3,tn2,ah,aF,hA.dd,hA.flat,hA.gH,hA.len,hA.leaf,tA,ec,bq,a0];conv=>lhs;rw[g306L0e]
         conv=>rhs;rw[g306L0e]
         simp[h4,h2,h2b,tn2,bq]
 · have h4b:(r4 == 1)=false:=(by simpa using h4);by_cases h3:r3=0
   · simp[h3,Ty.av]at e4 e3;by_cases h2:r2=0
     · simp[h4,h2,bq]at e1 e5 e6 hc tn2;subst hc
       try simp at k9
       conv=>lhs;rw[g306L0e]
       simp (disch:=omega) [-getElem?_pos,g306B0,hi',hz,e1,k0,e2,e3,e4,e5,k1,k2,k3,k4,e6,k5,k6,k7,k8,k9,h4,h3,h2,h4b,tn,tsh,tl,g3,tn2,ah,aF,hA.dd,hA.flat,hA.gH,hA.len,hA.leaf,tA,ec,bq];conv=>lhs;rw[g306L0e]
       conv=>rhs;rw[g306L0e]
       simp[h4,h2,h4b,tn2,bq]
     · have h2b:(r2 == 0)=false:=(by simpa using h2);simp[h4,h2,bq]at e1 e5 e6 hc tn2;cases b10
       · cases b11
         · simp at hc;subst hc
           try simp at k9
           conv=>lhs;rw[g306L0e]
           simp (disch:=omega) [-getElem?_pos,g306B0,hi',hz,e1,k0,e2,e3,e4,e5,k1,k2,k3,k4,e6,k5,k6,k7,k8,k9,h4,h3,h2,h2b,h4b,tn,tsh,tl,g3,tn2,ah,aF,hA.dd,hA.flat,hA.gH,hA.len,hA.leaf,tA,ec,bq];conv=>lhs;rw[g306L0e]
           conv=>rhs;rw[g306L0e]
           simp[h4,h2,h2b,h4b,tn2,bq]
         · simp at hc;subst hc;simp[a0]at k7 k8 k9;conv=>lhs;rw[g306L0e]
           simp (disch:=omega) [-getElem?_pos,g306B0,hi',hz,e1,k0,e2,e3,e4,e5,k1,k2,k3,k4,e6,k5,k6,k7,k8,k9,h4,h3,h2,h2b,h4b,tn,tsh,tl,g3,tn2,ah,aF,hA.dd,hA.flat,hA.gH,hA.len,hA.leaf,tA,ec,bq,a0];conv=>lhs;rw[g306L0e]
           conv=>rhs;rw[g306L0e]
           simp[h4,h2,h2b,h4b,tn2,bq]
       · simp at hc;subst hc;simp[a0]at k7 k8 k9;conv=>lhs;rw[g306L0e]
         simp (disch:=omega) [-getElem?_pos,g306B0,hi',hz,e1,k0,e2,e3,e4,e5,k1,k2,k3,k4,e6,k5,k6,k7,k8,k9,h4,h3,h2,h2b,h4b,tn,tsh,tl,g3,tn2,ah,aF,hA.dd,hA.flat,hA.gH,hA.len,hA.leaf,tA,ec,bq,a0];conv=>lhs;rw[g306L0e]
         conv=>rhs;rw[g306L0e]
         simp[h4,h2,h2b,h4b,tn2,bq]
   · simp[h3]at e4;obtain⟨rfl,rfl⟩:=e4;by_cases h2:r2=0
     · simp[h4,h2,bq]at e1 e5 e6 hc tn2;subst hc
       try simp at k9
       conv=>lhs;rw[g306L0e]
       simp (disch:=omega) [-getElem?_pos,g306B0,hi',hz,e1,k0,e2,e3,e5,k1,k2,k3,k4,e6,k5,k6,k7,k8,k9,h4,h3,h2,h4b,tn,tsh,tl,g3,tn2,ah,aF,hA.dd,hA.flat,hA.gH,hA.len,hA.leaf,tA,ec,bq];conv=>lhs;rw[g306L0e]
       conv=>rhs;rw[g306L0e]
       simp[h4,h2,h4b,tn2,bq]
     · have h2b:(r2 == 0)=false:=(by simpa using h2);simp[h4,h2,bq]at e1 e5 e6 hc tn2;cases b10
       · cases b11
         · simp at hc;subst hc
           try simp at k9
           conv=>lhs;rw[g306L0e]
           simp (disch:=omega) [-getElem?_pos,g306B0,hi',hz,e1,k0,e2,e3,e5,k1,k2,k3,k4,e6,k5,k6,k7,k8,k9,h4,h3,h2,h2b,h4b,tn,tsh,tl,g3,tn2,ah,aF,hA.dd,hA.flat,hA.gH,hA.len,hA.leaf,tA,ec,bq];conv=>lhs;rw[g306L0e]
           conv=>rhs;rw[g306L0e]
           simp[h4,h2,h2b,h4b,tn2,bq]
         · simp at hc;subst hc;simp[a0]at k7 k8 k9;conv=>lhs;rw[g306L0e]
           simp (disch:=omega) [-getElem?_pos,g306B0,hi',hz,e1,k0,e2,e3,e5,k1,k2,k3,k4,e6,k5,k6,k7,k8,k9,h4,h3,h2,h2b,h4b,tn,tsh,tl,g3,tn2,ah,aF,hA.dd,hA.flat,hA.gH,hA.len,hA.leaf,tA,ec,bq,a0];conv=>lhs;rw[g306L0e]
           conv=>rhs;rw[g306L0e]
           simp[h4,h2,h2b,h4b,tn2,bq]
       · simp at hc;subst hc;simp[a0]at k7 k8 k9;conv=>lhs;rw[g306L0e]
         simp (disch:=omega) [-getElem?_pos,g306B0,hi',hz,e1,k0,e2,e3,e5,k1,k2,k3,k4,e6,k5,k6,k7,k8,k9,h4,h3,h2,h2b,h4b,tn,tsh,tl,g3,tn2,ah,aF,hA.dd,hA.flat,hA.gH,hA.len,hA.leaf,tA,ec,bq,a0];conv=>lhs;rw[g306L0e]
         conv=>rhs;rw[g306L0e]
         simp[h4,h2,h2b,h4b,tn2,bq]
theorem Vq{L:List Int}(hL:Sm L){ds:List Dt}(hD:rW ds){N:Nat}(hN:N≤4):∀(n i:Nat),N-i=n→i≤N→∀(l:List En) (k:Nat) (bs:List Bd) (j:Nat),Ctx (900-n) l→bs.length=i→(∀b∈bs,oM 100 b)→j≤L.length→∃(l':List En) (k':Nat) (bs':List Bd) (j':Nat),bs'.length=N∧(∀b∈bs',oM 100 b)∧j'≤L.length ∧
   cl AP g306L0 ⟨[(4,.az 4 0),(5,.aW 0 0),(6,.az 6 0),(7,.pv (.au (l.map En.pv))),(8,.pv (vI N)),(9,.pv (vI i))],[(4,[.own [] 0,.own [] 1]),(6,[.pv (.au (ds.map Dt.pv)),.aP (1+k) 20 bs.length true])],vU L k bs j,[0,0]⟩ =
     some (.exit 0,⟨[(4,.az 4 0),(5,.aW 0 0),(6,.az 6 0),(7,.pv (.au (l'.map En.pv))),(8,.pv (vI N)),(9,.pv (vI N)),(26,.pv (.bool false))],[(4,[.own [] 0,.own [] 1]),(6,[.pv (.au (ds.map Dt.pv)),.aP (1+k') 20 bs'.length true])],vU L k' bs' j',[0,0]⟩)
 |0,i,hn,hi,l,k,bs,j,hl,hb,ho,hj=>by
   have:i=N:=by omega
   subst this;refine⟨l,k,bs,j,hb,ho,hj,?_⟩;have tn:=((kI (L:=L) (k:=k) (bs:=bs)).quiet j).norm;generalize vU L k bs j=S at *;rw[g306L0e];simp[g306B0,tn]
 |n+1,i,hn,hi,l,k,bs,j,hl,hb,ho,hj=>by
   obtain⟨b,l1,j1,b1,b2,b3,e⟩:=Vo hL hD (l:=l) (N:=N) (k:=k) (hl.gY (by omega)) (by omega) hN hb hj;have hll:=hl.len
   obtain⟨l',k',bs',j',q1,q2,q3,e'⟩:=Vq hL hD hN n (i+1) (by omega) (by omega) l1 (k+1) (bs++[b]) j1 (b2.gY (by omega)) (by simp;omega) (by
     intro y hy;simp at hy;rcases hy with hy|rfl
     ·exact ho y hy
     ·exact b1) b3
   refine⟨l',k',bs',j',q1,q2,q3,?_⟩;rw[e];exact e'
theorem Sd{e:Ex}(h:wW e){c:List Ex}(hl:c.length=e.ch.length)(hc:∀y∈c,wW y):wW (e.kq c):=by
 rw[Ex.dQ]at hl;have hch:=uZ hl;have hk:(e.kq c).kids.length=e.kids.length:=by rw[Ex.kq,if_pos hl];simp;omega
 have ha:(e.kq c).aD.map (fun a=>(a.cZ,a.vars))=e.aD.map (fun a=>(a.cZ,a.vars)):=by rw[Ex.kq,if_pos hl];simp only[sQ]
 have ha2:(e.kq c).aD.length=e.aD.length:=by have:=congrArg List.length ha;simpa using this
 have hkd:(e.kq c).kind=e.kind:=by rw[Ex.kq,if_pos hl]
 have hty:(e.kq c).ty=e.ty:=by rw[Ex.kq,if_pos hl]
 refine⟨.mk (by have:=h.ok.k;omega) (by have:=h.ok.a;omega) ?_ (by rw[hty];exact h.ok.t) (by rw[hch];exact fun y hy=>(hc y hy).ok),.mk (by rw[hkd,hk];exact h.one.h) (by rw[hch];exact fun y hy=>(hc y hy).one),.mk (by rw[hty];exact h.cw.h) (by rw[hch];exact fun y hy=>(hc y hy).cw)⟩;intro a hm;have:(a.cZ,a.vars)∈e.aD.map (fun a=>(a.cZ,a.vars)):=by rw[←ha];exact List.mem_map_of_mem hm
 simp only[List.mem_map]at this;obtain⟨b,hb,hq⟩:=this;have:=h.ok.v b hb;simp at hq;rw[←hq.2];exact this
theorem Vr{e:Ex}{c:List Ex}(hl:c.length=e.ch.length){n:Nat}(hc:∀y∈c,y.uY n):(e.kq c).uY (n+1):=by
 rw[Ex.dQ]at hl;exact .mk (by rw[uZ hl];exact hc)
theorem Vs{sz:Nat}{l:List PV}(h1:1≤l.length)(hs:bf sz l=true):dK false sz true false false [.pv (.au l),.pv (.int .i64 1)]=some (.pv (.au (l.drop 1))):=by
 have h2:(1:Int)≤l.length:=by omega
 simp[dK,cJ,eK,h2,hs]
def Ex.dz(x:Ex):List Int→Ex→Ex×Bool
 |[],_=>(x,true)
 |q::p,e=>if 0≤q∧q<e.ch.length then match e.ch[q.toNat]? with
     |some c=>match Ex.dz x p c with
       |(y,true)=>(e.kq (e.ch.set q.toNat y),true)
       |(_,false)=>(e,false)
     |none=>(e,false)
   else (e,false)
theorem Se{e:Ex}{c:List Ex}(hl:c.length=e.ch.length):(e.kq c).sz=1+(c.map Ex.sz).sum:=by
 rw[Ex.dQ]at hl;rw[Ex.kF,uZ hl]
theorem Sf{e:Ex}(h:lR e){c:List Ex}(hl:c.length=e.ch.length)(hc:∀y∈c,lR y):lR (e.kq c):=by
 rw[Ex.dQ]at hl;have hw:e.kq c=⟨e.kind,e.pos,e.name,e.num,c.take e.kids.length,dS e.aD (c.drop e.kids.length),e.ty⟩:=by rw[Ex.kq,if_pos hl]
 have hno:e.aD=[]→dS e.aD (c.drop e.kids.length)=[]:=by intro q;rw[q];rfl
 have one:∀{a:Ex},e.kids=[a]→e.aD=[]→∃y∈c,c.take e.kids.length=[y]:=by
   intro a q1 q2;rw[q1,q2]at hl
   match c,hl with
   |[y],_=>exact⟨y,by simp,by rw[q1];rfl⟩
 have two:∀{a b:Ex},e.kids=[a,b]→e.aD=[]→∃y∈c,∃z∈c,c.take e.kids.length=[y,z]:=by
   intro a b q1 q2;rw[q1,q2]at hl
   match c,hl with
   |[y,z],_=>exact⟨y,by simp,z,by simp,by rw[q1];rfl⟩
 rw[hw];cases h with
 |leaf h1 h2 h3=>exact .leaf h1 (by simp[h2]) (hno h3)
 |lam h1 h2 h3 h4 _=>
   obtain⟨y,hy,q⟩:=one h3 h4;exact .lam h1 h2 q (hno h4) (hc y hy)
 |app h1 h2 h3 _ _=>
   obtain⟨y,hy,z,hz,q⟩:=two h2 h3;exact .app h1 q (hno h3) (hc y hy) (hc z hz)
 |sq h1 h2 h3 h4 _ _=>
   obtain⟨y,hy,z,hz,q⟩:=two h3 h4;exact .sq h1 h2 q (hno h4) (hc y hy) (hc z hz)
 |JU h1 h2 h3 h4 h5 _=>
   obtain⟨y,hy,q⟩:=one h2 h3;exact .JU h1 q (hno h3) h4 h5 (hc y hy)
 |held h1 h2 h3 _=>
   obtain⟨y,hy,q⟩:=one h2 h3;exact .held h1 q (hno h3) (hc y hy)
 | @mD _ a h1 h2 h3 h4 h5 h6=>
   rw[h2]at hl⊢
   match c,hl with
   |[],hl=>simp at hl;omega
   |y::r,hl=>
     have hlr:r.length=e.aD.length:=(by simp at hl;omega);have hcv:=sQ (as:=e.aD) (xs:=r);have hlen:(dS e.aD r).length=e.aD.length:=by have:=congrArg List.length hcv;simpa using this
     refine .mD h1 rfl (hc y (by simp)) (by simp only[List.length_singleton,List.drop_succ_cons,List.drop_zero];omega) ?_ ?_
     · intro x hx;simp only[List.length_singleton,List.drop_succ_cons,List.drop_zero]at hx;have:(x.cZ,x.vars)∈e.aD.map (fun a=>(a.cZ,a.vars)):=by rw[←hcv];exact List.mem_map_of_mem hx
       simp only[List.mem_map]at this;obtain⟨b,hb,hq⟩:=this;simp at hq;rw[←hq.1,←hq.2];exact h5 b hb
     ·intro x hx;simp only[List.length_singleton,List.drop_succ_cons,List.drop_zero]at hx;have hb:=mH hlr;have:x.body∈(dS e.aD r).map dt.body:=List.mem_map_of_mem hx;rw[hb]at this;exact hc _ (List.mem_cons_of_mem _ this)
theorem PD{l:List Ex}{i:Nat}{c y:Ex}(h:l[i]?=some c):((l.set i y).map Ex.sz).sum+c.sz=(l.map Ex.sz).sum+y.sz:=by
 induction l generalizing i with
 |nil=>simp at h
 |cons a r ih=>
   cases i with
   |zero=>simp at h;subst h;simp;omega
   |succ i=>
     have:=ih (i:=i) (by simpa using h);simp only[List.set_cons_succ,List.map_cons,List.sum_cons];omega
theorem pW{x:Ex}(hx:wW x){m:Nat}(hm:x.uY m):∀(p:List Int) (e:Ex) (n:Nat),wW e→e.uY n →
   wW (Ex.dz x p e).1∧(Ex.dz x p e).1.uY (n+m)∧(lR x→lR e→lR (Ex.dz x p e).1)∧(Ex.dz x p e).1.sz≤e.sz+x.sz
 |[],e,n,he,hh=>⟨hx,iU hm (by omega),fun h _=>h,by simp only[Ex.dz];omega⟩
 |q::p,e,n,he,hh=>by
   have stay:wW e∧e.uY (n+m)∧(lR x→lR e→lR e)∧e.sz≤e.sz+x.sz:=⟨he,iU hh (by omega),fun _ h=>h,by omega⟩;rw[Ex.dz];split
   · rename_i hq;split
     · rename_i c hc;have hcm:=aR hc;cases hh with
       | @mk n _ hh=>
         obtain⟨h1,h2,h3,h4⟩:=pW hx hm p c n (he.c hcm) (hh c hcm);split
         · rename_i y hy;rw[hy]at h1 h2 h3 h4;have hcl:(e.ch.set q.toNat y).length=e.ch.length:=by simp
           have hce:∀w∈e.ch.set q.toNat y,wW w:=by
             intro w hw;rcases List.mem_or_eq_of_mem_set hw with hw|rfl
             ·exact he.c hw
             ·exact h1
           have hch:∀w∈e.ch.set q.toNat y,w.uY (n+m):=by
             intro w hw;rcases List.mem_or_eq_of_mem_set hw with hw|rfl
             ·exact iU (hh w hw) (by omega)
             ·exact h2
           refine⟨Sd he hcl hce,by rw[show n+1+m=n+m+1 by omega];exact Vr hcl hch,fun tx te=>Sf te hcl ?_,?_⟩
           · intro w hw;rcases List.mem_or_eq_of_mem_set hw with hw|rfl
             ·exact te.c w hw
             ·exact h3 tx (te.c c hcm)
           ·have:=PD (y:=y) hc;simp only;rw[Se hcl,e.kF];simp only at h4;omega
         ·exact stay
     ·exact stay
   ·exact stay
theorem fc.Xz{ds:List Dt}(hD:rW ds){n:Nat}{e:Ex}(h:fc ds n e):xd (12*(n+1)) e:=by
 have hD8:∀d∈ds,D8 d:=fun d hd=>yQ d (hD.all d hd);have hdn:∀d∈ds,d.name.length≤100:=fun d hd=>(iS d (hD.all d hd)).1
 induction h with
 |var hs=>exact (ev (.inl ⟨.inl rfl,dB _ hs⟩)).up (by omega)
 |int h0 h4=>exact (ev (.inr (.inl ⟨rfl,h0,h4⟩))).up (by omega)
 |cZ hd hc=>exact (ev (.inl ⟨.inr rfl,(iS _ (hD.all _ hd)).2 _ hc⟩)).up (by omega)
 |gone=>exact (ev (.inl ⟨.inr rfl,by simp⟩)).up (by omega)
 |hole=>exact (ev (.inr (.inr ⟨rfl,rfl,rfl⟩))).up (by omega)
 |lam hs _ ih=>exact fC (by decide) (by simp) iT iV (by simpa using ih) (.lam rfl (dB _ hs) rfl rfl ih.tx)
 |app _ _ iha ihb=>exact fC (by decide) (by simp) iT iV (by simpa using⟨iha,ihb⟩) (.app rfl rfl rfl iha.tx ihb.tx)
 |sq hk hs _ _ iha ihb=>exact fC (by rcases hk with rfl|rfl<;>decide) (by simp) iT iV (by simpa using⟨iha,ihb⟩) (.sq hk (dB _ hs) rfl rfl iha.tx ihb.tx)
 |JU _ ht ih=>
   have g:=lE (fun d hd=>(hD8 d hd).1) hdn (by simp) ht;have gn:=ht.small (fun d hd=>(hD8 d hd).1) (by simp);exact fC (by decide) (by simp) g.ok g.kn.cw (by simpa using ih) (.JU rfl rfl rfl ((mM hdn (by simp) ht).imp (fun k hk=>.inr hk)) (by simp only;omega) ih.tx)
 |held _ ih=>exact fC (by decide) (by simp) iT iV (by simpa using ih) (.held rfl rfl rfl ih.tx)
 |up _ ih=>exact ih.up (by omega)
 | @mD n d a as hd ha hl hb hv hc iha ihb=>
   obtain⟨_,_,h8a,h8b⟩:=hD8 _ hd;refine B_ iha (by omega) fun x hx=>⟨?_,ihb x hx⟩;have hvx:=(hv x hx).2
   obtain⟨i,hi,rfl⟩:=List.getElem_of_mem hx;obtain⟨c,hcc⟩:=aV (show i<_ from hl ▸ hi);obtain⟨q1,q2⟩:=hc i c _ hcc (List.getElem?_eq_getElem hi);have:=h8b c (aR hcc);exact⟨by rw[q1];exact (iS _ (hD.all _ hd)).2 c (aR hcc),by omega,fun v hv'=>dB _ (hvx v hv')⟩
theorem oM.up{n m:Nat}{b:Bd}(h:oM n b)(hm:n≤m):oM m b:=⟨h.sc,iU h.h hm,h.so,h.sw,h.sn,h.nm,h.st,Nat.le_trans h.w (Nat.mul_le_mul_left _ hm),h.tx⟩
def jV(ds:List Dt)(bs:List Bd):List AV:=[.pv (.au (ds.map Dt.pv)),.pv (.au (bs.map Bd.pv))]
def Fm:List Bd→Nat
 |[]=>0
 |b::r=>b.body.hl.length+Fm r
def eN:Nat→List Bd→Int→Option (Nat×List Int)
 |_,[],_=>none
 |i,b::r,h=>if h<b.body.hl.length then (b.body.hl[h.toNat]?).map fun p=>(i,p) else eN (i+1) r (h-b.body.hl.length)
def vk:Option (Nat×List Int)→List PV
 |some (i,p)=>[vI i,p8 p,.bool true]
 |none=>[vI 0,.au [],.bool false]
def Sg(bs:List Bd):Prop:=bs.length≤1000∧∀b∈bs,b.body.Ok∧b.body.sz≤100000000
theorem Sg.c{bs:List Bd}(h:Sg bs){b:Bd}(hb:b∈bs):(aC AP).p 543 [b.body.pv]=some [.au (b.body.hl.map p8)]∧(aC AP).p 539 [b.body.pv]=some [.au (b.body.hl.map p8)]∧b.body.hl.length≤100000000:=by
 obtain⟨h1,h2⟩:=h.2 b hb;exact⟨c543 _ h1 h2,c539 _ h1 h2,Nat.le_trans (qG _) h2⟩
theorem Vt{ds:List Dt}{bs:List Bd}(H:Sg bs):∀(n i:Nat),bs.length-i=n→i≤bs.length→∀m:Nat,m≤100000000*i →
   cl AP g529L0 ⟨[(1,.az 1 0),(3,.pv (vI m)),(4,.pv (vI i))],[(1,jV ds bs)],[],[]⟩ =
     some (.exit 0,⟨[(1,.az 1 0),(3,.pv (vI (m+Fm (bs.drop i):Nat))),(4,.pv (vI bs.length)),(9,.pv (.bool false))],[(1,jV ds bs)],[],[]⟩)
 |0,i,hn,hi,m,hm=>by
   have:i=bs.length:=by omega
   subst this;rw[g529L0e];simp[g529B0,Fm,jV]
 |n+1,i,hn,hi,m,hm=>by
   have hi:i<bs.length:=(by omega);have hl:=H.1;obtain⟨b,hb⟩:=aV hi;obtain⟨_,k,hk⟩:=H.c (aR hb);have ih:=Vt (ds:=ds) H n (i+1) (by omega) (by omega) (m+b.body.hl.length) (by omega);rw[bj hb];simp only[Fm];rw[←Nat.add_assoc];generalize b.body.hl=hs at *;generalize m+hs.length+Fm (bs.drop (i+1))=C at *;rw[g529L0e]at ih⊢;simp[jV]at ih k;simp (disch:=omega) [-getElem?_pos,g529B0,jV,hb,hi,k,ah];rw[g529L0e];simp[ih]
theorem c529{ds:List Dt}{bs:List Bd}(H:Sg bs):(aC AP).p 529 [.agg [.au (ds.map Dt.pv),.au (bs.map Bd.pv)]]=some [vI (Fm bs)]:=by
 have e:=Vt (ds:=ds) H _ 0 rfl (by omega) 0 (by omega);rw[List.drop_zero,Nat.zero_add]at e;rw[g529L0e]at e;simp[jV]at e;rw[ae (af:=g529) rfl rfl (by decide)];simp[g529,g529L0e,e]
theorem JK{i:Nat}{b:Bd}{r:List Bd}{h:Int}(h0:0≤h)(hl:h<b.body.hl.length):∃p,b.body.hl[h.toNat]?=some p∧eN i (b::r) h=some (i,p):=by
 obtain⟨p,hp⟩:=aV (show h.toNat<b.body.hl.length by omega);exact⟨p,hp,by rw[eN,if_pos hl,hp];rfl⟩
theorem Vu{bs:List Bd}(H:Sg bs):∀(n i:Nat),bs.length-i=n→i≤bs.length→∀h:Int,0≤h→h≤9223372036854775807→∃h':Int,
   cl AP g530L0 ⟨[(1,.pv (vI h)),(13,.pv (.au (bs.map Bd.pv))),(14,.pv (vI bs.length)),(15,.pv (vI i))],[],[],[]⟩ =
     some (match eN i (bs.drop i) h with
       |some (j,p)=>(.ret,⟨[(4,.pv (vI j)),(5,.pv (p8 p)),(6,.pv (.bool true))],[],[],[]⟩)
       |none=>(.exit 0,⟨[(1,.pv (vI h')),(13,.pv (.au (bs.map Bd.pv))),(14,.pv (vI bs.length)),(15,.pv (vI bs.length)),(16,.pv (.bool false))],[],[],[]⟩))
 |0,i,hn,hi,h,h0,h1=>by
   have:i=bs.length:=by omega
   subst this;refine⟨h,?_⟩;rw[List.drop_length,eN,g530L0e];simp[g530B0]
 |n+1,i,hn,hi,h,h0,h1=>by
   have hi:i<bs.length:=(by omega);have hl:=H.1;obtain⟨b,hb⟩:=aV hi;obtain⟨k,_,hk⟩:=H.c (aR hb);rw[bj hb];by_cases q:h<b.body.hl.length
   · obtain⟨p,hp,e⟩:=JK (i:=i) (r:=bs.drop (i+1)) h0 q;refine⟨0,?_⟩;rw[e];generalize b.body.hl=hs at *;simp at k;have hp':(hs.map p8)[h.toNat]?=some (p8 p):=by simp[hp]
     have q1:h.toNat<hs.length:=(by omega);have q3:¬h<0:=(by omega);rw[g530L0e];simp (disch:=omega) [-getElem?_pos,g530B0,hb,hi,k,ah,q,q3,h0,hp,q1]
   ·obtain⟨h',ih⟩:=Vu H n (i+1) (by omega) (by omega) (h-b.body.hl.length) (by omega) (by omega);refine⟨h',?_⟩;rw[eN,if_neg q];generalize eN (i+1) (bs.drop (i+1)) (h-b.body.hl.length)=R at *;generalize b.body.hl=hs at *;rw[g530L0e]at ih⊢;simp at ih k;simp (disch:=omega) [-getElem?_pos,g530B0,hb,hi,k,ah,q];rw[g530L0e];simp[ih]
theorem c530{ds:List Dt}{bs:List Bd}(H:Sg bs){h:Int}(h1:h≤9223372036854775807):(aC AP).p 530 [.agg [.au (ds.map Dt.pv),.au (bs.map Bd.pv)],vI h]=some (vk (if h<0 then none else eN 0 bs h)):=by
 rw[ae (af:=g530) rfl rfl (by decide)];by_cases h0:h<0
 ·simp[g530,h0,vk]
 · rw[if_neg h0];obtain⟨h',e⟩:=Vu H _ 0 rfl (by omega) h (by omega) h1;rw[List.drop_zero]at e;rw[g530L0e]at e;cases hf:eN 0 bs h with
   |none=>rw[hf]at e;simp at e;simp[g530,h0,g530L0e,e,vk]
   |some r=>obtain⟨j,p⟩:=r;rw[hf]at e;simp at e;simp[g530,h0,g530L0e,e,vk]
theorem M6{s:List bt}(hS:s.length<1000000):∀(n i:Nat),s.length-i=n→i≤s.length→∀acc:List bt,acc.length≤i →
   cl AP g532L1 ⟨[(9,.own (s.map .str) 0),(13,.own (acc.map .str) 1),(58,.pv (.au (s.map .str))),(59,.pv (vI s.length)),(60,.pv (vI i))],[],[],[s.length,acc.length]⟩ =
     some (.exit 2,⟨[(9,.own (s.map .str) 0),(13,.own ((acc++dv (s.drop i)).map .str) 1),(58,.pv (.au (s.map .str))),(59,.pv (vI s.length)),(60,.pv (vI s.length)),(61,.pv (.bool false))],[],[],[s.length,(acc++dv (s.drop i)).length]⟩)
 |0,i,hn,hi,acc,ha=>by
   have:i=s.length:=by omega
   subst this;rw[List.drop_length];simp only[dv,List.append_nil];rw[g532L1e];simp[g532B1]
 |n+1,i,hn,hi,acc,ha=>by
   have hi:i<s.length:=(by omega);obtain⟨x,hx⟩:=aV hi;have c:=c214 (s:=s.drop (i+1)) (by unfold Sm;simp;omega) (y:=x);have hsl:=Qz (sz:=1) (τ:=0) (l:=s.map PV.str) (k:=.i64) (h:=(i:Int)+1) (by omega) (by simp;omega) (qC.head s);have h1:((i:Int)+1).toNat=i+1:=(by omega);rw[h1]at hsl;have hb:(acc.length+1)*16≤140737488355328:=(by omega);rw[bj hx,g532L1e];by_cases e:x∈s.drop (i+1)
   ·have ih:=M6 hS n (i+1) (by omega) (by omega) acc (by omega);simp only[dv,if_pos e];rw[decide_eq_true e]at c;simp at ih c hsl;simp (disch:=omega) [-getElem?_pos,g532B1,hx,hi,ah,hsl,c,ih]
   ·have ih:=M6 hS n (i+1) (by omega) (by omega) (acc++[x]) (by simp;omega);simp only[dv,if_neg e];rw[decide_eq_false e]at c;simp at ih c hsl;simp (disch:=omega) [-getElem?_pos,g532B1,hx,hi,ah,hsl,c,hb,ih]
theorem QL{ds:List Dt}{bs l:List Bd}{I:Nat}{p:List Int}(hl:l.length≤1000):∀(n i:Nat),l.length-i=n→i≤l.length→∀acc:List bt,acc.length≤i →
   cl AP g532L0 ⟨[(2,.az 2 0),(6,.pv (vI I)),(7,.pv (.au (p.map vI))),(9,.own (acc.map .str) 0),(28,.pv (.au (l.map Bd.pv))),(29,.pv (vI l.length)),(30,.pv (vI i))],[(2,jV ds bs)],[],[acc.length]⟩ =
     some (.exit 0,⟨[(2,.az 2 0),(6,.pv (vI I)),(7,.pv (.au (p.map vI))),(9,.own ((acc++(l.drop i).map Bd.name).map .str) 0),(28,.pv (.au (l.map Bd.pv))),(29,.pv (vI l.length)),(30,.pv (vI l.length)),(31,.pv (.bool false))],[(2,jV ds bs)],[],[(acc++(l.drop i).map Bd.name).length]⟩)
 |0,i,hn,hi,acc,ha=>by
   have:i=l.length:=by omega
   subst this;rw[List.drop_length,List.map_nil,List.append_nil,g532L0e];simp[g532B0,jV]
 |n+1,i,hn,hi,acc,ha=>by
   have hi:i<l.length:=(by omega);obtain⟨b,hb⟩:=aV hi;have ih:=QL (ds:=ds) (bs:=bs) (I:=I) (p:=p) hl n (i+1) (by omega) (by omega) (acc++[b.name]) (by simp;omega);have hbb:(acc.length+1)*16≤140737488355328:=(by omega);rw[bj hb,List.map_cons];rw[g532L0e]at ih⊢;simp[jV]at ih;simp (disch:=omega) [-getElem?_pos,g532B0,jV,hb,hi,hbb,ah];rw[g532L0e];simp[ih]
theorem qP:∀l:List bt,(dv l).length≤l.length
 |[]=>by simp[dv]
 |x::r=>by
   have:=qP r;simp only[dv];split<;>simp<;>omega
theorem kJ:∀{l:List Bd} {i j:Nat} {h:Int} {p:List Int},eN i l h=some (j,p)→∃(k:Nat) (b:Bd),j=i+k∧l[k]?=some b∧p∈b.body.hl
 |[],i,j,h,p,e=>by simp[eN]at e
 |b::r,i,j,h,p,e=>by
   rw[eN]at e;split at e
   ·simp only[Option.map_eq_some_iff]at e;obtain⟨q,hq,e⟩:=e;cases e;exact⟨0,b,rfl,rfl,aR hq⟩
   ·obtain⟨k,c,h1,h2,h3⟩:=kJ e;exact⟨k+1,c,by omega,by simpa using h2,h3⟩
noncomputable def lU(bs:List Bd)(i:Nat)(b:Bd)(p:List Int):List bt:=(bs.take i).map Bd.name++((if b.rc=true then [b.name] else [])++BI b.body p)
noncomputable def Fo(bs:List Bd)(h:Int):List PV:=match (if h<0 then none else eN 0 bs h) with
 |none=>[.au [],vI 16]
 |some (i,p)=>match bs[i]? with
   |some b=>[.au ((dv (lU bs i b p)).map .str),vI 0]
   |none=>[]
structure V_(bs:List Bd):Prop where
 h:Sg bs
 one:∀b∈bs,b.body.One
 dp:∀b∈bs,∀p∈b.body.hl,p.length≤500
theorem Gq{e:Ex}(he:e.Ok){p:List Int}(hp:p.length≤500):(BI e p).length≤500000:=by
 unfold BI;cases hx:e.at p with
 |none=>simp
 |some y=>
   have h1:=F9 he hx;have h2:=qP (e.pN p);simp only;omega
theorem c532{ds:List Dt}{bs:List Bd}(H:V_ bs){h:Int}(h1:h≤9223372036854775807):(aC AP).p 532 [.agg [.au (ds.map Dt.pv),.au (bs.map Bd.pv)],vI h]=some (Fo bs h):=by
 have k:=c530 (ds:=ds) H.h h1;unfold Fo;rw[ae (af:=g532) rfl rfl (by decide)];cases hf:(if h<0 then none else eN 0 bs h) with
 |none=>
   rw[hf]at k;simp[vk]at k;simp[g532,k]
 |some r=>
   obtain⟨i,p⟩:=r
   have hf':eN 0 bs h=some (i,p):=by
     split at hf
     ·cases hf
     ·exact hf
   obtain⟨j,b,hj,hb,hp⟩:=kJ hf';have:j=i:=by omega
   subst this;have hi:=(List.getElem?_eq_some_iff.1 hb).1;have hbm:=aR hb;have hl:=H.h.1;obtain⟨hok,hsz⟩:=H.h.2 b hbm;have hp5:=H.dp b hbm p hp;have kv:=c404 hok (H.one b hbm) (p:=p) (by omega);have vl:=Gq hok hp5;rw[hf]at k;simp only[hb,lU];have htl:(bs.take j).length=j:=by simp;omega
   have e0:=QL (ds:=ds) (bs:=bs) (l:=bs.take j) (I:=j) (p:=p) (by omega) _ 0 rfl (by omega) [] (by simp);rw[htl,List.drop_zero,List.nil_append]at e0;have hnl:((bs.take j).map Bd.name).length=j:=(by rw[List.length_map];exact htl);generalize (bs.take j).map Bd.name=N at *;generalize BI b.body p=V at *;have e1:=M6 (s:=N++((if b.rc=true then [b.name] else [])++V)) (by simp only[List.length_append];split<;>simp<;>omega) _ 0 rfl (by omega) [] (by simp);rw[List.drop_zero,List.nil_append]at e1;have hb1:(N.length+1)*16≤140737488355328:=(by omega);have hb2:(N.length+V.length)*16≤140737488355328:=(by omega);have hb3:(N.length+1+V.length)*16≤140737488355328:=(by omega);have hh:=qC.head V;have hh3:bf 1 (N.map PV.str++[PV.str b.name])=true:=by have:=qC.head (N++[b.name]);simpa only[List.map_append,List.map_cons,List.map_nil] using this
   have hslb:dK false 20 false true false [.pv (.au (bs.map Bd.pv)),.pv (.int .i64 (j:Int))]=some (.pv (.au ((bs.take j).map Bd.pv))):=by
     have:=UL (sz:=20) (l:=bs.map Bd.pv) (k:=.i64) (h:=(j:Int)) (by omega) (by simp;omega);simpa using this
   rw[g532L0e]at e0;rw[g532L1e]at e1;simp[vk]at k kv hh hslb;simp[jV,htl]at e0;have hb4:N.length*16≤140737488355328:=by omega
   cases hr:b.rc
   · simp[hr]at e1;by_cases z:V=[]
     ·subst z;simp at e1 kv;simp (disch:=omega) [-getElem?_pos,g532,k,hslb,htl,g532L0e,e0,hb,hi,hr,hb1,hb2,hb3,hb4,hh3,kv,g532L1e,e1]
     ·simp (disch:=omega) [-getElem?_pos,g532,k,hslb,htl,g532L0e,e0,hb,hi,hr,hb1,hb2,hb3,hh,hh3,z,kv,g532L1e,e1]
   · simp[hr]at e1;by_cases z:V=[]
     ·subst z;simp at e1 kv;simp (disch:=omega) [-getElem?_pos,g532,k,hslb,htl,g532L0e,e0,hb,hi,hr,hb1,hb2,hb3,hb4,hh3,kv,g532L1e,e1]
     ·simp (disch:=omega) [-getElem?_pos,g532,k,hslb,htl,g532L0e,e0,hb,hi,hr,hb1,hb2,hb3,hh,hh3,z,kv,g532L1e,e1]
theorem QM:gG AP:=⟨rfl,rfl,rfl,rfl,rfl,rfl,rfl,rfl,rfl,rfl⟩
def Vv(b:Bd)(p:bt×bt):bt:=[108,101,116,32]++((if b.rc=true then [114,101,99,32] else [])++(b.name++((if b.sg=true then [32,58,32]++p.1 else [])++([32,61,32]++(p.2++[59,10])))))
theorem xl{α:Type}{l:List α}{g:α→bt}{M:Nat}(h:∀x∈l,(g x).length≤M):(l.flatMap g).length≤l.length*M:=by
 induction l with
 |nil=>simp
 |cons a r ih=>
   have h1:=h a (by simp);have h2:=ih fun x hx=>h x (by simp[hx])
   simp only[List.flatMap_cons,List.length_append,List.length_cons,Nat.add_mul];omega
theorem y5:∀{p:List Int} {e x:Ex} {n:Nat},e.at p=some x→e.uY n→p.length≤n
 |[],_,_,_,_,_=>by simp
 |i::r,e,x,n,h,hh=>by
   rw[Ex.at]at h;split at h
   · cases hy:e.ch[i.toNat]? with
     |none=>rw[hy]at h;cases h
     |some y=>
       rw[hy]at h;cases hh with
       | @mk n _ hc=>
         have:=y5 (p:=r) h (hc y (aR hy));simp only[List.length_cons];omega
   ·cases h
theorem XA{bs:List Bd}(h4:bs.length≤4)(ho:∀b∈bs,oM 200 b):V_ bs where
 h:=⟨by omega,fun b hb=>⟨(ho b hb).sc.ok,by have:=(ho b hb).w;omega⟩⟩
 one:=fun b hb=>(ho b hb).sc.one
 dp:=fun b hb p hp=>by
   obtain⟨_,x,hx,_⟩:=sN b.body p hp;have:=y5 hx (ho b hb).h;omega
theorem Si{bs:List Bd}(ho:∀b∈bs,oM 200 b):Fm bs≤bs.length*14000000:=by
 induction bs with
 |nil=>simp[Fm]
 |cons b r ih=>
   have h1:=ih fun x hx=>ho x (by simp[hx]);have h2:=qG b.body
   have h3:=(ho b (by simp)).w;simp only[Fm,List.length_cons];omega
def Vw(k p:Int)(s:bt):List PV:=[.int .i64 k,.int .i64 p,.str s,.int .i64 0,.au [],.au [],.int .i64 0,.str [],.int .i64 0,.int .i64 0,.au []]
def V'(b:List PV):PV:=.agg [.au [],.au [
 .agg ([.int .i64 0,.bool false,.str [120],.bool false,.int .i64 0,.str [],.int .i64 0,.int .i64 0,.au []]++Vw 10 8 []),
 .agg ([.int .i64 11,.bool false,.str [121],.bool false,.int .i64 0,.str [],.int .i64 0,.int .i64 0,.au []]++[.int .i64 4,.int .i64 19,.str [120],.int .i64 0,.au [.agg b],.au [],.int .i64 0,.str [],.int .i64 0,.int .i64 0,.au []])]]
def Wa(b:UInt8):bt:=[108,101,116,32,120,32,61,32,63,59,32,108,101,116,32,121,32,61,32,92,120,46,32,b,59]
theorem c535a:(aC AP).p 535 [.str (Wa 63)]=some [V' (Vw 10 23 [])]:=Fc.OQ (k:=400) (n:=40) (by kernel_rfl)
theorem c535b:(aC AP).p 535 [.str (Wa 120)]=some [V' (Vw 1 23 [120])]:=Fc.OQ (k:=400) (n:=40) (by kernel_rfl)
def Xj(g:Nat)(x:List PV):Option (List PV):=if g=535 then match x with
 |[.str s]=>if s=Wa 63 then some [V' (Vw 10 23 [])] else if s=Wa 120 then some [V' (Vw 1 23 [120])] else none
 |_=>none
 else none
theorem Sj:∀g x r,Xj g x=some r→(aC AP).p g x=some r:=by
 intro g x r h;unfold Xj at h;split at h
 · rename_i e;subst e;split at h
   · split at h
     ·rename_i e;subst e;rw[←h];exact c535a
     · split at h
       ·rename_i e;subst e;rw[←h];exact c535b
       ·cases h
   ·cases h
 ·cases h
theorem c527:(aC AP).p 527 []=some [.bool true]:=Fc.P7 (k:=400) (n:=40) Sj (by kernel_rfl)
def zi:Nat→List Nat→Nat
 |m,[]=>m
 |m,d::r=>zi (max m (1+d)) r
theorem Fp{B:Nat}:∀{l:List Nat} {m:Nat},m≤B→(∀d∈l,1+d≤B)→zi m l≤B
 |[],_,h,_=>h
 |d::r,m,h,hl=>Fp (l:=r) (m:=max m (1+d)) (Nat.max_le.2 ⟨h,hl d (by simp)⟩) fun x hx=>hl x (by simp[hx])
def Ex.dp(e:Ex):Nat:=zi 0 (e.ch.attach.map fun x=>x.1.dp)
termination_by SizeOf.sizeOf e
decreasing_by exact Ex.lr x.2
theorem Ex.Ca(e:Ex):e.dp=zi 0 (e.ch.map Ex.dp):=by
 rw[Ex.dp,List.map_attach_eq_pmap,List.pmap_eq_map]
theorem Ex.M7(e:Ex):e.dp<e.sz:=by
 refine Ex.recC (p:=fun e=>e.dp<e.sz) ?_ e;intro e ih;rw[Ex.Ca];have hp:=e.lx
 have:zi 0 (e.ch.map Ex.dp)≤e.sz-1:=Fp (by omega) (by
   intro d hd;rw[List.mem_map]at hd;obtain⟨x,hx,rfl⟩:=hd;have h1:=ih x hx;have h2:=Ex.oF hx;omega)
 omega
theorem Vx{ch:List Ex}(hN:ch.length≤1000000)(hB:∀x∈ch,x.dp≤100000000)(ih:∀x∈ch,(aC AP).p 547 [x.pv]=some [vI x.dp]):∀(n i:Nat),ch.length-i=n→i≤ch.length→∀m:Nat,m≤100000001 →
   cl AP g547L0 ⟨[(3,.pv (vI m)),(7,.pv (.au (ch.map Ex.pv))),(8,.pv (vI ch.length)),(9,.pv (vI i))],[],[],[]⟩ =
     some (.exit 0,⟨[(3,.pv (vI (zi m ((ch.drop i).map Ex.dp):Nat))),(7,.pv (.au (ch.map Ex.pv))),(8,.pv (vI ch.length)),(9,.pv (vI ch.length)),(10,.pv (.bool false))],[],[],[]⟩)
 |0,i,hn,hi,m,hm=>by
   have:i=ch.length:=by omega
   subst this;rw[g547L0e];simp[g547B0,zi]
 |n+1,i,hn,hi,m,hm=>by
   have hi:i<ch.length:=(by omega);obtain⟨x,hx⟩:=aV hi;have k:=ih x (aR hx);have hb:=hB x (aR hx);have e:=Vx hN hB ih n (i+1) (by omega) (by omega) (max m (1+x.dp)) (by omega);rw[bj hx,List.map_cons];simp only[zi];generalize zi (max m (1+x.dp)) ((ch.drop (i+1)).map Ex.dp)=M at *;generalize hd:x.dp=d at *;rw[g547L0e]at e⊢;simp at k e;by_cases q:m<1+d
   ·have q1:(m:Int)<1+d:=(by omega);rw[Nat.max_eq_right (by omega)]at e;simp at e;simp (disch:=omega) [-getElem?_pos,g547B0,hx,hi,k,ah,q1];rw[g547L0e];simp[e]
   ·have q1:¬(m:Int)<1+d:=(by omega);rw[Nat.max_eq_left (by omega)]at e;simp (disch:=omega) [-getElem?_pos,g547B0,hx,hi,k,ah,q1];rw[g547L0e];simp[e]
theorem c547(e:Ex):e.Ok→e.sz≤100000000→(aC AP).p 547 [e.pv]=some [vI e.dp]:=by
 refine Ex.recC (p:=fun e=>e.Ok→e.sz≤100000000→(aC AP).p 547 [e.pv]=some [vI e.dp]) ?_ e;intro e ih ho hs;have k:=c414 ho;have hN:e.ch.length≤1000000:=by rw[Ex.dQ];have:=ho.k;have:=ho.a;omega
 rw[ae (af:=g547) rfl rfl (by decide)];rw[Ex.Ca];have e1:=Vx hN (fun x hx=>by have:=x.M7;have:=Ex.oF hx;omega) (fun x hx=>ih x hx (ho.c x hx) (by have:=Ex.oF hx;omega)) _ 0 rfl (by omega) 0 (by omega);rw[List.drop_zero]at e1;generalize zi 0 (e.ch.map Ex.dp)=M at *;rw[g547L0e]at e1;simp at k e1;simp[g547,k,g547L0e,e1]
def Ty.dp(t:Ty):Nat:=zi 0 (t.args.attach.map fun x=>x.1.dp)
termination_by SizeOf.sizeOf t
decreasing_by
 have:=_root_.List.sizeOf_lt_of_mem x.2;cases t;simp at *;omega
theorem Ty.Ca(t:Ty):t.dp=zi 0 (t.args.map Ty.dp):=by
 rw[Ty.dp,List.map_attach_eq_pmap,List.pmap_eq_map]
end Go.Ab.Lw
