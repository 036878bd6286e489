import Derived.Test.YtfhhognolpjikaaGreatLibB
/-
  The first error of a program, by the reference.
  Chapter 10's first examples.
  The law ScopePrograms: bindings are numbered.
  **The law ScopePrograms.**
-/
set_option linter.unusedVariables false
set_option linter.unusedSimpArgs false
set_option maxRecDepth 100000
set_option maxHeartbeats 8000000
namespace Go.Ab.Lw
open Ev
def NT (ds:List Dt) (bs:List Bd) (F:rW) (r:Option (bf×St)):Prop:=
 (F=(0,0)∧∃(names:List bV),r=some (.exit 0,⟨[(1,.az 1 0),(2,.az 2 0),(4,.own (names.map .str) 0),(5,.pv (vI bs.length)),(21,.pv (.bool false))],[(1,pC ds bs),(2,[.pv (vI 0),.pv (vI 0)])],[],[names.length]⟩)) ∨
 (F.1≠0∧∃(T:aM),r=some (.ret,⟨[(2,.az 2 0)],[(2,[.pv (vI F.1),.pv (vI F.2)])],[],T⟩))
theorem P' {ds:List Dt} (hS:Sm ds) (hc:∀d∈ds,Sm d.cons) {Q:Nat} (hQ:Q≤1000) {bs:List Bd} (hl:bs.length≤1000) (ho:∀b∈bs,kY Q b):∀(n i:Nat),bs.length-i=n→i≤bs.length→∀(names:List bV),names.length=i →
   NT ds bs (jl ds (bs.drop i) names) (cl AP g353L0 ⟨[(1,.az 1 0),(2,.az 2 0),(4,.own (names.map .str) 0),(5,.pv (vI i))],[(1,pC ds bs),(2,[.pv (vI 0),.pv (vI 0)])],[],[names.length]⟩)
 | 0,i,hn,hi,names,hnl=>by
   have:i=bs.length:=by omega
   subst this
   left
   refine ⟨by simp [jl],names,?_⟩
   rw [g353L0e]
   simp [g353B0,pC]
 | n+1,i,hn,hi,names,hnl=>by
   have hi:i<bs.length:=by omega
   obtain ⟨b,hb⟩:=bn hi
   have B:=ho b (bo hb)
   obtain ⟨s1,_⟩:=mL (t:=b.sig)
   have hsn:=B.sn
   have hnn:(cr b.sig).length≤90:=by
     have:=lK (l:=b.sig.d0) (out:=[])
     simp at this
     unfold cr;omega
   have k1:=c364 (s:=names) (by unfold Sm;omega) (y:=b.name)
   have k2:=c196 (S:=b.sig.d0) (by omega) B.so (fun y hy=>hy)
   have k3:=c186 hS (l:=cr b.sig) (by unfold Sm;omega) B.so B.sw
   have hsl:(f_ b names).length≤1001:=by unfold f_;split<;>(try simp)<;>omega
   have k5:=c366 hS hc Q B.sc B.h (f_ b names) (by omega)
   have b1:names.length*16≤140737488355328:=by omega
   have b2:(names.length+1)*16≤140737488355328:=by omega
   have hz0:∀{f:rW},f=b.body.bj ds (f_ b names)→f.1=0→f=(0,0):=fun h h0=>by rw [h] at h0 ⊢;exact nD h0
   rw [bC hb,jl]
   by_cases q1:b.name∈names
   · rw [if_pos q1]
     rw [decide_eq_true q1] at k1
     right
     refine ⟨by simp,[names.length],?_⟩
     have k6:=c365 (a:=6) (b:=b.pos)
     simp at k1 k6
     rw [g353L0e]
     simp (disch:=omega) [-getElem?_pos,g353B0,pC,hb,hi,k1,k6]
   · rw [if_neg q1]
     rw [decide_eq_false q1] at k1
     by_cases q2:la ds b=0
     · have q2':¬la ds b≠0:=fun h=>h q2
       rw [if_neg q2']
       by_cases q3:(b.body.bj ds (f_ b names)).1=0
       · have q3':¬(b.body.bj ds (f_ b names)).1≠0:=fun h=>h q3
         rw [if_neg q3']
         have ih:=P' hS hc hQ hl ho n (i+1) (by omega) (by omega) (names++[b.name]) (by simp;omega)
         have e1:cl AP g353L0 ⟨[(1,.az 1 0),(2,.az 2 0),(4,.own (names.map .str) 0),(5,.pv (vI i))],[(1,pC ds bs),(2,[.pv (vI 0),.pv (vI 0)])],[],[names.length]⟩=cl AP g353L0 ⟨[(1,.az 1 0),(2,.az 2 0),(4,.own ((names++[b.name]).map .str) 0),(5,.pv (vI (i+1:Nat)))],[(1,pC ds bs),(2,[.pv (vI 0),.pv (vI 0)])],[],[(names++[b.name]).length]⟩:=by
           have f0:=hz0 rfl q3
           rw [f0] at k5
           unfold f_ at k5
           unfold la at q2
           conv=>lhs;rw [g353L0e]
           simp at k1 k2 k3
           by_cases z:names=[]
           · subst z
             simp at k1
             cases hg:b.sg<;>cases hr:b.rc<;>simp [hg] at q2<;>simp [hr] at k5<;>simp (disch:=omega) [-getElem?_pos,g353B0,pC,hb,hi,k1,k2,k3,k5,hg,hr,q2,aq,b1,b2]<;>(rw [g353L0e];conv=>rhs;rw [g353L0e])<;>simp
           · cases hg:b.sg<;>cases hr:b.rc<;>simp [hg] at q2<;>simp [hr] at k5<;>simp (disch:=omega) [-getElem?_pos,g353B0,pC,hb,hi,k1,k2,k3,k5,hg,hr,q2,aq,b1,b2,z]<;>(rw [g353L0e];conv=>rhs;rw [g353L0e])<;>simp
         rw [e1]
         exact ih
       · rw [if_pos q3]
         right
         refine ⟨q3,?_⟩
         generalize hF:b.body.bj ds (f_ b names)=F at *
         unfold f_ at k5
         unfold la at q2
         simp at k1 k2 k3
         by_cases z:names=[]
         · subst z
           simp at k1
           cases hg:b.sg<;>cases hr:b.rc<;>simp [hg] at q2<;>simp [hr] at k5<;>(rw [g353L0e];simp (disch:=omega) [-getElem?_pos,g353B0,pC,hb,hi,k1,k2,k3,k5,hg,hr,q2,q3,aq,b1,b2])
         · cases hg:b.sg<;>cases hr:b.rc<;>simp [hg] at q2<;>simp [hr] at k5<;>(rw [g353L0e];simp (disch:=omega) [-getElem?_pos,g353B0,pC,hb,hi,k1,k2,k3,k5,hg,hr,q2,q3,aq,b1,b2,z])
     · rw [if_pos q2]
       right
       refine ⟨q2,[names.length],?_⟩
       have hg:b.sg=true:=by
         cases hg:b.sg with
         | true=>rfl
         | false=>simp [la,hg] at q2
       have k6:=c365 (a:=la ds b) (b:=b.pos)
       simp [la,hg] at q2 k6
       simp [la,hg]
       simp at k1 k2 k3
       rw [g353L0e]
       simp (disch:=omega) [-getElem?_pos,g353B0,pC,hb,hi,k1,k2,k3,k6,hg,q2]
theorem c353 {Q:Nat} (hQ:Q≤1000) {ds:List Dt} {bs:List Bd} (P:MI Q ds bs):(aN AP).p 353 [.agg [.aD (ds.map Dt.pv),.aD (bs.map Bd.pv)]]=some [fP (jg ds bs)]:=by
 have hs:=P.d.small
 have k1:=c189 hs.num hs.par hs.d7 hs.Q3 hs.Pw
 rw [au (af:=g353) rfl rfl (by decide)]
 unfold jg
 by_cases q:(check ds).1=0
 · have q':¬(check ds).1≠0:=fun h=>h q
   rw [if_neg q']
   rcases P' hs.num hs.d7 hQ P.len P.ok _ 0 rfl (by omega) [] rfl with ⟨h0,names,h⟩ | ⟨h0,T,h⟩
   · rw [List.drop_zero] at h0
     rw [h0]
     rw [g353L0e] at h
     simp [pC] at h
     simp [g353,k1,q,g353L0e,h]
   · rw [List.drop_zero] at h0 h
     generalize jl ds bs []=F at *
     rw [g353L0e] at h
     simp [pC] at h
     simp [g353,k1,q,g353L0e,h]
 · rw [if_pos q]
   simp [g353,k1,q]
theorem Qa {e f:Ex} (h:Lk e f):uY e→uY f:=by
 induction h with
 | @mk e f h1 h2 h3 h4 h5 h6 _ ih=>
   intro hs
   have ha:f.aX.length=e.aX.length:=by have:=congrArg List.length h6;simpa using this
   have hl:f.ch.length=e.ch.length:=by rw [Ex.fQ,Ex.fQ];omega
   have fw:∀y∈f.ch,uY y:=by
     intro y hy
     obtain ⟨i,hi⟩:=List.mem_iff_getElem?.1 hy
     have hlt:=(List.getElem?_eq_some_iff.1 hi).1
     obtain ⟨x,hx⟩:=bn (l:=e.ch) (i:=i) (by omega)
     exact ih i x y hx hi (hs.c (bo hx))
   refine ⟨.mk (by have:=hs.ok.k;omega) (by have:=hs.ok.a;omega) ?_ (by rw [h4];exact hs.ok.t) fun y hy=>(fw y hy).ok,.mk (by rw [h1,h5];exact hs.one.h) fun y hy=>(fw y hy).one,.mk (by rw [h4];exact hs.cw.h) fun y hy=>(fw y hy).cw⟩
   intro a hm
   have:(a.d7,a.vars)∈e.aX.map (fun a=>(a.d7,a.vars)):=by rw [←h6];exact List.mem_map_of_mem hm
   simp only [List.mem_map] at this
   obtain ⟨b,hb,hq⟩:=this
   have:=hs.ok.v b hb
   simp at hq
   rw [←hq.2];exact this
theorem QN {e f:Ex} (h:Lk e f):∀{n:Nat},e.tt n→f.tt n:=by
 induction h with
 | @mk e f h1 h2 h3 h4 h5 h6 _ ih=>
   intro n hn
   have ha:f.aX.length=e.aX.length:=by have:=congrArg List.length h6;simpa using this
   have hl:f.ch.length=e.ch.length:=by rw [Ex.fQ,Ex.fQ];omega
   cases hn with
   | mk hn=>
     refine .mk fun y hy=>?_
     obtain ⟨i,hi⟩:=List.mem_iff_getElem?.1 hy
     have hlt:=(List.getElem?_eq_some_iff.1 hi).1
     obtain ⟨x,hx⟩:=bn (l:=e.ch) (i:=i) (by omega)
     exact ih i x y hx hi (hn x (bo hx))
end Go.Ab.Lw
namespace Go.Ab.Lw
def Q6 (g:Nat) (x:List PV):Option (List PV):=match g,x with
 | 79,[]=>some [.aD (cG.map Dt.pv)]
 | _,_=>none
theorem NU:∀g x r,Q6 g x=some r→(aN AP).p g x=some r:=by
 intro g x r h
 unfold Q6 at h
 split at h
 · cases h;exact c79
 · cases h
theorem c401:(aN AP).p 401 []=some [.bool true]:=Fc.LP (k:=100) (n:=30) NU (by kernel_rfl)
end Go.Ab.Lw
namespace Go.Ab.Lw
open Ev
structure HF (b:Nat) (SS:List Bd→Sh):Prop where
 get:∀c,(SS c)[b]?=some (some (bj Bd.cells c))
 set:∀c c',(SS c).set b (some (bj Bd.cells c'))=SS c'
 quiet:∀c,bq (SS c)
theorem vm.hf {n:Nat} {ds:List Dt} {bs:List Bd} {b:Nat} {S:Sh} (h:vm n ds bs b S):∃SS,HF b SS∧S=SS bs:=by
 have hb:=(List.getElem?_eq_some_iff.1 h.Cs).1
 refine ⟨fun c=>S.set b (some (bj Bd.cells c)),⟨fun c=>by simp [hb],fun c c'=>by simp,fun c=>tK h.quiet bJ⟩,?_⟩
 have:=h.Cs
 obtain ⟨h1,h2⟩:=List.getElem?_eq_some_iff.1 this
 show S=S.set b (some (bj Bd.cells bs))
 rw [←h2,List.set_getElem_self]
theorem Qb {ds:List Dt} {b N:Nat} (hN:N≤4) {SS:List Bd→Sh} (H:HF b SS) {p3:PV}:∀(n i:Nat),N-i=n→i≤N→∀(c:List Bd) (k:Int),c.length=N→(∀x∈c,kY 200 x)→∃(c':List Bd) (k':Int),c'.length=N∧(∀x∈c',kY 200 x) ∧
   cl AP g399L0 ⟨[(3,.pv p3),(9,.az 9 0),(10,.pv (vI k)),(11,.pv (vI i))],[(9,[.pv (.aD (ds.map Dt.pv)),.bu b 20 N true])],SS c,[]⟩ =
     some (.exit 0,⟨[(3,.pv p3),(9,.az 9 0),(10,.pv (vI k')),(11,.pv (vI N)),(25,.pv (.bool false))],[(9,[.pv (.aD (ds.map Dt.pv)),.bu b 20 N true])],SS c',[]⟩)
 | 0,i,hn,hi,c,k,hc,ho=>by
   have:i=N:=by omega
   subst this
   refine ⟨c,k,hc,ho,?_⟩
   have q:=(H.quiet c).norm
   rw [g399L0e]
   simp [g399B0,q]
 | n+1,i,hn,hi,c,k,hc,ho=>by
   have hi:i<N:=by omega
   obtain ⟨x,hx⟩:=bn (l:=c) (i:=i) (by omega)
   have B:=ho x (bo hx)
   obtain ⟨y,k1,cy,hl⟩:=c402 200 B.sc.ok B.h k
   let x1:Bd:={ x with pos:=((i+1:Nat):Int) }
   let x2:Bd:=x1.put y
   have hx1:(c.set i x1)[i]?=some x1:=by rw [List.getElem?_set_self (by omega)]
   have B2:kY 200 x2:=⟨Qa hl B.sc,QN hl B.h,B.so,B.sw,B.sn⟩
   obtain ⟨c',k',q1,q2,ih⟩:=Qb (ds:=ds) hN H (p3:=p3) n (i+1) (by omega) (by omega) ((c.set i x1).set i x2) k1 (by simpa using hc) (by
     intro z hz
     rcases List.mem_or_eq_of_mem_set hz with hz | rfl
     · rcases List.mem_or_eq_of_mem_set hz with hz | rfl
       · exact ho z hz
       · exact ⟨B.sc,B.h,B.so,B.sw,B.sn⟩
     · exact B2)
   refine ⟨c',k',q1,q2,?_⟩
   have hset1:=rH dt hx (y:=x1) (o:=0) (p:=vI ((i+1:Nat):Int)) (by omega) (by simp [Bd.cells,x1])
   have hsub:=je dt hx1 (o:=9) (k:=11) (by omega)
   have kJ:(((x1.cells.drop 9).take 11).map AV.pv)=x.body.cl:=by
     have h2:=cQ.len x.body
     have h3:(x1.cells.drop 9).take 11=x.body.cells:=by
       simp only [Bd.cells,List.cons_append,List.nil_append,List.drop_succ_cons,List.drop_zero]
       exact List.take_of_length_le (by rw [h2];omega)
     rw [h3,Ex.lT]
   rw [kJ] at hsub
   have hset2:=iz dt hx1 (y:=x2) (o:=9) (vs:=y.cells) (by rw [cQ.len];omega) (nN x1 y)
   rw [Ex.lT] at hset2
   have l0:(bj Bd.cells c).length=N*20:=by rw [cK dt,hc]
   have l1:(bj Bd.cells (c.set i x1)).length=N*20:=by rw [cK dt];simp [hc]
   have m0:cR (bj Bd.cells c)=false:=db bJ
   have m1:cR (bj Bd.cells (c.set i x1))=false:=db bJ
   have g0:=H.get c
   have g1:=H.get (c.set i x1)
   have s0:=H.set c (c.set i x1)
   have s1:=H.set (c.set i x1) ((c.set i x1).set i x2)
   have n0:=(H.quiet c).norm
   have n1:=(H.quiet (c.set i x1)).norm
   have n2:=(H.quiet ((c.set i x1).set i x2)).norm
   have le0:i*20+0+1≤N*20:=by omega
   have le1:i*20+1≤N*20:=by omega
   have le2:i*20+9+11≤N*20:=by omega
   have hw:IntKind.i64.wrap ((i:Int)+1)=(i:Int)+1:=aq (by omega) (by omega)
   generalize SS ((c.set i x1).set i x2)=S2 at *
   generalize SS (c.set i x1)=S1 at *
   generalize SS c=S0 at *
   generalize bj Bd.cells ((c.set i x1).set i x2)=T2 at *
   generalize bj Bd.cells (c.set i x1)=T1 at *
   generalize bj Bd.cells c=T0 at *
   rw [g399L0e] at ih ⊢
   simp [n2] at ih
   simp at cy hset1
   simp [Ex.cl] at hsub hset2
   simp (disch:=omega) [-getElem?_pos,g399B0,hi,n0,n1,n2,g0,g1,s0,s1,l0,l1,m0,m1,le0,le1,le2,hset1,hsub,hset2,cy,hw]
   rw [g399L0e]
   simp [n2,ih]
end Go.Ab.Lw
namespace Go.Ab.Lw
open Ev
theorem rV {α:Type} {P:α→Prop} {l:List α} {i:Nat} {x:α} (h:∀y∈l,P y) (hx:P x):∀y∈l.set i x,P y:=by
 intro y hy
 rcases List.mem_or_eq_of_mem_set hy with hy | rfl
 · exact h y hy
 · exact hx
theorem Bd.JA (b:Bd):b.cells=[vI b.pos,.bool b.rc,.str b.name,.bool b.sg,vI b.sig.kind,.str b.sig.name,vI b.sig.id,vI b.sig.home,.aD (b.sig.args.map Ty.pv),.int .i64 b.body.kind,.int .i64 b.body.pos,.str b.body.name,.int .i64 b.body.num,.aD (b.body.kids.map Ex.pv),.aD (b.body.aX.map Ar.pv),.int .i64 b.body.ty.kind,.str b.body.ty.name,.int .i64 b.body.ty.id,.int .i64 b.body.ty.home,.aD (b.body.ty.args.map Ty.pv)]:=by
 rw [Bd.cells,Ex.bG];rfl
theorem pP.tail {ds:List Dt} (h:pP ds):pP (ds.drop 1):=⟨fun d hd=>h.all d (List.mem_of_mem_drop hd),by have:=h.len;simp;omega⟩
theorem NV (bits:Int) (L:List Int) (way spoil:Int):(aN AP).p 399 [vI bits,.aD (L.map vI),vI way,vI spoil]=some [.bool true]:=by
 have c0:=c401
 have c1:=c15 (l:=L)
 rw [au (af:=g399) rfl rfl (by decide)]
 by_cases hL:L.length≤60
 · simp [hL] at c1
   obtain ⟨ds,bs,b,S,H,e1⟩:=c310i (L:=L) (by omega) bits way
   obtain ⟨SS,HS,rfl⟩:=H.hf
   have hN:=H.len
   have hp:=H.pos
   obtain ⟨c,k,hc,ho,e2⟩:=Qb (ds:=ds) hN HS (p3:=vI spoil) _ 0 rfl (by omega) bs 100 rfl H.ok
   have hD:=H.d
   have hok:=H.ok
   obtain ⟨r,k1,r0,r1⟩:=c26 (n:=spoil) (m:=6) (by omega) (by omega)
   have nb:=(HS.quiet bs).norm
   have sb:=(HS.quiet bs).shift
   clear hok
   generalize hN':bs.length=N at *
   have n0:=(HS.quiet c).norm
   have s0:=(HS.quiet c).shift
   have g0:=HS.get c
   have l0:(bj Bd.cells c).length=N*20:=by rw [cK dt,hc]
   have m0:cR (bj Bd.cells c)=false:=db bJ
   have lst0:=vk (l:=c)
   rw [hc] at lst0
   have hf:∀S:Sh,c_ S (.az 9 0)=none:=fun _=>rfl
   rw [g399L0e] at e2
   simp [nb] at e2
   try simp at e1 k1
   have plain:∀(ds':List Dt) (c':List Bd),pP ds'→c'.length≤1000→(∀x∈c',kY 200 x)→(aN AP).p 403 [.agg [.aD (ds'.map Dt.pv),.aD (c'.map Bd.pv)]]=some [fP (jg ds' c')]∧(aN AP).p 353 [.agg [.aD (ds'.map Dt.pv),.aD (c'.map Bd.pv)]]=some [fP (jg ds' c')]:=fun ds' c' hd hl h=>⟨c403 (by omega) ⟨hd,hl,h⟩,c353 (by omega) ⟨hd,hl,h⟩⟩
   obtain ⟨P1,P2⟩:=plain ds c hD (by omega) ho
   have n20:∀k:Nat,k≤N→k*20≤N*20:=fun k h=>Nat.mul_le_mul_right 20 h
   by_cases hN1:1<N
   · have hNi:(1:Int)<N:=by omega
     have w3:3≤N*20:=by omega
     have w23:23≤N*20:=by omega
     have w40:40≤N*20:=by omega
     by_cases ra:r=1
     · obtain ⟨x0,hx0⟩:=bn (l:=c) (i:=0) (by omega)
       obtain ⟨x1,hx1⟩:=bn (l:=c) (i:=1) (by omega)
       have B1:=ho x1 (bo hx1)
       have hget:(bj Bd.cells c)[2]?=some (.pv (.str x0.name)):=K8 dt hx0 (o:=2) (by omega) (p:=.str x0.name) (by simp [Bd.cells])
       have hset:=rH dt hx1 (y:={ x1 with name:=x0.name }) (o:=2) (p:=.str x0.name) (by omega) (by simp [Bd.cells])
       have ho2:=rV (i:=1) ho (x:={ x1 with name:=x0.name }) ⟨B1.sc,B1.h,B1.so,B1.sw,B1.sn⟩
       have hc2:(c.set 1 { x1 with name:=x0.name }).length=N:=by simpa using hc
       have s1:=HS.set c (c.set 1 { x1 with name:=x0.name })
       generalize c.set 1 { x1 with name:=x0.name }=c2 at *
       obtain ⟨P1,P2⟩:=plain ds c2 hD (by omega) ho2
       have n1:=(HS.quiet c2).norm
       have sh1:=(HS.quiet c2).shift
       have g1:=HS.get c2
       have l1:(bj Bd.cells c2).length=N*20:=by rw [cK dt,hc2]
       have lst1:=vk (l:=c2)
       rw [hc2] at lst1
       have le1:2+1≤N*20:=by omega
       have le2:22+1≤N*20:=by omega
       generalize jg ds c2=F at *
       generalize SS c2=S1 at *
       generalize SS c=S0 at *
       generalize SS bs=Sb at *
       generalize bj Bd.cells c2=T1 at *
       generalize bj Bd.cells c=T0 at *
       subst ra
       simp at P1 P2 lst1 hset
       simp (config:={ maxSteps:=2000000 }) (disch:=omega) [-getElem?_pos,g399,c0,c1,e1,nb,sb,g399L0e,e2,n0,s0,hN1,hNi,hp,w3,w23,k1,hf,g0,l0,m0,cf,hget,hset,s1,n1,sh1,g1,l1,lst1,P1,P2,cA,gV]
     · by_cases rb:r=2
       · obtain ⟨x0,hx0⟩:=bn (l:=c) (i:=0) (by omega)
         obtain ⟨x1,hx1⟩:=bn (l:=c) (i:=1) (by omega)
         have cell:∀x:Bd,(((x.cells.drop 0).take 20).map AV.pv)=x.cells.map AV.pv:=fun x=>by rw [List.drop_zero,List.take_of_length_le (by rw [dt.len];omega)]
         have hs0:=je dt hx0 (o:=0) (k:=20) (by omega)
         have hs1:=je dt hx1 (o:=0) (k:=20) (by omega)
         rw [cell] at hs0 hs1
         have whole:∀x y:Bd,y.cells=x.cells.take 0++y.cells++x.cells.drop (0+y.cells.length):=fun x y=>by
           have h1:=dt.len x
           have h2:=dt.len y
           simp [h1,h2]
         have hset1:=iz dt hx0 (y:=x1) (o:=0) (vs:=x1.cells) (by rw [dt.len];omega) (whole x0 x1)
         have hx1':(c.set 0 x1)[1]?=some x1:=by rw [List.getElem?_set_ne (by omega),hx1]
         have hset2:=iz dt hx1' (y:=x0) (o:=0) (vs:=x0.cells) (by rw [dt.len];omega) (whole x1 x0)
         have ho2:=rV (i:=1) (rV (i:=0) ho (ho x1 (bo hx1))) (ho x0 (bo hx0))
         have hc1:(c.set 0 x1).length=N:=by simpa using hc
         have hc2:((c.set 0 x1).set 1 x0).length=N:=by simpa using hc
         have s1:=HS.set c (c.set 0 x1)
         have s2:=HS.set (c.set 0 x1) ((c.set 0 x1).set 1 x0)
         generalize (c.set 0 x1).set 1 x0=c2 at *
         generalize c.set 0 x1=c3 at *
         obtain ⟨P1,P2⟩:=plain ds c2 hD (by omega) ho2
         have n1:=(HS.quiet c2).norm
         have sh1:=(HS.quiet c2).shift
         have g1:=HS.get c2
         have g3:=HS.get c3
         have l1:(bj Bd.cells c2).length=N*20:=by rw [cK dt,hc2]
         have l3:(bj Bd.cells c3).length=N*20:=by rw [cK dt,hc1]
         have m3:cR (bj Bd.cells c3)=false:=db bJ
         have lst1:=vk (l:=c2)
         rw [hc2] at lst1
         have le1:20≤N*20:=by omega
         have le2:20+20≤N*20:=by omega
         generalize jg ds c2=F at *
         generalize SS c2=S1 at *
         generalize SS c3=S3 at *
         generalize SS c=S0 at *
         generalize SS bs=Sb at *
         generalize bj Bd.cells c2=T1 at *
         generalize bj Bd.cells c3=T3 at *
         generalize bj Bd.cells c=T0 at *
         subst rb
         simp at P1 P2 lst1
         simp [Bd.JA] at hs0 hs1 hset1 hset2
         simp (config:={ maxSteps:=2000000 }) (disch:=omega) [-getElem?_pos,g399,c0,c1,e1,nb,sb,g399L0e,e2,n0,s0,hN1,hNi,hp,w40,k1,hf,g0,l0,m0,hs0,hs1,hset1,hset2,s1,s2,n1,sh1,g1,g3,l1,l3,m3,le1,le2,lst1,P1,P2,cA,gV]
       · by_cases r3:r=3
         · by_cases z:ds=[]
           · subst z
             simp at e1 e2
             generalize jg [] c=F at *
             generalize SS c=S0 at *
             generalize SS bs=Sb at *
             generalize bj Bd.cells c=T0 at *
             simp at P1 P2 lst0
             simp (config:={ maxSteps:=2000000 }) (disch:=omega) [-getElem?_pos,g399,c0,c1,e1,nb,sb,g399L0e,e2,n0,s0,hN1,hNi,hp,k1,ra,rb,r3,hf,g0,l0,m0,lst0,P1,P2,cA,gV]
           · obtain ⟨P1',P2'⟩:=plain (ds.drop 1) c hD.tail (by omega) ho
             have z0:0<ds.length:=List.length_pos_iff.2 z
             have hsl:=Ju (sz:=4) (l:=ds.map Dt.pv) (by simp;omega) (Iw.head ds)
             generalize jg (ds.drop 1) c=F at *
             generalize SS c=S0 at *
             generalize SS bs=Sb at *
             generalize bj Bd.cells c=T0 at *
             subst r3
             simp at P1' P2' lst0 hsl
             simp (config:={ maxSteps:=2000000 }) (disch:=omega) [-getElem?_pos,g399,c0,c1,e1,nb,sb,g399L0e,e2,n0,s0,hN1,hNi,hp,k1,hf,g0,l0,m0,lst0,hsl,z,P1',P2',cA,gV]
         · generalize jg ds c=F at *
           generalize SS c=S0 at *
           generalize SS bs=Sb at *
           generalize bj Bd.cells c=T0 at *
           simp at P1 P2 lst0
           simp (config:={ maxSteps:=2000000 }) (disch:=omega) [-getElem?_pos,g399,c0,c1,e1,nb,sb,g399L0e,e2,n0,s0,hN1,hNi,hp,k1,ra,rb,r3,hf,g0,l0,m0,lst0,P1,P2,cA,gV]
   · have hNi:¬(1:Int)<N:=by omega
     by_cases r3:r=3
     · by_cases z:ds=[]
       · subst z
         simp at e1 e2
         generalize jg [] c=F at *
         generalize SS c=S0 at *
         generalize SS bs=Sb at *
         generalize bj Bd.cells c=T0 at *
         simp at P1 P2 lst0
         simp (config:={ maxSteps:=2000000 }) (disch:=omega) [-getElem?_pos,g399,c0,c1,e1,nb,sb,g399L0e,e2,n0,s0,hN1,hNi,hp,k1,r3,hf,g0,l0,m0,lst0,P1,P2,cA,gV]
       · obtain ⟨P1',P2'⟩:=plain (ds.drop 1) c hD.tail (by omega) ho
         have z0:0<ds.length:=List.length_pos_iff.2 z
         have hsl:=Ju (sz:=4) (l:=ds.map Dt.pv) (by simp;omega) (Iw.head ds)
         generalize jg (ds.drop 1) c=F at *
         generalize SS c=S0 at *
         generalize SS bs=Sb at *
         generalize bj Bd.cells c=T0 at *
         subst r3
         simp at P1' P2' lst0 hsl
         simp (config:={ maxSteps:=2000000 }) (disch:=omega) [-getElem?_pos,g399,c0,c1,e1,nb,sb,g399L0e,e2,n0,s0,hN1,hNi,hp,k1,hf,g0,l0,m0,lst0,hsl,z,P1',P2',cA,gV]
     · generalize jg ds c=F at *
       generalize SS c=S0 at *
       generalize SS bs=Sb at *
       generalize bj Bd.cells c=T0 at *
       simp at P1 P2 lst0
       simp (config:={ maxSteps:=2000000 }) (disch:=omega) [-getElem?_pos,g399,c0,c1,e1,nb,sb,g399L0e,e2,n0,s0,hN1,hNi,hp,k1,r3,hf,g0,l0,m0,lst0,P1,P2,cA,gV]
 · simp [hL] at c1
   simp [g399,c0,c1]
end Go.Ab.Lw
