import Derived.Test.YtjegoeahhcieaaaGreatDoorLibB
import Derived.KernelRfl
/-
  The whole inference of a program.
  The report of a program: the loops.
  The report of a program.
  Chapter 24: the sanity check, by kernel runs.
  The maker of programs, by itself.
  Chapter 24: the variables of a hole; the law HolesOwn.
  Chapter 24: the law HolesOwn.
  Signatures: written type variables become rigid constants.
  ia forms of types.
  ia forms of types and reports.
  ia reports, and equal reports.
  The report of a made program.
  Groups of aH: what is asked for, and the variables of a hole by the reference.
  Groups of aH, by the program.
  Groups of aH, by the program: the loops over pairs.
  Groups of aH, by the program: the outer loop.
  Groups of aH, by the program: the answer. By the reference: the loops over pairs.
  Groups of aH, by the reference.
  The law HolesFreeze.
  The law HolesTogether.
  The law HolesTogether: the whole.
-/
set_option linter.unusedVariables false
set_option linter.unusedSimpArgs false
set_option linter.unnecessarySimpa false
set_option maxRecDepth 100000
set_option maxHeartbeats 8000000
namespace Go.Ab.Lw
open Ev
theorem w0{ds:List Dt}:∀{bs:List Bd} {names:List bX},(lQ ds bs names).1=0→∀b∈bs,∃nm,(b.body.cr ds nm).1=0
 |[],_,_=>by simp
 |b::r,names,h=>by
   simp only[lQ]at h;split at h
   ·simp at h
   · split at h
     ·rename_i q;exact absurd h q
     · split at h
       ·rename_i q;exact absurd h q
       · rename_i q;intro x hx;simp only[List.mem_cons]at hx;rcases hx with rfl|hx
         ·exact⟨_,by simpa using q⟩
         ·exact w0 h x hx
theorem Tf{ds:List Dt}(hD:pB ds){H:Prop}{bs:List Bd}(ho:∀b∈bs,rJ 100 b)(hH:H→∀b∈bs,BR 11 b.body)(h:(wW ds bs).1=0):∀b∈bs,WN ds H b:=by
 have h1:(lQ ds bs []).1=0:=by
   unfold wW at h;split at h
   ·rename_i q;exact absurd h q
   ·exact h
 intro b hb;obtain⟨nm,hf⟩:=w0 h1 b hb;have o:=ho b hb;exact⟨o.so,o.st,o.sn,PS hD o.tx o.sc.ok (S_ o.h hf) fun q=>hH q b hb⟩
def Whole(ds:List Dt)(H:Prop)(N:Nat)(r:Option (List AV×Sh×aG)):Prop:=
 (∃F:Int×Int,F.1≠0∧r=some ([.fw,.own [] 0,.own [] 1,.agg [.pv (vI F.1),.pv (vI F.2)]],[],[0,0])) ∨
 ∃(m:Mc) (n:Nat) (cs:List Sc) (dv:List Bv) (env:List En),r=some ([.aM 0 0,.own (cs.map As.pv) 0,.own (dv.map Bv.pv) 1,.agg [.pv (vI 0),.pv (vI 0)]],[some (m.cx 2)],[cs.length,dv.length,m.rc.length,m.hd.length])∧cs.length=N∧dv.length=N∧Room ds m n 0 0 0 env∧vw H m n env cs
theorem c328{ds:List Dt}(hD:pB ds){H:Prop}{bs:List Bd}(hl:bs.length≤4)(ho:∀b∈bs,rJ 100 b)(hH:H→∀b∈bs,BR 11 b.body):Whole ds H bs.length ((aF AP).i 328 [.pv (.agg [.aw (ds.map Dt.pv),.aw (bs.map Bd.pv)])] [] []):=by
 have k1:=c353 (Q:=100) (by omega) (ds:=ds) (bs:=bs) ⟨hD,by omega,ho⟩;simp[fP]at k1;by_cases h0:(wW ds bs).1=0
 · have B:=Tf hD ho hH h0
   have hsz:pG bs≤2800:=by
     have:=P2 (l:=bs) fun b hb=>by have:=(ho b hb).w;omega
     have:=Nat.mul_le_mul_right 700 hl;omega
   let m0:Mc:=⟨ds,0,sa 0,0,0,[],[]⟩
   have R0:Room ds m0 0 (201*pG (bs.drop 0)+bs.length) (pG (bs.drop 0)) (20*pG (bs.drop 0)+2*bs.length) []:=by
     rw[List.drop_zero];exact⟨sb 0,by omega,by simp[m0];omega,by simp[m0];omega,by simp[m0],by simp,by simp;omega,rfl⟩
   have D0:vw H m0 0 [] []:=⟨by simp,by simp,rfl,by simp[m0]⟩;have L:=VL (H:=H) (by omega) B _ 0 rfl (by omega) true [] (fun _=>rfl) [] [] rfl rfl m0 0 R0 D0;rcases L with⟨m',T,j,he,L,t1,t2⟩|⟨m',n',z',env',cs',dv',L,q1,q2,q3,q4⟩
   ·refine .inl ⟨(m'.err,m'.pos),he,?_⟩;unfold jG at L;rw[g328L0e]at L;simp[rK,rL,pC,Mc.cx,m0,sa]at L;rw[aB (af:=g328) rfl (by simp[g328])];simp[g328,k1,h0,g328L0e,L,t1,t2,Mc.cx]
   ·refine .inr ⟨m',n',cs',dv',env',?_,q1,q2,q3,q4⟩;unfold jG at L;rw[g328L0e]at L;rw[aB (af:=g328) rfl (by simp[g328])];cases z'<;>simp[rK,rL,pC,Mc.cx,m0,sa]at L<;>simp[g328,k1,h0,g328L0e,L,Mc.cx]
 ·refine .inl ⟨wW ds bs,h0,?_⟩;rw[aB (af:=g328) rfl (by simp[g328])];simp[g328,k1,h0]
structure Rp where
 types:List Sc
 aH:List Ho
 homes:List Int
def Rp.pv(r:Rp):PV:=.agg [.aw (r.types.map As.pv),.aw (r.aH.map Ho.pv),.aw (r.homes.map vI)]
@[simp] theorem Rp.jD(r:Rp):r.pv=.agg [.aw (r.types.map As.pv),.aw (r.aH.map Ho.pv),.aw (r.homes.map vI)]:=rfl
def zR(k:Nat):List AV:=[.own [] k,.own [] (k+1),.own [] (k+2)]
def z2:List AV:=[.pv (vI 0),.pv (vI 0)]
def yS(r:Option (aU×St)):Prop:=∃(p:Int) (S:Sh) (T:aG),r=some (.ret,⟨[(2,.au 2 0),(3,.au 3 0)],[(2,[.cY [],.cY [],.cY []]),(3,[.pv (vI 15),.pv (vI p)])],S,T⟩)
def Xf(m:Mc)(t:Ty):Prop:=∃r:Nat,r≤200∧Tr m.s.sl t r
theorem Ra{ds:List Dt}{bs:List Bd}{m:Mc}{n:Nat}(I:r_ n m.s)(hn:n≤1000000){cs:List Sc}(hl:cs.length≤1000)(hb:cs.length=bs.length)(hO:∀c∈cs,c.ty.Ok):∀(k i:Nat),cs.length-i=k→i≤cs.length →
   yS (cl AP g308L0 ⟨[(1,.au 1 0),(2,.au 2 0),(3,.au 3 0),(4,.aM 0 0),(5,.own (cs.map As.pv) 0),(8,.pv (vI i))],[(1,pC ds bs),(2,zR 1),(3,z2)],[some (m.cx 4)],[cs.length,0,0,0,m.rc.length,m.hd.length]⟩) ∨
   cl AP g308L0 ⟨[(1,.au 1 0),(2,.au 2 0),(3,.au 3 0),(4,.aM 0 0),(5,.own (cs.map As.pv) 0),(8,.pv (vI i))],[(1,pC ds bs),(2,zR 1),(3,z2)],[some (m.cx 4)],[cs.length,0,0,0,m.rc.length,m.hd.length]⟩ =
     some (.exit 0,⟨[(1,.au 1 0),(2,.au 2 0),(3,.au 3 0),(4,.aM 0 0),(5,.own (cs.map As.pv) 0),(8,.pv (vI cs.length)),(31,.pv (.bool false))],[(1,pC ds bs),(2,zR 1),(3,z2)],[some (m.cx 4)],[cs.length,0,0,0,m.rc.length,m.hd.length]⟩)∧∀c∈cs.drop i,Xf m c.ty
 |0,i,hk,hi=>by
   have:i=cs.length:=by omega
   subst this;refine .inr ⟨?_,by simp⟩;rw[g308L0e];simp[g308B0,pC,zR,z2,Mc.cx]
 |k+1,i,hk,hi=>by
   have hi:i<cs.length:=(by omega);have hi2:i<bs.length:=(by omega);obtain⟨c,hx⟩:=aP hi;obtain⟨x,hy⟩:=aP hi2;obtain⟨b,e,hT⟩:=c329 I hn (hO c (aQ hx));unfold kg at e;simp[Mc.sh,Mc.tk,Mc.cells]at e;cases b with
   |true=>
     refine .inl ?_;unfold yS;rw[g308L0e];simp (disch:=omega) [-getElem?_pos,g308B0,pC,zR,z2,Mc.cx,hi,hi2,hx,hy,e]
   |false=>
     have ih:=Ra (ds:=ds) (bs:=bs) I hn hl hb hO k (i+1) (by omega) (by omega)
     have e1:cl AP g308L0 ⟨[(1,.au 1 0),(2,.au 2 0),(3,.au 3 0),(4,.aM 0 0),(5,.own (cs.map As.pv) 0),(8,.pv (vI i))],[(1,pC ds bs),(2,zR 1),(3,z2)],[some (m.cx 4)],[cs.length,0,0,0,m.rc.length,m.hd.length]⟩=cl AP g308L0 ⟨[(1,.au 1 0),(2,.au 2 0),(3,.au 3 0),(4,.aM 0 0),(5,.own (cs.map As.pv) 0),(8,.pv (vI (i+1:Nat)))],[(1,pC ds bs),(2,zR 1),(3,z2)],[some (m.cx 4)],[cs.length,0,0,0,m.rc.length,m.hd.length]⟩:=by
       conv=>lhs;rw[g308L0e]
       simp (disch:=omega) [-getElem?_pos,g308B0,pC,zR,z2,Mc.cx,hi,hx,e,aq];conv=>lhs;rw[g308L0e]
       conv=>rhs;rw[g308L0e]
       simp
     rw[e1];refine ih.imp_right fun h=>⟨h.1,?_⟩;rw[bl hx];intro y hy;simp only[List.mem_cons]at hy;rcases hy with rfl|hy
     ·exact hT rfl
     ·exact h.2 y hy
theorem Rb{m:Mc}{n:Nat}(I:r_ n m.s)(hn:n≤1000000){cs:List Sc}{hs:List Ho}(hl:hs.length≤100000)(hR:∀h∈hs,l7 n h):∀(k i:Nat),hs.length-i=k→i≤hs.length →
   yS (cl AP g308L1 ⟨[(2,.au 2 0),(3,.au 3 0),(4,.aM 0 0),(5,.own (cs.map As.pv) 0),(9,.own (hs.map Ho.pv) 1),(10,.pv (vI i))],[(2,zR 2),(3,z2)],[some (m.cx 5)],[cs.length,hs.length,0,0,0,m.rc.length,m.hd.length]⟩) ∨
   cl AP g308L1 ⟨[(2,.au 2 0),(3,.au 3 0),(4,.aM 0 0),(5,.own (cs.map As.pv) 0),(9,.own (hs.map Ho.pv) 1),(10,.pv (vI i))],[(2,zR 2),(3,z2)],[some (m.cx 5)],[cs.length,hs.length,0,0,0,m.rc.length,m.hd.length]⟩ =
     some (.exit 2,⟨[(2,.au 2 0),(3,.au 3 0),(4,.aM 0 0),(5,.own (cs.map As.pv) 0),(9,.own (hs.map Ho.pv) 1),(10,.pv (vI hs.length)),(54,.pv (.bool false))],[(2,zR 2),(3,z2)],[some (m.cx 5)],[cs.length,hs.length,0,0,0,m.rc.length,m.hd.length]⟩)∧∀h∈hs.drop i,∀u∈aW [h],Xf m u
 |0,i,hk,hi=>by
   have:i=hs.length:=by omega
   subst this;refine .inr ⟨?_,by simp⟩;rw[g308L1e];simp[g308B1,zR,z2,Mc.cx]
 |k+1,i,hk,hi=>by
   have hi:i<hs.length:=(by omega);obtain⟨h,hx⟩:=aP hi;obtain⟨b,e,hT⟩:=c331 I hn (hR h (aQ hx));unfold kg at e;simp[Mc.sh,Mc.tk,Mc.cells]at e;cases b with
   |true=>
     refine .inl ?_;unfold yS;rw[g308L1e];simp (disch:=omega) [-getElem?_pos,g308B1,zR,z2,Mc.cx,hi,hx,e]
   |false=>
     have ih:=Rb (cs:=cs) I hn hl hR k (i+1) (by omega) (by omega)
     have e1:cl AP g308L1 ⟨[(2,.au 2 0),(3,.au 3 0),(4,.aM 0 0),(5,.own (cs.map As.pv) 0),(9,.own (hs.map Ho.pv) 1),(10,.pv (vI i))],[(2,zR 2),(3,z2)],[some (m.cx 5)],[cs.length,hs.length,0,0,0,m.rc.length,m.hd.length]⟩=cl AP g308L1 ⟨[(2,.au 2 0),(3,.au 3 0),(4,.aM 0 0),(5,.own (cs.map As.pv) 0),(9,.own (hs.map Ho.pv) 1),(10,.pv (vI (i+1:Nat)))],[(2,zR 2),(3,z2)],[some (m.cx 5)],[cs.length,hs.length,0,0,0,m.rc.length,m.hd.length]⟩:=by
       conv=>lhs;rw[g308L1e]
       simp (disch:=omega) [-getElem?_pos,g308B1,zR,z2,Mc.cx,hi,hx,e,aq];conv=>lhs;rw[g308L1e]
       conv=>rhs;rw[g308L1e]
       simp
     rw[e1];refine ih.imp_right fun h=>⟨h.1,?_⟩;rw[bl hx];intro y hy;simp only[List.mem_cons]at hy;rcases hy with rfl|hy
     ·exact hT rfl
     ·exact h.2 y hy
noncomputable def yT(m:Mc)(v:List Int)(c:Sc):Sc:=⟨c.id,vA m v c.ty⟩
theorem Rc{m:Mc}{v:List Int}(hv:v.length≤1000000){cs:List Sc}{hs:List Ho}(hl:cs.length≤1000)(hr:∀c∈cs,Fs m.s c.ty (B9 m.s c.ty)):∀(k i:Nat),cs.length-i=k→i≤cs.length→∀acc:List Sc,acc.length=i →
   cl AP g308L2 ⟨[(2,.au 2 0),(3,.au 3 0),(4,.aM 0 0),(5,.own (cs.map As.pv) 0),(9,.own (hs.map Ho.pv) 1),(11,.own ((cH 0 v).map As.pv) 2),(12,.au 12 0),(13,.pv (vI i))],[(2,zR 3),(3,z2),(12,[.own (acc.map As.pv) 6,.own [] 7,.own [] 8])],[some (m.cx 9)],[cs.length,hs.length,v.length,0,0,0,acc.length,0,0,m.rc.length,m.hd.length]⟩ =
     some (.exit 4,⟨[(2,.au 2 0),(3,.au 3 0),(4,.aM 0 0),(5,.own (cs.map As.pv) 0),(9,.own (hs.map Ho.pv) 1),(11,.own ((cH 0 v).map As.pv) 2),(12,.au 12 0),(13,.pv (vI cs.length)),(77,.pv (.bool false))],[(2,zR 3),(3,z2),(12,[.own ((acc++(cs.drop i).map (yT m v)).map As.pv) 6,.own [] 7,.own [] 8])],[some (m.cx 9)],[cs.length,hs.length,v.length,0,0,0,cs.length,0,0,m.rc.length,m.hd.length]⟩)
 |0,i,hk,hi,acc,ha=>by
   have:i=cs.length:=by omega
   subst this;have cln:=fc (i:=0) (l:=v);rw[g308L2e];simp[g308B2,zR,z2,Mc.cx,ha,cln]
 |k+1,i,hk,hi,acc,ha=>by
   have hi:i<cs.length:=(by omega);obtain⟨c,hx⟩:=aP hi;have ih:=Rc hv (hs:=hs) hl hr k (i+1) (by omega) (by omega) (acc++[yT m v c]) (by simp;omega);have e:=c333 hv (hr c (aQ hx));have hb:(acc.length+1)*72≤140737488355328:=(by omega);have cln:=fc (i:=0) (l:=v);rw[bl hx];unfold kg at e;rw[g308L2e]at ih⊢;simp[Mc.sh,Mc.tk,Mc.cells,N0]at e;simp[zR,z2,Mc.cx,yT,cln]at ih;simp (disch:=omega) [-getElem?_pos,g308B2,zR,z2,Mc.cx,hi,hx,e,aq,hb,cln,yT];rw[g308L2e];simp[ih,cln]
theorem Rd{m:Mc}{v:List Int}(hv:v.length≤1000000){cs:List Sc}{hs:List Ho}(hl:hs.length≤100000)(hL:∀h∈hs,h.ctx.length≤1000000)(hr:∀h∈hs,(∀x∈h.ctx,Fs m.s x.sc.ty (B9 m.s x.sc.ty))∧Fs m.s h.goal (B9 m.s h.goal)):∀(k i:Nat),hs.length-i=k→i≤hs.length→∀acc:List Ho,acc.length=i →
   cl AP g308L3 ⟨[(2,.au 2 0),(3,.au 3 0),(4,.aM 0 0),(9,.own (hs.map Ho.pv) 0),(11,.own ((cH 0 v).map As.pv) 1),(12,.au 12 0),(14,.pv (vI i))],[(2,zR 2),(3,z2),(12,[.own (cs.map As.pv) 5,.own (acc.map Ho.pv) 6,.own [] 7])],[some (m.cx 8)],[hs.length,v.length,0,0,0,cs.length,acc.length,0,m.rc.length,m.hd.length]⟩ =
     some (.exit 6,⟨[(2,.au 2 0),(3,.au 3 0),(4,.aM 0 0),(9,.own (hs.map Ho.pv) 0),(11,.own ((cH 0 v).map As.pv) 1),(12,.au 12 0),(14,.pv (vI hs.length)),(102,.pv (.bool false))],[(2,zR 2),(3,z2),(12,[.own (cs.map As.pv) 5,.own ((acc++(hs.drop i).map (pH m v)).map Ho.pv) 6,.own [] 7])],[some (m.cx 8)],[hs.length,v.length,0,0,0,cs.length,hs.length,0,m.rc.length,m.hd.length]⟩)
 |0,i,hk,hi,acc,ha=>by
   have:i=hs.length:=by omega
   subst this;have cln:=fc (i:=0) (l:=v);rw[g308L3e];simp[g308B3,zR,z2,Mc.cx,ha,cln]
 |k+1,i,hk,hi,acc,ha=>by
   have hi:i<hs.length:=(by omega);obtain⟨h,hx⟩:=aP hi;have ih:=Rd hv (cs:=cs) hl hL hr k (i+1) (by omega) (by omega) (acc++[pH m v h]) (by simp;omega);have e:=c334 hv (hL h (aQ hx)) (hr h (aQ hx)).1 (hr h (aQ hx)).2;have hb:(acc.length+1)*104≤140737488355328:=(by omega);have cln:=fc (i:=0) (l:=v);rw[bl hx,List.map_cons];unfold kg at e;rw[g308L3e]at ih⊢;simp[Mc.sh,Mc.tk,Mc.cells,uF]at e;simp[zR,z2,Mc.cx,cln]at ih;generalize pH m v h=w at *;simp (disch:=omega) [-getElem?_pos,g308B3,zR,z2,Mc.cx,hi,hx,e,aq,hb,cln];rw[g308L3e];simp[ih,cln]
theorem Re{m:Mc}{n:Nat}(I:r_ n m.s)(hn:n≤1000000){v:List Int}(hv:v.length≤1000000)(hvn:∀w∈v,w∈dq n){cs:List Sc}{hs:List Ho}:∀(k i:Nat),v.length-i=k→i≤v.length→∀acc:List Int,acc.length=i→∃r:List Int,r.length=v.length ∧
   cl AP g308L4 ⟨[(2,.au 2 0),(3,.au 3 0),(4,.aM 0 0),(11,.own ((cH 0 v).map As.pv) 0),(12,.au 12 0),(15,.pv (vI i))],[(2,zR 1),(3,z2),(12,[.own (cs.map As.pv) 4,.own (hs.map Ho.pv) 5,.own (acc.map vI) 6])],[some (m.cx 7)],[v.length,0,0,0,cs.length,hs.length,acc.length,m.rc.length,m.hd.length]⟩ =
     some (.exit 8,⟨[(2,.au 2 0),(3,.au 3 0),(4,.aM 0 0),(11,.own ((cH 0 v).map As.pv) 0),(12,.au 12 0),(15,.pv (vI v.length)),(120,.pv (.bool false))],[(2,zR 1),(3,z2),(12,[.own (cs.map As.pv) 4,.own (hs.map Ho.pv) 5,.own (r.map vI) 6])],[some (m.cx 7)],[v.length,0,0,0,cs.length,hs.length,v.length,m.rc.length,m.hd.length]⟩)
 |0,i,hk,hi,acc,ha=>by
   have:i=v.length:=by omega
   subst this;have cln:=fc (i:=0) (l:=v);refine⟨acc,ha,?_⟩;rw[g308L4e];simp[g308B4,zR,z2,Mc.cx,ha,cln]
 |k+1,i,hk,hi,acc,ha=>by
   have hi:i<v.length:=(by omega);obtain⟨x,hx⟩:=aP hi;have cln:=fc (i:=0) (l:=v)
   have hgc:∃t,(cH 0 v)[i]?=some ⟨x,t⟩:=by
     have key:∀(l:List Int) (j i:Nat),l[i]?=some x→∃t,(cH j l)[i]?=some ⟨x,t⟩:=by
       intro l;induction l with
       |nil=>intro j i h;simp at h
       |cons a r ih=>
         intro j i h;cases i with
         |zero=>simp at h;subst h;exact⟨_,rfl⟩
         |succ i=>simp at h;obtain⟨t,ht⟩:=ih (j+1) i h;exact⟨t,by simpa[cH] using ht⟩
     exact key v 0 i hx
   obtain⟨t,hg⟩:=hgc;have hlt:i<(cH 0 v).length:=by rw[cln];exact hi
   have h0:=dG.1 (hvn x (aQ hx));obtain⟨q,rfl⟩:∃q:Nat,x=q:=⟨x.toNat,by omega⟩;have hq:q<m.s.sl.length:=(by rw[I.len];omega);obtain⟨y,hy⟩:=aP hq;obtain⟨r,hr,ih⟩:=Re I hn hv hvn (cs:=cs) (hs:=hs) k (i+1) (by omega) (by omega) (acc++[y.home]) (by simp;omega);refine⟨r,hr,?_⟩;have hb:(acc.length+1)*8≤140737488355328:=(by omega);have hh:a_ 1 (acc.map vI)=true:=kq.head acc;rw[g308L4e]at ih⊢;simp[zR,z2,Mc.cx,cln]at ih;simp (disch:=omega) [-getElem?_pos,g308B4,zR,z2,Mc.cx,hi,hg,hlt,hq,hy,aq,hb,hh,cln];rw[g308L4e];simp[ih,cln]
structure lY(r:Rp):Prop where
 tl:r.types.length≤4
 hl:r.aH.length≤100000
 ty:∀c∈r.types,vz c.ty
 ho:∀h∈r.aH,h.ctx.length≤1000000∧vz h.goal∧∀x∈h.ctx,vz x.sc.ty
 hm:r.homes.length≤1000000
structure Fu(r:Rp):Prop where
 J':∀u∈aW r.aH,∀w,ef u w→0≤w∧w<r.homes.length
 all:∀i:Nat,i<r.homes.length→∃h∈r.aH,∃u∈aW [h],ef u i
theorem P3{s:List As}{t:Ty}{w:Int}{x:Ty}{y:Int}(h:ef t w)(hx:iQ s w=some x)(hy:ef x y):ef (t.sub s) y:=by
 induction h with
 | @var t k=>rw[Ty.sub_eq,if_pos k,hx];exact hy
 | @arg t a v k hm _ ih=>
   rw[Ty.sub_eq,if_neg k];exact .arg k (List.mem_map.2 ⟨a,hm,rfl⟩) (ih hx)
theorem jH{l:List Ho}{u:Ty}:u∈aW l↔∃h∈l,u∈aW [h]:=by
 simp[aW]
theorem uA{m:Mc}{v:List Int}{h:Ho}:aW [pH m v h]=(aW [h]).map (vA m v):=by
 simp[aW,pH,Ft]
def P4(r:Rp):List AV:=[.own (r.types.map As.pv) 0,.own (r.aH.map Ho.pv) 1,.own (r.homes.map vI) 2]
def Fv(P:PV)(r:Rp)(F:Int×Int):Prop:=(aF AP).p 308 [P]=some [r.pv,.agg [vI F.1,vI F.2]]∧(aF AP).i 308 [.pv P] [] []=some ([.agg (P4 r),.agg [.pv (vI F.1),.pv (vI F.2)]],[],[r.types.length,r.aH.length,r.homes.length]) ∨
 (aF AP).p 308 [P]=some [(Rp.mk [] [] []).pv,.agg [vI F.1,vI F.2]]∧(aF AP).i 308 [.pv P] [] []=some ([.agg [.cY [],.cY [],.cY []],.agg [.pv (vI F.1),.pv (vI F.2)]],[],[])∧r=⟨[],[],[]⟩
theorem c308b{ds:List Dt}(hD:pB ds){H:Prop}{bs:List Bd}(hl:bs.length≤4)(ho:∀b∈bs,rJ 100 b)(hH:H→∀b∈bs,BR 11 b.body):∃(r:Rp) (F:Int×Int),Fv (.agg [.aw (ds.map Dt.pv),.aw (bs.map Bd.pv)]) r F∧lY r∧(F.1=0→H→Fu r):=by
 have zO:lY ⟨[],[],[]⟩:=⟨by simp,by simp,by simp,by simp,by simp⟩;rcases c328 hD hl ho hH with⟨F,hF,k1⟩|⟨m,n,cs,dv,env,k1,hc,hd,R,D⟩
 · refine⟨⟨[],[],[]⟩,F,?_,zO,fun h=>absurd h hF⟩
   try simp at k1
   refine .inr ⟨?_,?_,rfl⟩
   ·rw[ah (af:=g308) rfl rfl (by decide)];simp[g308,k1,hF]
   ·rw[aB (af:=g308) rfl (by simp[g308])];simp[g308,k1,hF,P4]
 · have I:=R.st;have hn:=R.n';have hrc:=R.rc;have hsO:=I.ok;have hsm:Sm m.s.sl:=(by unfold Sm;rw[I.len];omega);have big:∀p:Int,Fv (.agg [.aw (ds.map Dt.pv),.aw (bs.map Bd.pv)]) (Rp.mk [] [] []) (15,p)→∃(r:Rp) (F:Int×Int),Fv (.agg [.aw (ds.map Dt.pv),.aw (bs.map Bd.pv)]) r F∧lY r∧(F.1=0→H→Fu r):=fun p h=>⟨_,(15,p),h,zO,by simp⟩
   have hsh:=qi (l:=m.rc) (q:=m.hd);have hshl:=wX (l:=m.rc) (q:=m.hd);have k2:=c330 (m:=m) (by omega) D.len;have L0:=Ra (ds:=ds) (bs:=bs) I hn (cs:=cs) (by omega) hc (fun c h=>(D.B8 c h).1.ok) _ 0 rfl (by omega);have hRh:∀h∈shown m.rc m.hd,l7 n h:=fun h hh=>R.lP h (hsh h hh)
   have hall:H→shown m.rc m.hd=m.rc:=fun q=>wY D.len (D.hf q);generalize shown m.rc m.hd=hs at *;have L1:=Rb I hn (cs:=cs) (hs:=hs) (by omega) hRh _ 0 rfl (by omega)
   simp only[List.drop_zero]at L0 L1;rw[g308L0e]at L0;rw[g308L1e]at L1;simp[Mc.cx]at k1;simp[Mc.sh,Mc.tk,Mc.cells,Mc.cx]at k2;rcases L0 with⟨p,S,T,L0⟩|⟨L0,T0⟩
   · refine big p ?_;simp[pC,zR,z2,Mc.cx]at L0;refine .inr ⟨?_,?_,rfl⟩
     ·rw[ah (af:=g308) rfl rfl (by decide)];simp[g308,k1,g308L0e,L0]
     ·rw[aB (af:=g308) rfl (by simp[g308])];simp[g308,k1,g308L0e,L0,P4]
   · simp[pC,zR,z2,Mc.cx]at L0;rcases L1 with⟨p,S,T,L1⟩|⟨L1,T1⟩
     · refine big p ?_;simp[zR,z2,Mc.cx]at L1;refine .inr ⟨?_,?_,rfl⟩
       ·rw[ah (af:=g308) rfl rfl (by decide)];simp[g308,k1,g308L0e,L0,k2,g308L1e,L1]
       ·rw[aB (af:=g308) rfl (by simp[g308])];simp[g308,k1,g308L0e,L0,k2,g308L1e,L1,P4]
     · simp[zR,z2,Mc.cx]at L1;have wT:=l7.wT hRh;have hrt:=lO (l:=hs) (fun h hh=>(hRh h hh).len);have hrt2:(aW hs).length≤100000*1000001:=Nat.le_trans hrt (Nat.mul_le_mul_right _ (by omega))
       obtain⟨v,k3,vC,vV⟩:=c372 (s:=m.s) (S:=dq n) (by rw[I.len];exact hn) I.B6 I.ok I.gQ (SW hn).rV (l:=cs.map As.ty++aW hs) (by unfold Sm;simp;omega) (by
         intro t ht;simp only[List.mem_append,List.mem_map]at ht;rcases ht with⟨x,hx,rfl⟩|ht
         ·exact (D.B8 x hx).1.ok
         ·exact (wT t ht).1) (by
         intro t ht;simp only[List.mem_append,List.mem_map]at ht;rcases ht with⟨x,hx,rfl⟩|ht
         ·exact (D.B8 x hx).1.gQ
         ·exact (wT t ht).2)
       have hvl:v.length≤1000000:=by
         have:=fp vC.nodup vC.sub;simp[dq]at this;omega
       have k4:=c332 (m:=m) (cs:=cs) (hs:=hs) (by omega) (by omega) (fun h hh=>(hRh h hh).len) hvl k3;have rc:∀c∈cs,Fs m.s c.ty (B9 m.s c.ty):=fun c hc'=>Nv hsm hsO (D.B8 c hc').1.ok (T0 c hc')
       have rh:∀h∈hs,∀u∈aW [h],Fs m.s u (B9 m.s u):=fun h hh u hu=>Nv hsm hsO (wT u (jH.2 ⟨h,hh,hu⟩)).1 (T1 h hh u hu);have rhx:∀h∈hs,(∀x∈h.ctx,Fs m.s x.sc.ty (B9 m.s x.sc.ty))∧Fs m.s h.goal (B9 m.s h.goal):=fun h hh=>⟨fun x hx=>rh h hh _ (by simp[aW];exact .inl ⟨x,hx,rfl⟩),rh h hh _ (by simp[aW])⟩
       have L2:=Rc (m:=m) hvl (cs:=cs) (hs:=hs) (by omega) rc _ 0 rfl (by omega) [] rfl;have L3:=Rd (m:=m) hvl (cs:=cs.map (yT m v)) (hs:=hs) (by omega) (fun h hh=>(hRh h hh).len) rhx _ 0 rfl (by omega) [] rfl;obtain⟨hm,hml,L4⟩:=Re I hn hvl vC.sub (cs:=cs.map (yT m v)) (hs:=hs.map (pH m v)) _ 0 rfl (by omega) [] rfl;refine⟨⟨cs.map (yT m v),hs.map (pH m v),hm⟩,(0,0),?_,⟨by simp;omega,by simp;omega,?_,?_,by simp only;omega⟩,fun _ q=>⟨?_,?_⟩⟩
       · have cln:=fc (i:=0) (l:=v);rw[List.drop_zero,List.nil_append]at L2 L3;rw[g308L2e]at L2;rw[g308L3e]at L3;rw[g308L4e]at L4;have hl1:(cs.map (yT m v)).length=cs.length:=(by simp);have hl2:(hs.map (pH m v)).length=hs.length:=(by simp);rw[hl1]at L3 L4;rw[hl2]at L4;generalize cs.map (yT m v)=cs2 at *;generalize hs.map (pH m v)=hs2 at *;clear rc rh rhx wT vV vC T0 T1 hRh D R hall hsh;generalize cH 0 v=N at *;simp[zR,z2,Mc.cx,cln,hl1,hl2]at L2 L3 L4;simp[Mc.sh,Mc.tk,Mc.cells,Mc.cx]at k4;refine .inl ⟨?_,?_⟩
         ·rw[ah (af:=g308) rfl rfl (by decide)];simp[g308,k1,g308L0e,L0,k2,g308L1e,L1,k4,g308L2e,L2,g308L3e,L3,g308L4e,L4,cln,hl1,hl2]
         ·rw[aB (af:=g308) rfl (by simp[g308])];simp[g308,k1,g308L0e,L0,k2,g308L1e,L1,k4,g308L2e,L2,g308L3e,L3,g308L4e,L4,cln,hl1,hl2,hml,P4]
       ·intro c hc';simp only[List.mem_map]at hc';obtain⟨x,hx,rfl⟩:=hc';exact uz I.wf (D.B8 x hx).1.kn (rc x hx)
       ·intro h hh;simp only[List.mem_map]at hh;obtain⟨x,hx,rfl⟩:=hh;refine⟨by have:=(hRh x hx).len;simpa[pH] using this,uz I.wf ((hRh x hx).goal.wf.imp MW) (rhx x hx).2,?_⟩;intro y hy;simp only[pH,List.mem_map]at hy;obtain⟨z,hz,rfl⟩:=hy;exact uz I.wf ((hRh x hx).ctx z hz).kn ((rhx x hx).1 z hz)
       · intro u hu w hw;obtain⟨h',hh',hu⟩:=jH.1 hu;simp only[List.mem_map]at hh';obtain⟨h,hh,rfl⟩:=hh';rw[uA,List.mem_map]at hu;obtain⟨t,ht,rfl⟩:=hu;have Rt:=rh h hh t ht;rcases Gn w hw with⟨h1,h2⟩|⟨i,x,hx,hw⟩
         ·have hfr:=(Rt.r.gQ I.B6 w).1 h1;obtain⟨x,hx⟩:=Gw (i:=0) ((vV w).2 ⟨t,by simp only[List.mem_append];exact .inr (jH.2 ⟨h,hh,ht⟩),hfr⟩);rw[h2]at hx;cases hx
         ·obtain⟨j,e1,e2⟩:=sf hx;rw[e1]at hw;have:=gP (t:=aK (0+j:Nat)) rfl hw;have hj:=(List.getElem?_eq_some_iff.1 e2).1;simp only[aK]at this;simp only;omega
       · intro i hi;simp only at hi;rw[hml]at hi;obtain⟨w,hw⟩:=aP hi;obtain⟨t,ht,hr,hf⟩:=(vV w).1 (aQ hw)
         have:∃u∈aW hs,RT m.s.sl u w:=by
           simp only[List.mem_append,List.mem_map]at ht;rcases ht with⟨c,hc',rfl⟩|ht
           ·rw[hall q];exact (D.B8 c hc').2 w hr hf
           ·exact⟨t,ht,hr⟩
         obtain⟨u,hu,hr⟩:=this;obtain⟨h,hh,hu⟩:=jH.1 hu;have Rt:=rh h hh u hu;have ho:=(Rt.r.gQ I.B6 w).2 ⟨hr,hf⟩;obtain⟨x,hx⟩:=Gw (i:=0) (aQ hw);obtain⟨j,e1,e2⟩:=sf hx
         have hij:j=i:=by
           have h1:=(List.getElem?_eq_some_iff.1 e2);have h2:=(List.getElem?_eq_some_iff.1 hw);have pw:=List.pairwise_iff_getElem.1 vC.nodup;rcases Nat.lt_trichotomy j i with q|q|q
           ·exact absurd (h1.2.trans h2.2.symm) (pw j i h1.1 h2.1 q)
           ·exact q
           ·exact absurd (h2.2.trans h1.2.symm) (pw i j h2.1 h1.1 q)
         subst hij;refine⟨pH m v h,List.mem_map.2 ⟨h,hh,rfl⟩,vA m v u,by rw[uA];exact List.mem_map.2 ⟨u,hu,rfl⟩,?_⟩;refine P3 ho hx ?_;rw[e1,Nat.zero_add];exact .var rfl
theorem c308{ds:List Dt}(hD:pB ds){H:Prop}{bs:List Bd}(hl:bs.length≤4)(ho:∀b∈bs,rJ 100 b)(hH:H→∀b∈bs,BR 11 b.body):∃(r:Rp) (F:Int×Int),(aF AP).p 308 [.agg [.aw (ds.map Dt.pv),.aw (bs.map Bd.pv)]]=some [r.pv,.agg [vI F.1,vI F.2]]∧lY r∧(F.1=0→H→Fu r):=by
 obtain⟨r,F,h,k⟩:=c308b hD hl ho hH;rcases h with h|⟨h,_,rfl⟩
 ·exact⟨r,F,h.1,k⟩
 ·exact⟨_,F,h,k⟩
def VQ:List UInt8:=[108,101,116,32,120,32,61,32,63,59,32,108,101,116,32,121,32,61,32,120,59]
def zT:List PV:=[.int .i64 0,.str [],.int .i64 0,.int .i64 0,.aw []]
def Rf:PV:=.agg [.aw [],.aw [.agg ([.int .i64 0,.bool false,.str [120],.bool false]++zT++[.int .i64 10,.int .i64 8,.str [],.int .i64 0,.aw [],.aw []]++zT),.agg ([.int .i64 11,.bool false,.str [121],.bool false]++zT++[.int .i64 1,.int .i64 19,.str [120],.int .i64 0,.aw [],.aw []]++zT)]]
theorem VR:(aF AP).p 320 [.str VQ]=some [Rf]:=Fc.Uy (k:=400) (n:=40) (by kernel_rfl)
def Xg(g:Nat)(x:List PV):Option (List PV):=match g,x with
 |320,[.str s]=>if s=VQ then some [Rf] else none
 |_,_=>none
theorem Tg:∀g x r,Xg g x=some r→(aF AP).p g x=some r:=by
 intro g x r h;unfold Xg at h;split at h
 · split at h
   ·rename_i e;subst e;cases h;exact VR
   ·cases h
 ·cases h
theorem c301:(aF AP).p 301 []=some [.bool true]:=Fc.Qf (k:=400) (n:=40) Tg (by kernel_rfl)
theorem c306p{L:List Int}(hL:Sm L)(bits:Int):∃(ds:List Dt) (bs:List Bd),pB ds∧0<bs.length∧bs.length≤4∧(∀b∈bs,rJ 100 b) ∧
   (aF AP).p 306 [vI bits,.aw (L.map vI)]=some [.agg [.aw (ds.map Dt.pv),.aw (bs.map Bd.pv)]]:=by
 obtain⟨ds,k1,d1,d2⟩:=c32 bits;have hD:pB ds:=⟨d1,d2⟩;obtain⟨r,j0,e1,r0,r1,hj0⟩:=rH (i7 (L:=L)) hL (i:=0) (by omega) (n:=4) (by omega) (by omega);obtain⟨r,rfl,hr⟩:=yn (n:=4) r0 (by simpa using r1);obtain⟨b,l1,j1,b1,b2,b3,e2⟩:=VE hL hD (N:=1+r) (by omega) (by omega) hj0;obtain⟨l',k',bs',j',q1,q2,q3,e3⟩:=VF hL hD (N:=1+r) (by omega) _ 1 rfl (by omega) l1 0 [b] j1 (b2.bQ (by omega)) rfl (by simpa using b1) b3;refine⟨ds,bs',hD,by omega,by omega,q2,?_⟩;have e5:=e2.trans e3;have tn:=((kS (L:=L) (k:=k') (bs:=bs')).quiet j').norm;have tsh:=((kS (L:=L) (k:=k') (bs:=bs')).quiet j').shift;have tg:=Gu (L:=L) (k:=k') (bs:=bs') (j:=j');have a1:=Tc (l:=bs');have n1:(cr Bd.cells bs').length=bs'.length*20:=by rw[gO Fp]
 generalize vu L k' bs' j'=S at *;generalize cr Bd.cells bs'=TB at *;clear e2 e3;rw[g306L0e]at e5;have hw:(1:Int)+r=((1+r:Nat):Int):=by omega
 simp at k1 e1 e5 a1;rw[ah (af:=g306) rfl rfl (by decide)];simp (disch:=omega) [-getElem?_pos,g306,k1,e1,aq,g306L0e,e5,tn,tsh,tg,a1,n1]
theorem J0{l:List Ty}:∀{out:List Int} {w:Int},w∈l.foldl cS out→w∈out∨∃y∈l,y.kind=1∧y.id=w:=by
 induction l with
 |nil=>intro out w h;exact .inl h
 |cons a r ih=>
   intro out w h;rw[List.foldl_cons]at h;rcases ih h with h|⟨y,hy,e⟩
   · unfold cS at h;split at h
     · rename_i q;simp only[List.mem_append,List.mem_singleton]at h;rcases h with h|rfl
       ·exact .inl h
       ·exact .inr ⟨a,by simp,q.1,rfl⟩
     ·exact .inl h
   ·exact .inr ⟨y,by simp[hy],e⟩
theorem Nw{K:Int→Prop}{t:Ty}(h:t.Kn K):∀y∈t.nodes,y.kind=1→ef t y.id:=by
 induction h with
 | @mk t hh _ _ ih=>
   intro y hy hk;rw[Ty.aL]at hy;simp only[List.mem_cons,List.mem_flatMap]at hy;rcases hy with rfl|⟨a,ha,hy⟩
   ·exact .var hk
   ·refine .arg (fun q=>?_) ha (ih a ha y hy hk);have:=(hh (by rw[q];decide)).2;rw[this]at ha;cases ha
theorem B3{K:Int→Prop}{l:List Ty}(h:∀t∈l,t.Kn K){w:Int}:w∈vars l↔∃t∈l,ef t w:=by
 constructor
 · intro hw;rcases J0 hw with hw|⟨y,hy,k,rfl⟩
   ·cases hw
   ·simp only[List.mem_flatMap]at hy;obtain⟨t,ht,hy⟩:=hy;exact⟨t,ht,Nw (h t ht) y hy k⟩
 · rintro⟨t,ht,ho⟩
   obtain⟨y,hy,k,rfl⟩:=uw ho;exact kR (by simp only[List.mem_flatMap];exact⟨t,ht,hy⟩) k
theorem c321{r:Rp}{k:Nat}{h:Ho}(hx:r.aH[k]?=some h):(aF AP).p 321 [r.pv,vI k]=some [h.pv,vI 0]:=by
 have hlt:=(List.getElem?_eq_some_iff.1 hx).1;have h1:¬r.aH.length≤k:=by omega
 have h2:¬(k:Int)<0:=by omega
 rw[ah (af:=g321) rfl rfl (by decide)];simp[-getElem?_pos,g321,hx,hlt,h1,h2]
theorem VS{h:Ho}(hl:h.ctx.length≤1000000):∀(k i:Nat),h.ctx.length-i=k→i≤h.ctx.length→∀acc:List Ty,acc.length=i →
   cl AP g309L0 ⟨[(5,.au 5 0),(7,.own (acc.map Ty.pv) 0),(19,.pv (.aw (h.ctx.map En.pv))),(20,.pv (vI h.ctx.length)),(21,.pv (vI i))],[(5,uF h)],[],[acc.length]⟩ =
     some (.exit 0,⟨[(5,.au 5 0),(7,.own ((acc++(h.ctx.drop i).map fun x=>x.sc.ty).map Ty.pv) 0),(19,.pv (.aw (h.ctx.map En.pv))),(20,.pv (vI h.ctx.length)),(21,.pv (vI h.ctx.length)),(22,.pv (.bool false))],[(5,uF h)],[],[h.ctx.length]⟩)
 |0,i,hk,hi,acc,ha=>by
   have:i=h.ctx.length:=by omega
   subst this;rw[g309L0e];simp[g309B0,uF,ha]
 |k+1,i,hk,hi,acc,ha=>by
   have hi:i<h.ctx.length:=(by omega);obtain⟨x,hx⟩:=aP hi;have ih:=VS hl k (i+1) (by omega) (by omega) (acc++[x.sc.ty]) (by simp;omega);have hb:(acc.length+1)*64≤140737488355328:=(by omega);rw[bl hx];rw[g309L0e]at ih⊢;simp[uF]at ih;simp (disch:=omega) [-getElem?_pos,g309B0,uF,hi,hx,aq,hb];rw[g309L0e];simp[ih]
def uG(h:Ho):Prop:=h.ctx.length≤1000000∧vz h.goal∧∀x∈h.ctx,vz x.sc.ty
theorem uG.wT{h:Ho}(H:uG h):∀t∈aW [h],vz t:=by
 intro t ht;simp only[aW,List.flatMap_cons,List.flatMap_nil,List.append_nil,List.mem_append,List.mem_map,List.mem_singleton]at ht;rcases ht with⟨x,hx,rfl⟩|rfl
 ·exact H.2.2 x hx
 ·exact H.2.1
theorem uG.rV{h:Ho}(H:uG h):((aW [h]).flatMap Ty.nodes).length≤200000200:=by
 rw[List.length_flatMap];have h1:=jF (l:=aW [h]) (f:=fun t=>t.nodes.length) (M:=200) fun t ht=>(H.wT t ht).n
 have h2:(aW [h]).length≤1000001:=by have:=H.1;simp[aW];omega
 have:=Nat.mul_le_mul_right 200 h2;omega
theorem c309{r:Rp}{k:Nat}{h:Ho}(hx:r.aH[k]?=some h)(H:uG h):(aF AP).p 309 [r.pv,vI k]=some [.aw ((vars (aW [h])).map vI)]:=by
 have k1:=c321 hx;have hl:=H.1;have L:=VS hl _ 0 rfl (by omega) [] rfl;have rV:=H.rV;have k2:=c55 (S:=((aW [h]).flatMap Ty.nodes).map fun y=>y.id) (by simp only[List.length_map];omega) (l:=aW [h]) (by unfold Sm;simp[aW];omega) (fun t ht=>(H.wT t ht).ok) (fun x hx _=>List.mem_map.2 ⟨x,hx,rfl⟩);have hr:aW [h]=h.ctx.map (fun x=>x.sc.ty)++[h.goal]:=by simp[aW]
 have hb:(h.ctx.length+1)*64≤140737488355328:=by omega
 have hh:=pk.head (h.ctx.map fun x=>x.sc.ty);rw[List.map_map]at hh;rw[hr]at k2⊢;generalize vars (h.ctx.map (fun x=>x.sc.ty)++[h.goal])=v at *;rw[g309L0e]at L;simp[uF]at L k1 k2;rw[ah (af:=g309) rfl rfl (by decide)];simp[g309,k1,g309L0e,L,k2,hb,hh]
theorem Rg{ds:List Dt}{bs:List Bd}(ho:∀b∈bs,b.body.Ok)(hl:bs.length≤4):∀(n i:Nat),bs.length-i=n→i≤bs.length →
   cl AP g298L0 ⟨[(5,.au 5 0),(6,.pv (vI i))],[(5,[.pv (.aw (ds.map Dt.pv)),.pv (.aw (bs.map Bd.pv))])],[],[]⟩=some (.ret,⟨[(4,.pv (.bool true))],[],[],[]⟩) ∨
   cl AP g298L0 ⟨[(5,.au 5 0),(6,.pv (vI i))],[(5,[.pv (.aw (ds.map Dt.pv)),.pv (.aw (bs.map Bd.pv))])],[],[]⟩=some (.exit 0,⟨[(5,.au 5 0),(6,.pv (vI bs.length)),(26,.pv (.bool false))],[(5,[.pv (.aw (ds.map Dt.pv)),.pv (.aw (bs.map Bd.pv))])],[],[]⟩)∧∀x∈bs.drop i,BR 11 x.body
 |0,i,hn,hi=>by
   have:i=bs.length:=by omega
   subst this;refine .inr ⟨?_,by simp⟩;rw[g298L0e];simp[g298B0]
 |n+1,i,hn,hi=>by
   have hi:i<bs.length:=(by omega);obtain⟨x,hx⟩:=aP hi;obtain⟨b,c,hb⟩:=c307k (ho x (aQ hx)) 11;cases b with
   |true=>
     refine .inl ?_;simp at c;rw[g298L0e];simp (disch:=omega) [-getElem?_pos,g298B0,hx,hi,c]
   |false=>
     have ih:=Rg (ds:=ds) ho hl n (i+1) (by omega) (by omega)
     have e1:cl AP g298L0 ⟨[(5,.au 5 0),(6,.pv (vI i))],[(5,[.pv (.aw (ds.map Dt.pv)),.pv (.aw (bs.map Bd.pv))])],[],[]⟩=cl AP g298L0 ⟨[(5,.au 5 0),(6,.pv (vI (i+1:Nat)))],[(5,[.pv (.aw (ds.map Dt.pv)),.pv (.aw (bs.map Bd.pv))])],[],[]⟩:=by
       conv=>lhs;rw[g298L0e]
       simp at c;simp (disch:=omega) [-getElem?_pos,g298B0,hx,hi,c,aq]
     rw[e1];refine ih.imp_right fun h=>⟨h.1,?_⟩;rw[bl hx];intro y hy;simp only[List.mem_cons]at hy;rcases hy with rfl|hy
     ·exact hb rfl
     ·exact h.2 y hy
def uH(fd:List Bool)(w:Int):List Bool:=fd.set w.toNat true
theorem Fw{fd:List Bool}:(bT fd).length=fd.length:=by simp[bT]
theorem Nx{l:List Int}:∀{fd:List Bool},(l.foldl uH fd).length=fd.length:=by
 induction l with
 |nil=>intro fd;rfl
 |cons a r ih=>intro fd;rw[List.foldl_cons,ih,uH,List.length_set]
theorem Th{l:List Int}:∀{fd:List Bool} {i:Nat},i<fd.length→fd[i]?=some true∨(i:Int)∈l→(l.foldl uH fd)[i]?=some true:=by
 induction l with
 |nil=>intro fd i _ h;simpa using h
 |cons a r ih=>
   intro fd i hi h;rw[List.foldl_cons];refine ih (by simpa[uH] using hi) ?_;by_cases e:a.toNat=i
   ·exact .inl (by simp[uH,e,hi])
   · rcases h with h|h
     ·exact .inl (by simpa[uH,List.getElem?_set,e] using h)
     · simp only[List.mem_cons]at h;rcases h with h|h
       ·omega
       ·exact .inr h
theorem Ri{hm:List Int}{v:List Int}{i n:Nat}(hvl:v.length≤1000000000)(hv:∀w∈v,0≤w∧w<n){a b:List PV}:∀(k j:Nat),v.length-j=k→j≤v.length→∀fd:List Bool,fd.length=n →
   cl AP g298L2 ⟨[(7,.au 7 0),(9,.aT 0 1 n false),(10,.pv (vI i)),(11,.pv (.aw (v.map vI))),(12,.pv (vI j))],[(7,[.pv (.aw a),.pv (.aw b),.pv (.aw (hm.map vI))])],[some (bT fd)],[]⟩ =
     some (.exit 4,⟨[(7,.au 7 0),(9,.aT 0 1 n false),(10,.pv (vI i)),(11,.pv (.aw (v.map vI))),(12,.pv (vI v.length)),(61,.pv (.bool false))],[(7,[.pv (.aw a),.pv (.aw b),.pv (.aw (hm.map vI))])],[some (bT ((v.drop j).foldl uH fd))],[]⟩)
 |0,j,hk,hj,fd,hf=>by
   have:j=v.length:=by omega
   subst this;have hQ:=bf.one (kK (dn:=fd));rw[g298L2e];simp[g298B2,hQ.norm]
 |k+1,j,hk,hj,fd,hf=>by
   have hj:j<v.length:=(by omega);obtain⟨w,hx⟩:=aP hj;obtain⟨h0,h1⟩:=hv w (aQ hx);obtain⟨w,rfl⟩:∃x:Nat,w=x:=⟨w.toNat,by omega⟩;have ih:=Ri (hm:=hm) (i:=i) hvl hv (a:=a) (b:=b) k (j+1) (by omega) (by omega) (fd.set w true) (by simpa using hf);have hQ:=bf.one (kK (dn:=fd));have hQ2:=bf.one (kK (dn:=fd.set w true));have hset:=MO (dn:=fd) (i:=w) (by omega) true;have hlen:w+1≤(bT fd).length:=(by rw[Fw];omega);have n1:¬(w:Int)<0:=(by omega);have n2:¬n≤w:=(by omega);have n3:w<n:=(by omega);have mp:=(ie (dn:=fd)).mp;rw[bl hx,List.foldl_cons,show uH fd (w:Int)=fd.set w true by simp[uH]];rw[g298L2e]at ih⊢;simp[hQ2.norm]at ih hset;simp (disch:=omega) [-getElem?_pos,g298B2,hx,hj,hQ.norm,hQ.shift,aq,n1,n2,n3,mp,hset,hlen];rw[g298L2e];simp[ih,hQ2.norm]
def sq(l:List Ho):List Int:=l.flatMap fun h=>vars (aW [h])
theorem Rj{r:Rp}{n:Nat}(hl:r.aH.length≤100000)(hH:∀h∈r.aH,uG h)(hv:∀w∈sq r.aH,0≤w∧w<n):∀(k i:Nat),r.aH.length-i=k→i≤r.aH.length→∀fd:List Bool,fd.length=n →
   cl AP g298L1 ⟨[(7,.au 7 0),(9,.aT 0 1 n false),(10,.pv (vI i))],[(7,[.pv (.aw (r.types.map As.pv)),.pv (.aw (r.aH.map Ho.pv)),.pv (.aw (r.homes.map vI))])],[some (bT fd)],[]⟩ =
     some (.exit 2,⟨[(7,.au 7 0),(9,.aT 0 1 n false),(10,.pv (vI r.aH.length)),(52,.pv (.bool false))],[(7,[.pv (.aw (r.types.map As.pv)),.pv (.aw (r.aH.map Ho.pv)),.pv (.aw (r.homes.map vI))])],[some (bT ((sq (r.aH.drop i)).foldl uH fd))],[]⟩)
 |0,i,hk,hi,fd,hf=>by
   have:i=r.aH.length:=by omega
   subst this;have hQ:=bf.one (kK (dn:=fd));rw[g298L1e];simp[g298B1,hQ.norm,sq]
 |k+1,i,hk,hi,fd,hf=>by
   have hi:i<r.aH.length:=(by omega);obtain⟨h,hx⟩:=aP hi;have hm:=aQ hx;have H:=hH h hm;have c:=c309 hx H;have rV:=H.rV
   have e1:(sq (r.aH.drop i)).foldl uH fd=(sq (r.aH.drop (i+1))).foldl uH ((vars (aW [h])).foldl uH fd):=by
     rw[bl hx,sq,List.flatMap_cons,List.foldl_append];rfl
   have vl:(vars (aW [h])).length≤1000000000:=by
     have:=nB (l:=(aW [h]).flatMap Ty.nodes) (out:=[]);simp only[vars,List.length_nil]at this⊢;omega
   have hw:∀w∈vars (aW [h]),0≤w∧w<n:=fun w hw=>hv w (by unfold sq;exact List.mem_flatMap.2 ⟨h,hm,hw⟩);rw[e1];generalize vars (aW [h])=v at *;have L:=Ri (hm:=r.homes) (i:=i) vl hw (a:=r.types.map As.pv) (b:=r.aH.map Ho.pv) _ 0 rfl (by omega) fd hf
   rw[List.drop_zero]at L;have ih:=Rj hl hH hv k (i+1) (by omega) (by omega) (v.foldl uH fd) (by rw[Nx];exact hf);have hQ:=bf.one (kK (dn:=fd));have hQ2:=bf.one (kK (dn:=v.foldl uH fd));generalize (sq (r.aH.drop (i+1))).foldl uH (v.foldl uH fd)=F at *;generalize v.foldl uH fd=G at *;rw[g298L1e]at ih⊢;rw[g298L2e]at L;simp[hQ.norm,hQ2.norm]at ih L c;simp (disch:=omega) [-getElem?_pos,g298B1,hx,hi,hQ.norm,hQ.shift,aq,c,g298L2e,L,hQ2.norm,hQ2.shift];rw[g298L1e];simp[ih,hQ2.norm]
theorem Rk{n:Nat}(hn:n≤1000000){fd:List Bool}(hf:fd.length=n)(ht:∀i:Nat,i<n→fd[i]?=some true):∀(k i:Nat),n-i=k→i≤n →
   cl AP g298L3 ⟨[(9,.aT 0 1 n false),(13,.pv (vI i))],[],[some (bT fd)],[]⟩ =
     some (.exit 6,⟨[(9,.aT 0 1 n false),(13,.pv (vI n)),(87,.pv (.bool false))],[],[some (bT fd)],[]⟩)
 |0,i,hk,hi=>by
   have:i=n:=by omega
   subst this;have hQ:=bf.one (kK (dn:=fd));rw[g298L3e];simp[g298B3,hQ.norm]
 |k+1,i,hk,hi=>by
   have hi:i<n:=(by omega);have hx:=ht i hi;have ih:=Rk hn hf ht k (i+1) (by omega) (by omega);have hQ:=bf.one (kK (dn:=fd));have hg:(bT fd)[i]?=some (.pv (.bool true)):=(by simp[bT,hx]);have hlen:i+1≤(bT fd).length:=(by rw[Fw];omega);have hlt:i<(bT fd).length:=(by rw[Fw];omega);have mp:=(ie (dn:=fd)).mp;rw[g298L3e]at ih⊢;simp[hQ.norm]at ih;simp (disch:=omega) [-getElem?_pos,g298B3,hx,hi,hQ.norm,hQ.shift,aq,hg,hlen,hlt,mp];rw[g298L3e];simp[ih,hQ.norm]
theorem Ti(bits:Int)(L:List Int):(aF AP).p 298 [vI bits,.aw (L.map vI)]=some [.bool true]:=by
 have k0:=c301;have k1:=c15 (l:=L);by_cases hL:L.length≤60
 · rw[decide_eq_true hL]at k1;have hS:Sm L:=by unfold Sm;omega
   obtain⟨ds,bs,hD,_,hbl,hb,k2⟩:=c306p hS bits;have L0:=Rg (ds:=ds) (bs:=bs) (fun b h=>(hb b h).sc.ok) hbl _ 0 rfl (by omega);obtain⟨r,F,k3,R,O⟩:=c308 hD hbl hb (H:=∀b∈bs,BR 11 b.body) id;rw[g298L0e,List.drop_zero]at L0;simp at k0 k1 k2 L0 k3;rcases L0 with L0|⟨L0,nk⟩
   ·rw[ah (af:=g298) rfl rfl (by decide)];simp[g298,k0,k1,k2,g298L0e,L0]
   · by_cases hF:F.1=0
     · have O:=O hF nk;have hH:∀h∈r.aH,uG h:=R.ho
       have hv:∀w∈sq r.aH,0≤w∧w<(r.homes.length:Int):=by
         intro w hw;simp only[sq,List.mem_flatMap]at hw;obtain⟨h,hh,hw⟩:=hw;obtain⟨t,ht,ho⟩:=(B3 fun t ht=>((hH h hh).wT t ht).kn).1 hw;exact O.J' t (jH.2 ⟨h,hh,ht⟩) w ho
       have hml:=R.hm;have L1:=Rj R.hl hH hv _ 0 rfl (by omega) (List.replicate r.homes.length false) (by simp);rw[List.drop_zero]at L1
       have hall:∀i:Nat,i<r.homes.length→((sq r.aH).foldl uH (List.replicate r.homes.length false))[i]?=some true:=by
         intro i hi;refine Th (by simpa using hi) (.inr ?_);obtain⟨h,hh,u,hu,ho⟩:=O.all i hi;simp only[sq,List.mem_flatMap];exact⟨h,hh,(B3 fun t ht=>((hH h hh).wT t ht).kn).2 ⟨u,hu,ho⟩⟩
       have hlen:((sq r.aH).foldl uH (List.replicate r.homes.length false)).length=r.homes.length:=(by rw[Nx];simp);have L2:=Rk hml hlen hall _ 0 rfl (by omega);have hz:bT (List.replicate r.homes.length false)=(List.replicate r.homes.length [AV.pv (.bool false)]).flatten:=(by simp[bT,List.flatten_replicate_singleton]);have hQ:=bf.one (kK (dn:=List.replicate r.homes.length false));have hQ2:=bf.one (kK (dn:=(sq r.aH).foldl uH (List.replicate r.homes.length false)));generalize (sq r.aH).foldl uH (List.replicate r.homes.length false)=G at *;rw[hz]at L1 hQ;have b1:(r.homes.length:Int)≤9223372036854775807:=(by omega);have b2:(r.homes.length:Int)≤140737488355328:=(by omega);rw[g298L1e]at L1;rw[g298L3e]at L2;simp[hQ.norm,hQ2.norm]at L1 L2;rw[ah (af:=g298) rfl rfl (by decide)];simp (disch:=omega) [g298,k0,k1,k2,g298L0e,L0,k3,hF,g298L1e,L1,g298L3e,L2,hQ.norm,hQ2.norm,hQ.shift,hQ2.shift,b1,b2]
     ·rw[ah (af:=g298) rfl rfl (by decide)];simp[g298,k0,k1,k2,g298L0e,L0,k3,hF]
 ·rw[decide_eq_false hL]at k1;rw[ah (af:=g298) rfl rfl (by decide)];simp[g298,k0,k1]
def Fx(b:Bool)(t:Ty):AV:=.agg [.pv (vI t.kind),.pv (.str t.name),.pv (vI t.id),.pv (vI t.home),dY b (t.args.map Ty.pv)]
def Ny(g:Nat)(cap:List AV)(f:Ty→Ty):Prop:=∀(sh:Sh) (x:Ty),bf sh→x.args=[]→∃b:Bool,(aF AP).i g (.pv x.pv::cap) sh []=some ([Fx b (f x)],sh,[])
def Tj(F:AV)(t:Ty)(f:Ty→Ty)(sh0:Sh):Option (aU×St):=
 some (.exit 0,⟨[(1,F),(2,.au 2 0),(4,.au 4 0),(5,.aT sh0.length 5 t.args.length true),(20,.pv (.aw (t.args.map Ty.pv))),(21,.pv (vI t.args.length)),(22,.pv (vI t.args.length)),(23,.pv (.bool false))],
   [(2,t.cl),(4,[.pv (vI 0),.pv (.str []),.pv (vI 0),.pv (vI 0),.own [] 0])],sh0++[some (fQ (t.args.map (Ty.qW f)) 0)],[0]⟩)
theorem VT{g:Nat}{cap:List AV}{f:Ty→Ty}{t:Ty}{sh0:Sh}(hq:bf sh0)(hcap:bD.ew cap=true)(hpass:bM.iu cap=true)(hS:Sm t.args)
   (h:∀x∈t.args,∀sh,bf sh→∃b:Bool,(aF AP).i 338 [.pv x.pv,.fn g cap] sh []=some ([Fx b (x.qW f)],sh,[])):∀(n i:Nat),t.args.length-i=n→i≤t.args.length→∀d:List Ty,d=(t.args.take i).map (Ty.qW f) →
   cl AP g338L0 ⟨[(1,.fn g cap),(2,.au 2 0),(4,.au 4 0),(5,.aT sh0.length 5 t.args.length true),(20,.pv (.aw (t.args.map Ty.pv))),(21,.pv (vI t.args.length)),(22,.pv (vI i))],
     [(2,t.cl),(4,[.pv (vI 0),.pv (.str []),.pv (vI 0),.pv (vI 0),.own [] 0])],sh0++[some (fQ d n)],[0]⟩=Tj (.fn g cap) t f sh0
 |0,i,hn,hi,d,hd=>by
   have:i=t.args.length:=by omega
   subst this;have hd':d=t.args.map (Ty.qW f):=by simpa using hd
   subst hd';have hQ:=hq.app (bf.one (j_ (d:=t.args.map (Ty.qW f)) (m:=0)));rw[g338L0e];simp[g338B0,Tj,hcap,hQ.norm,Ty.cl]
 |n+1,i,hn,hi,d,hd=>by
   have hi:i<t.args.length:=(by omega);obtain⟨x,hx⟩:=aP hi;unfold Sm at hS;have hdl:d.length=i:=(by rw[hd];simp;omega);have hQ:=hq.app (bf.one (j_ (d:=d) (m:=n+1)));obtain⟨b,hc⟩:=h x (aQ hx) _ hQ;have ih:=VT hq hcap hpass hS h n (i+1) (by omega) (by omega) (d++[x.qW f]) (by rw[List.take_add_one,hx,hd];simp);have hset:aR (fQ d (n+1)) (i*5) (x.qW f).cl=fQ (d++[x.qW f]) n:=(by rw[←hdl];exact Mv);have hlen:i*5+5≤(fQ d (n+1)).length:=(by rw[ph];omega);have hQ2:=hq.app (bf.one (j_ (d:=d++[x.qW f]) (m:=n)));rw[g338L0e]at ih⊢;simp[Ty.cl,hcap,hQ2.norm]at ih hset;cases b<;>simp[Fx,dY]at hc<;>simp (disch:=omega) [-getElem?_pos,g338B0,hx,hi,hcap,hpass,hQ.norm,hQ.shift,Ty.cl,hc,hset,hlen,aq]<;>rw[g338L0e]<;>simp[ih,hcap,hQ2.norm]
theorem c338{g:Nat}{cap:List AV}{f:Ty→Ty}(hf:Ny g cap f)(hcap:bD.ew cap=true)(hpass:bM.iu cap=true)(harg:dO [] 1 cap=cap)(hnrm:∀aN ts,bn aN ts cap=(cap,aN,ts))(hpo:cap.all bE=true){t:Ty}(hO:t.Ok) :
   ∀sh,bf sh→∃b:Bool,(aF AP).i 338 [.pv t.pv,.fn g cap] sh []=some ([Fx b (t.qW f)],sh,[]):=by
 revert hO
 refine Ty.dJ (p:=fun t=>t.Ok→∀sh,bf sh→∃b:Bool,(aF AP).i 338 [.pv t.pv,.fn g cap] sh []=some ([Fx b (t.qW f)],sh,[])) ?_ t;intro t ih hO sh hq;by_cases hn:t.args=[]
 ·obtain⟨b,h⟩:=hf sh t hq hn;refine⟨b,?_⟩;rw[aB (af:=g338) rfl (by simp[g338])];cases b<;>simp[hn,Fx,dY]at h<;>simp[g338,hn,hcap,hpass,harg,hnrm,hpo,hq.norm,hq.shift,h,Ty.pj hn,Fx,dY]
 · refine⟨false,?_⟩;rw[aB (af:=g338) rfl (by simp[g338])];have hl:¬t.args.length=0:=by simpa using hn
   have hS:=hO.sm;have h:=VT hq hcap hpass hO.sm (fun x hx=>ih x hx (hO.gh x hx)) t.args.length 0 (by omega) (by omega) [] (by simp);have hz:fQ [] t.args.length=(List.replicate t.args.length [.pv (vI 0),.pv (.str []),.pv (vI 0),.pv (vI 0),.pv (.aw [])]).flatten:=(by simp[fQ,Qi]);have hQ:=hq.app (bf.one (j_ (d:=[]) (m:=t.args.length)));rw[g338L0e]at h;unfold Sm at hS;have b1:(t.args.length:Int)≤9223372036854775807:=(by omega);have b2:(t.args.length:Int)*64≤140737488355328:=(by omega);rw[hz]at h hQ;simp[hcap,hQ.norm,Ty.cl,Tj]at h;have hQ2:=hq.app (bf.one (j_ (d:=t.args.map (Ty.qW f)) (m:=0)));have hfr:=Bw (d:=t.args.map (Ty.qW f));have hle:=ph (d:=t.args.map (Ty.qW f)) (m:=0);simp at hfr hle;simp (disch:=omega) [g338,hn,hl,hcap,hpass,hq.norm,hq.shift,b1,b2,g338L0e,hQ.norm,h,Ty.mH hn,hfr,hle,Fx,dY]
def mW(x:Ty):Ty:=if x.kind=1 then ⟨3,[],x.id,-1,[]⟩ else x
def nR(x:Ty):Ty:=if x.kind=3∧x.home=-1 then ⟨1,[],x.id,0,[]⟩ else x
theorem c339:Ny 339 [] mW:=by
 intro sh x hq hx;by_cases h:x.kind=1
 ·refine⟨true,?_⟩;rw[aB (af:=g339) rfl (by simp[g339])];simp[g339,hq.norm,hq.shift,h,mW,Fx,dY]
 ·refine⟨false,?_⟩;rw[aB (af:=g339) rfl (by simp[g339])];simp[g339,hq.norm,hq.shift,h,mW,hx,Fx,dY]
theorem c340:Ny 340 [] nR:=by
 intro sh x hq hx;have k:=c87 (n:=x.id);simp[aK]at k;refine⟨false,?_⟩;rw[aB (af:=g340) rfl (by simp[g340])];by_cases h:x.kind=3
 · by_cases h2:x.home=-1
   ·simp[g340,hq.norm,hq.shift,h,h2,k,nR,Fx,dY]
   ·simp[g340,hq.norm,hq.shift,h,h2,k,nR,hx,Fx,dY]
 ·simp[g340,hq.norm,hq.shift,h,nR,hx,Fx,dY]
def Ty.bR(t:Ty):Ty:=t.qW mW
def Ty.q9(t:Ty):Ty:=t.qW nR
theorem c313{t:Ty}(hO:t.Ok):(aF AP).p 313 [t.pv]=some [t.bR.pv]:=by
 obtain⟨b,h⟩:=c338 c339 rfl rfl rfl (fun _ _=>rfl) rfl hO [] (by intro cs h;simp at h);unfold Ty.bR;generalize t.qW mW=u at *;rw[ah (af:=g313) rfl rfl (by decide)];cases b<;>simp[Fx,dY]at h<;>simp[g313,h]
theorem c315{t:Ty}(hO:t.Ok):(aF AP).p 315 [t.pv]=some [t.q9.pv]:=by
 obtain⟨b,h⟩:=c338 c340 rfl rfl rfl (fun _ _=>rfl) rfl hO [] (by intro cs h;simp at h);unfold Ty.q9;generalize t.qW nR=u at *;rw[ah (af:=g315) rfl rfl (by decide)];cases b<;>simp[Fx,dY]at h<;>simp[g315,h]
theorem Ty.Nz{K:Int→Prop}{t:Ty}(h:t.Kn K):t.bR=if t.kind=1 then ⟨3,[],t.id,-1,[]⟩ else ⟨t.kind,t.name,t.id,t.home,t.args.map Ty.bR⟩:=by
 unfold Ty.bR;by_cases hn:t.args=[]
 · rw[Ty.pj hn];unfold mW;split
   ·rfl
   ·cases t;simp at hn;simp[hn]
 ·rw[Ty.mH hn,if_neg (fun q=>hn (h.hd (by rw[q];decide)).2)]
theorem Ty.NA{K:Int→Prop}{t:Ty}(h:t.Kn K):t.q9=if t.kind=3∧t.home=-1 then ⟨1,[],t.id,0,[]⟩ else ⟨t.kind,t.name,t.id,t.home,t.args.map Ty.q9⟩:=by
 unfold Ty.q9;by_cases hn:t.args=[]
 · rw[Ty.pj hn];unfold nR;split
   ·rfl
   ·cases t;simp at hn;simp[hn]
 ·rw[Ty.mH hn,if_neg (fun q=>hn (h.hd (by rw[q.1];decide)).2)]
theorem VU{t:Ty}(hS:Sm t.args)(h:∀x∈t.args,(aF AP).p 314 [x.pv]=some [x.bR.pv]):∀(n i:Nat),t.args.length-i=n→i≤t.args.length→∀acc:List Ty,acc.length=i →
   cl AP g314L0 ⟨[(1,.au 1 0),(2,.au 2 0),(3,.au 3 0),(4,.pv (vI i))],
     [(1,[.pv (vI t.kind),.pv (.str t.name),.pv (vI t.id),.pv (vI t.home),.pv (.aw (t.args.map Ty.pv))]),(2,[.pv (vI 0),.pv (.str []),.pv (vI 0),.pv (vI 0),.own [] 0]),
       (3,[.pv (vI t.kind),.pv (.str t.name),.pv (vI t.id),.pv (vI t.home),.own (acc.map Ty.pv) 1])],[],[0,acc.length]⟩ =
     some (.exit 0,⟨[(1,.au 1 0),(2,.au 2 0),(3,.au 3 0),(4,.pv (vI t.args.length)),(17,.pv (.bool false))],
     [(1,[.pv (vI t.kind),.pv (.str t.name),.pv (vI t.id),.pv (vI t.home),.pv (.aw (t.args.map Ty.pv))]),(2,[.pv (vI 0),.pv (.str []),.pv (vI 0),.pv (vI 0),.own [] 0]),
       (3,[.pv (vI t.kind),.pv (.str t.name),.pv (vI t.id),.pv (vI t.home),.own ((acc++(t.args.drop i).map Ty.bR).map Ty.pv) 1])],[],[0,t.args.length]⟩)
 |0,i,hn,hi,acc,ha=>by
   have:i=t.args.length:=by omega
   subst this;rw[g314L0e];simp[g314B0,ha]
 |n+1,i,hn,hi,acc,ha=>by
   have hi:i<t.args.length:=(by omega);obtain⟨x,hx⟩:=aP hi;unfold Sm at hS;have hb:(acc.length+1)*64≤140737488355328:=(by omega);have hc:=h x (aQ hx);have ih:=VU hS h n (i+1) (by omega) (by omega) (acc++[x.bR]) (by simp;omega);rw[bl hx];rw[g314L0e]at ih⊢;simp at ih hc;simp (disch:=omega) [-getElem?_pos,g314B0,hx,hi,hc,hb,aq];rw[g314L0e];simp[ih]
theorem c314{K:Int→Prop}{t:Ty}(hO:t.Ok)(hk:t.Kn K):(aF AP).p 314 [t.pv]=some [t.bR.pv]:=by
 revert hO hk
 refine Ty.dJ (p:=fun t=>t.Ok→t.Kn K→(aF AP).p 314 [t.pv]=some [t.bR.pv]) ?_ t;intro t ih hO hk;have e:=Ty.Nz hk;rw[ah (af:=g314) rfl rfl (by decide)];by_cases h1:t.kind=1
 ·have k:=c71 (n:=-1) (m:=t.id);rw[if_pos h1]at e;rw[e];simp at k;simp[g314,h1,k]
 ·have h:=VU hO.sm (fun x hx=>ih x hx (hO.gh x hx) (hk.kd x hx)) _ 0 rfl (by omega) [] rfl;rw[if_neg h1]at e;rw[e];rw[g314L0e]at h;simp at h;simp[g314,h1,g314L0e,h]
theorem VV{t:Ty}(hS:Sm t.args)(h:∀x∈t.args,(aF AP).p 316 [x.pv]=some [x.q9.pv]):∀(n i:Nat),t.args.length-i=n→i≤t.args.length→∀acc:List Ty,acc.length=i →
   cl AP g316L0 ⟨[(1,.au 1 0),(2,.au 2 0),(3,.au 3 0),(4,.pv (vI i))],
     [(1,[.pv (vI t.kind),.pv (.str t.name),.pv (vI t.id),.pv (vI t.home),.pv (.aw (t.args.map Ty.pv))]),(2,[.pv (vI 0),.pv (.str []),.pv (vI 0),.pv (vI 0),.own [] 0]),
       (3,[.pv (vI t.kind),.pv (.str t.name),.pv (vI t.id),.pv (vI t.home),.own (acc.map Ty.pv) 1])],[],[0,acc.length]⟩ =
     some (.exit 0,⟨[(1,.au 1 0),(2,.au 2 0),(3,.au 3 0),(4,.pv (vI t.args.length)),(22,.pv (.bool false))],
     [(1,[.pv (vI t.kind),.pv (.str t.name),.pv (vI t.id),.pv (vI t.home),.pv (.aw (t.args.map Ty.pv))]),(2,[.pv (vI 0),.pv (.str []),.pv (vI 0),.pv (vI 0),.own [] 0]),
       (3,[.pv (vI t.kind),.pv (.str t.name),.pv (vI t.id),.pv (vI t.home),.own ((acc++(t.args.drop i).map Ty.q9).map Ty.pv) 1])],[],[0,t.args.length]⟩)
 |0,i,hn,hi,acc,ha=>by
   have:i=t.args.length:=by omega
   subst this;rw[g316L0e];simp[g316B0,ha]
 |n+1,i,hn,hi,acc,ha=>by
   have hi:i<t.args.length:=(by omega);obtain⟨x,hx⟩:=aP hi;unfold Sm at hS;have hb:(acc.length+1)*64≤140737488355328:=(by omega);have hc:=h x (aQ hx);have ih:=VV hS h n (i+1) (by omega) (by omega) (acc++[x.q9]) (by simp;omega);rw[bl hx];rw[g316L0e]at ih⊢;simp at ih hc;simp (disch:=omega) [-getElem?_pos,g316B0,hx,hi,hc,hb,aq];rw[g316L0e];simp[ih]
theorem c316{K:Int→Prop}{t:Ty}(hO:t.Ok)(hk:t.Kn K):(aF AP).p 316 [t.pv]=some [t.q9.pv]:=by
 revert hO hk
 refine Ty.dJ (p:=fun t=>t.Ok→t.Kn K→(aF AP).p 316 [t.pv]=some [t.q9.pv]) ?_ t;intro t ih hO hk;have e:=Ty.NA hk;rw[ah (af:=g316) rfl rfl (by decide)];have h:=VV hO.sm (fun x hx=>ih x hx (hO.gh x hx) (hk.kd x hx)) _ 0 rfl (by omega) [] rfl;rw[g316L0e]at h;simp at h;by_cases h1:t.kind=3
 · by_cases h2:t.home=-1
   ·have k:=c63 (n:=t.id);rw[if_pos ⟨h1,h2⟩]at e;rw[e];simp at k;simp[g316,h1,h2,k]
   ·rw[if_neg (fun q=>h2 q.2)]at e;rw[e];simp[h1]at h;simp[g316,h1,h2,g316L0e,h]
 ·rw[if_neg (fun q=>h1 q.1)]at e;rw[e];simp[g316,h1,g316L0e,h]
theorem dL.kn{K:Int→Prop}{D:Dt→Prop}(hD:∀d,D d→d.name.length≤100){lv:List Ty}(h:∀t∈lv,t.args=[]∧(t.kind≠4→K t.kind)∧t.name.length≤100){n:Nat}{t:Ty}(m:dL D lv n t):t.Kn K:=by
 induction m with
 |leaf hl=>exact Ty.Kn.bare (h _ hl).1 (h _ hl).2.1 (h _ hl).2.2
 |int=>exact Ty.Kn.bare rfl (by simp[bj]) (by simp[bj])
 |kr hd _ _ ih=>exact .mk (by simp) (hD _ hd) ih
 |arrow _ _ ha hb=>exact .mk (by simp) (by simp) (by intro x hx;simp at hx;rcases hx with rfl|rfl<;>assumption)
theorem dL.q9{D:Dt→Prop}{lv:List Ty}(h:∀t∈lv,t.args=[]∧nR (mW t)=t){n:Nat}{t:Ty}(m:dL D lv n t):t.bR.q9=t:=by
 have one:∀t:Ty,t.args=[]→nR (mW t)=t→t.bR.q9=t:=by
   intro t ha e;unfold Ty.bR Ty.q9;rw[Ty.pj ha,Ty.pj,e];unfold mW;split
   ·rfl
   ·exact ha
 have more:∀(nm:bX) (l:List Ty),(∀x∈l,x.bR.q9=x)→(Ty.mk 4 nm 0 0 l).bR.q9=⟨4,nm,0,0,l⟩:=by
   intro nm l hl;by_cases q:l=[]
   ·subst q;exact one _ rfl rfl
   · unfold Ty.bR Ty.q9;rw[Ty.mH (f:=mW) (t:=⟨4,nm,0,0,l⟩) q,Ty.mH (by simpa using q)];simp only[List.map_map];congr 1;conv=>rhs;rw[←List.map_id l]
     exact List.map_congr_left fun x hx=>hl x hx
 induction m with
 |leaf hl=>exact one _ (h _ hl).1 (h _ hl).2
 |int=>exact one _ rfl rfl
 |kr _ _ _ ih=>exact more _ _ ih
 |arrow _ _ ha hb=>exact more _ _ (by intro x hx;simp at hx;rcases hx with rfl|rfl<;>assumption)
noncomputable def sr(c:Sc):Sc:=⟨c.id,c.ty.bR⟩
noncomputable def uI(x:En):En:=⟨x.name,sr x.sc⟩
noncomputable def B_(h:Ho):Ho:=⟨h.bind,h.pos,h.ctx.map uI,h.goal.bR⟩
noncomputable def NB(r:Rp):Rp:=⟨r.types.map sr,r.aH.map B_,[]⟩
def En.cells(x:En):List PV:=[.str x.name,vI x.sc.id,vI x.sc.ty.kind,.str x.sc.ty.name,vI x.sc.ty.id,vI x.sc.ty.home,.aw (x.sc.ty.args.map Ty.pv)]
theorem qj:Row En.cells 7:=⟨by omega,fun _=>rfl⟩
theorem Tl{l:List En}:((l.map En.pv).flatMap aZ).map AV.pv=cr En.cells l:=yy qj
theorem Tm{l:List En}:((fC (cr En.cells l)).bind (fD 7 true l.length)).map PV.aw=some (.aw (l.map En.pv)):=rX qj
theorem c342{c:Sc}(hO:c.ty.Ok):(aF AP).p 342 [c.pv]=some [(sr c).pv]:=by
 have k:=c313 hO;unfold sr;generalize c.ty.bR=u at *;rw[ah (af:=g342) rfl rfl (by decide)];simp at k;simp[g342,k]
theorem VW{h:Ho}(hl:h.ctx.length≤1000000)(hO:∀x∈h.ctx,x.sc.ty.Ok):∀(k i:Nat),h.ctx.length-i=k→i≤h.ctx.length→∀m:List En,m.length=h.ctx.length→m.drop i=h.ctx.drop i →
   cl AP g343L0 ⟨[(1,.au 1 0),(2,.au 2 0),(10,.aT 0 7 h.ctx.length true),(11,.pv (vI h.ctx.length)),(12,.pv (vI i))],
     [(1,[.pv (vI h.bind),.pv (vI h.pos),.aT 0 7 h.ctx.length true,.pv (vI h.goal.kind),.pv (.str h.goal.name),.pv (vI h.goal.id),.pv (vI h.goal.home),.pv (.aw (h.goal.args.map Ty.pv))]),(2,wZ 0)],[some (cr En.cells m)],[0,0]⟩ =
     some (.exit 0,⟨[(1,.au 1 0),(2,.au 2 0),(10,.aT 0 7 h.ctx.length true),(11,.pv (vI h.ctx.length)),(12,.pv (vI h.ctx.length)),(13,.pv (.bool false))],
     [(1,[.pv (vI h.bind),.pv (vI h.pos),.aT 0 7 h.ctx.length true,.pv (vI h.goal.kind),.pv (.str h.goal.name),.pv (vI h.goal.id),.pv (vI h.goal.home),.pv (.aw (h.goal.args.map Ty.pv))]),(2,wZ 0)],[some (cr En.cells (m.take i++(h.ctx.drop i).map uI))],[0,0]⟩)
 |0,i,hk,hi,m,hm,hd=>by
   have:i=h.ctx.length:=by omega
   subst this;have e:m.take h.ctx.length=m:=by rw[List.take_of_length_le (by omega)]
   have hQ:=bf.one (ep (f:=En.cells) (l:=m));rw[g343L0e];simp[g343B0,wZ,e,hQ.norm]
 |k+1,i,hk,hi,m,hm,hd=>by
   have hi:i<h.ctx.length:=(by omega);obtain⟨x,hx⟩:=aP hi
   have hx':m[i]?=some x:=by
     have:=congrArg List.head? hd;rw[List.head?_drop,List.head?_drop,hx]at this;exact this
   have c:=c342 (hO x (aQ hx))
   have hd2:(m.set i (uI x)).drop (i+1)=h.ctx.drop (i+1):=by
     rw[List.drop_set_of_lt (by omega),←List.drop_drop,hd,List.drop_drop]
   have e1:(m.set i (uI x)).take (i+1)++(h.ctx.drop (i+1)).map uI=m.take i++(h.ctx.drop i).map uI:=by
     rw[bl hx,List.take_add_one,List.take_set_of_le (by omega)];simp[hm,hi]
   have ih:=VW hl hO k (i+1) (by omega) (by omega) (m.set i (uI x)) (by simpa using hm) hd2;rw[e1]at ih;have hof:=SK qj hx' (o:=0) (k:=7) (by omega);have hset:=F7 qj hx' (y:=uI x) (o:=1) (vs:=[vI (sr x.sc).id,vI (sr x.sc).ty.kind,.str (sr x.sc).ty.name,vI (sr x.sc).ty.id,vI (sr x.sc).ty.home,.aw ((sr x.sc).ty.args.map Ty.pv)]) (by simp) (by simp[En.cells,uI]);have hle:=EY qj (l:=m) (i:=i) (by omega) (o:=1) (k:=6) (by omega);have hQ:=bf.one (ep (f:=En.cells) (l:=m));have hQ2:=bf.one (ep (f:=En.cells) (l:=m.set i (uI x)));have mp:bY (cr En.cells m)=false:=bV ep;generalize m.take i++(h.ctx.drop i).map uI=M at *;generalize sr x.sc=F at *;generalize m.set i (uI x)=M2 at *;rw[g343L0e]at ih⊢;simp[wZ,hQ2.norm]at ih;simp at c;simp[En.cells]at hof hset;simp (disch:=omega) [-getElem?_pos,g343B0,wZ,hi,hof,c,hset,hle,mp,hQ.norm,hQ.shift,hQ2.norm,aq];rw[g343L0e];simp[ih,hQ2.norm]
theorem c343{h:Ho}(H:uG h):(aF AP).p 343 [h.pv]=some [(B_ h).pv]:=by
 by_cases hn:h.ctx=[]
 ·have k:=c313 H.2.1.ok;unfold B_;generalize h.goal.bR=u at *;simp at k;rw[ah (af:=g343) rfl rfl (by decide)];simp[g343,hn,k,g343L0e,g343B0]
 have hl:=H.1;have L:=VW hl (fun x hx=>(H.2.2 x hx).ok) _ 0 rfl (by omega) h.ctx rfl rfl;have k:=c313 H.2.1.ok;rw[List.take_zero,List.nil_append,List.drop_zero]at L;have hQ:=bf.one (ep (f:=En.cells) (l:=h.ctx));have hQ2:=bf.one (ep (f:=En.cells) (l:=h.ctx.map uI));have e1:=Tl (l:=h.ctx);have e2:=Tm (l:=h.ctx.map uI);have n1:(cr En.cells (h.ctx.map uI)).length=h.ctx.length*7:=by rw[gO qj];simp
 unfold B_;generalize h.goal.bR=u at *;rw[List.length_map]at e2;have n2:(h.ctx.map uI).length=h.ctx.length:=by simp
 generalize h.ctx.map uI=M at *;generalize cr En.cells M=TB at *;rw[g343L0e]at L;simp[wZ,hQ.norm,hQ2.norm]at L;simp at k e1 e2;have hb:h.ctx.length*88≤140737488355328:=by omega
 rw[ah (af:=g343) rfl rfl (by decide)];simp (disch:=omega) [-getElem?_pos,g343,hn,wZ,e1,hb,hQ.norm,hQ.shift,g343L0e,L,hQ2.norm,hQ2.shift,k,e2,n1]
theorem VX{h:Ho}{g:Ty}(hl:h.ctx.length≤1000000)(hO:∀x∈h.ctx,vz x.sc.ty):∀(k i:Nat),h.ctx.length-i=k→i≤h.ctx.length→∀acc:List En,acc.length=i →
   cl AP g344L0 ⟨[(1,.au 1 0),(2,.au 2 0),(3,.au 3 0),(4,.pv (vI i))],
     [(1,uF h),(2,wZ 0),(3,[.pv (vI h.bind),.pv (vI h.pos),.own (acc.map En.pv) 2,.pv (vI g.kind),.pv (.str g.name),.pv (vI g.id),.pv (vI g.home),.pv (.aw (g.args.map Ty.pv))])],[],[0,0,acc.length]⟩ =
     some (.exit 0,⟨[(1,.au 1 0),(2,.au 2 0),(3,.au 3 0),(4,.pv (vI h.ctx.length)),(16,.pv (.bool false))],
     [(1,uF h),(2,wZ 0),(3,[.pv (vI h.bind),.pv (vI h.pos),.own ((acc++(h.ctx.drop i).map uI).map En.pv) 2,.pv (vI g.kind),.pv (.str g.name),.pv (vI g.id),.pv (vI g.home),.pv (.aw (g.args.map Ty.pv))])],[],[0,0,h.ctx.length]⟩)
 |0,i,hk,hi,acc,ha=>by
   have:i=h.ctx.length:=by omega
   subst this;rw[g344L0e];simp[g344B0,uF,wZ,ha]
 |k+1,i,hk,hi,acc,ha=>by
   have hi:i<h.ctx.length:=(by omega);obtain⟨x,hx⟩:=aP hi;have ih:=VX hl hO (g:=g) k (i+1) (by omega) (by omega) (acc++[uI x]) (by simp;omega);have R:=hO x (aQ hx);have c:=c314 R.ok R.kn;have hb:(acc.length+1)*88≤140737488355328:=(by omega);rw[bl hx];rw[g344L0e]at ih⊢;simp[uF,wZ,uI,sr]at ih;simp at c;simp (disch:=omega) [-getElem?_pos,g344B0,uF,wZ,hi,hx,c,aq,hb,uI,sr];rw[g344L0e];simp[ih]
theorem c344{h:Ho}(H:uG h):(aF AP).p 344 [h.pv]=some [(B_ h).pv]:=by
 have L:=VX (g:=h.goal.bR) H.1 H.2.2 _ 0 rfl (by omega) [] rfl;have k:=c314 H.2.1.ok H.2.1.kn;rw[List.drop_zero,List.nil_append]at L;unfold B_;generalize h.ctx.map uI=M at *;generalize h.goal.bR=u at *;rw[g344L0e]at L;simp[uF,wZ]at L;simp at k;rw[ah (af:=g344) rfl rfl (by decide)];simp (disch:=omega) [-getElem?_pos,g344,uF,wZ,k,g344L0e,L]
def eu(r:Rp):List AV:=[.pv (.aw (r.types.map As.pv)),.pv (.aw (r.aH.map Ho.pv)),.pv (.aw (r.homes.map vI))]
theorem Rl{r:Rp}(R:lY r):∀(k i:Nat),r.types.length-i=k→i≤r.types.length→∀acc:List Sc,acc.length=i →
   cl AP g318L0 ⟨[(1,.au 1 0),(2,.au 2 0),(3,.au 3 0),(9,.pv (.aw (r.types.map As.pv))),(10,.pv (vI r.types.length)),(11,.pv (vI i))],
     [(1,eu r),(2,zR 0),(3,[.own (acc.map As.pv) 3,.own [] 4,.own [] 5])],[],[0,0,0,acc.length,0,0]⟩ =
     some (.exit 0,⟨[(1,.au 1 0),(2,.au 2 0),(3,.au 3 0),(9,.pv (.aw (r.types.map As.pv))),(10,.pv (vI r.types.length)),(11,.pv (vI r.types.length)),(12,.pv (.bool false))],
     [(1,eu r),(2,zR 0),(3,[.own ((acc++(r.types.drop i).map sr).map As.pv) 3,.own [] 4,.own [] 5])],[],[0,0,0,r.types.length,0,0]⟩)
 |0,i,hk,hi,acc,ha=>by
   have:i=r.types.length:=by omega
   subst this;rw[g318L0e];simp[g318B0,eu,zR,ha]
 |k+1,i,hk,hi,acc,ha=>by
   have hi:i<r.types.length:=(by omega);obtain⟨x,hx⟩:=aP hi;have ih:=Rl R k (i+1) (by omega) (by omega) (acc++[sr x]) (by simp;omega);have c:=c342 (R.ty x (aQ hx)).ok;have hl:=R.tl;have hb:(acc.length+1)*72≤140737488355328:=(by omega);rw[bl hx,List.map_cons];generalize sr x=F at *;rw[g318L0e]at ih⊢;simp[eu,zR]at ih;simp at c;simp (disch:=omega) [-getElem?_pos,g318B0,eu,zR,hi,hx,c,aq,hb];rw[g318L0e];simp[ih]
theorem Rn{r:Rp}(R:lY r){ts:List Sc}:∀(k i:Nat),r.aH.length-i=k→i≤r.aH.length→∀acc:List Ho,acc.length=i →
   cl AP g318L1 ⟨[(2,.au 2 0),(3,.au 3 0),(24,.pv (.aw (r.aH.map Ho.pv))),(25,.pv (vI r.aH.length)),(26,.pv (vI i))],
     [(2,zR 0),(3,[.own (ts.map As.pv) 3,.own (acc.map Ho.pv) 4,.own [] 5])],[],[0,0,0,ts.length,acc.length,0]⟩ =
     some (.exit 2,⟨[(2,.au 2 0),(3,.au 3 0),(24,.pv (.aw (r.aH.map Ho.pv))),(25,.pv (vI r.aH.length)),(26,.pv (vI r.aH.length)),(27,.pv (.bool false))],
     [(2,zR 0),(3,[.own (ts.map As.pv) 3,.own ((acc++(r.aH.drop i).map B_).map Ho.pv) 4,.own [] 5])],[],[0,0,0,ts.length,r.aH.length,0]⟩)
 |0,i,hk,hi,acc,ha=>by
   have:i=r.aH.length:=by omega
   subst this;rw[g318L1e];simp[g318B1,zR,ha]
 |k+1,i,hk,hi,acc,ha=>by
   have hi:i<r.aH.length:=(by omega);obtain⟨x,hx⟩:=aP hi;have ih:=Rn R (ts:=ts) k (i+1) (by omega) (by omega) (acc++[B_ x]) (by simp;omega);have c:=c343 (R.ho x (aQ hx));have hl:=R.hl;have hb:(acc.length+1)*104≤140737488355328:=(by omega);rw[bl hx,List.map_cons];generalize B_ x=F at *;rw[g318L1e]at ih⊢;simp[zR]at ih;simp at c;simp (disch:=omega) [-getElem?_pos,g318B1,zR,hi,hx,c,aq,hb];rw[g318L1e];simp[ih]
theorem c318{r:Rp}(R:lY r):(aF AP).p 318 [r.pv]=some [(NB r).pv]:=by
 have L0:=Rl R _ 0 rfl (by omega) [] rfl;have L1:=Rn R (ts:=r.types.map sr) _ 0 rfl (by omega) [] rfl;rw[List.drop_zero,List.nil_append]at L0 L1;unfold NB;rw[List.length_map]at L1;generalize r.types.map sr=T at *;generalize r.aH.map B_=H at *;rw[g318L0e]at L0;rw[g318L1e]at L1;simp[eu,zR]at L0 L1;rw[ah (af:=g318) rfl rfl (by decide)];simp (disch:=omega) [-getElem?_pos,g318,zR,g318L0e,L0,g318L1e,L1]
theorem Ro{r:Rp}(R:lY r):∀(k i:Nat),r.types.length-i=k→i≤r.types.length→∀acc:List Sc,acc.length=i →
   cl AP g319L0 ⟨[(1,.au 1 0),(2,.au 2 0),(3,.au 3 0),(4,.pv (vI i))],
     [(1,eu r),(2,zR 0),(3,[.own (acc.map As.pv) 3,.own [] 4,.own [] 5])],[],[0,0,0,acc.length,0,0]⟩ =
     some (.exit 0,⟨[(1,.au 1 0),(2,.au 2 0),(3,.au 3 0),(4,.pv (vI r.types.length)),(10,.pv (.bool false))],
     [(1,eu r),(2,zR 0),(3,[.own ((acc++(r.types.drop i).map sr).map As.pv) 3,.own [] 4,.own [] 5])],[],[0,0,0,r.types.length,0,0]⟩)
 |0,i,hk,hi,acc,ha=>by
   have:i=r.types.length:=by omega
   subst this;rw[g319L0e];simp[g319B0,eu,zR,ha]
 |k+1,i,hk,hi,acc,ha=>by
   have hi:i<r.types.length:=(by omega);obtain⟨x,hx⟩:=aP hi;have ih:=Ro R k (i+1) (by omega) (by omega) (acc++[sr x]) (by simp;omega);have T:=R.ty x (aQ hx);have c:=c314 T.ok T.kn;have hl:=R.tl;have hb:(acc.length+1)*72≤140737488355328:=(by omega);rw[bl hx];rw[g319L0e]at ih⊢;simp[eu,zR,sr]at ih;simp at c;simp (disch:=omega) [-getElem?_pos,g319B0,eu,zR,hi,hx,c,aq,hb,sr];rw[g319L0e];simp[ih]
theorem Rq{r:Rp}(R:lY r){ts:List Sc}:∀(k i:Nat),r.aH.length-i=k→i≤r.aH.length→∀acc:List Ho,acc.length=i →
   cl AP g319L1 ⟨[(1,.au 1 0),(2,.au 2 0),(3,.au 3 0),(5,.pv (vI i))],
     [(1,eu r),(2,zR 0),(3,[.own (ts.map As.pv) 3,.own (acc.map Ho.pv) 4,.own [] 5])],[],[0,0,0,ts.length,acc.length,0]⟩ =
     some (.exit 2,⟨[(1,.au 1 0),(2,.au 2 0),(3,.au 3 0),(5,.pv (vI r.aH.length)),(36,.pv (.bool false))],
     [(1,eu r),(2,zR 0),(3,[.own (ts.map As.pv) 3,.own ((acc++(r.aH.drop i).map B_).map Ho.pv) 4,.own [] 5])],[],[0,0,0,ts.length,r.aH.length,0]⟩)
 |0,i,hk,hi,acc,ha=>by
   have:i=r.aH.length:=by omega
   subst this;rw[g319L1e];simp[g319B1,eu,zR,ha]
 |k+1,i,hk,hi,acc,ha=>by
   have hi:i<r.aH.length:=(by omega);obtain⟨x,hx⟩:=aP hi;have ih:=Rq R (ts:=ts) k (i+1) (by omega) (by omega) (acc++[B_ x]) (by simp;omega);have c:=c344 (R.ho x (aQ hx));have hl:=R.hl;have hb:(acc.length+1)*104≤140737488355328:=(by omega);rw[bl hx,List.map_cons];generalize B_ x=F at *;rw[g319L1e]at ih⊢;simp[eu,zR]at ih;simp at c;simp (disch:=omega) [-getElem?_pos,g319B1,eu,zR,hi,hx,c,aq,hb];rw[g319L1e];simp[ih]
theorem c319{r:Rp}(R:lY r):(aF AP).p 319 [r.pv]=some [(NB r).pv]:=by
 have L0:=Ro R _ 0 rfl (by omega) [] rfl;have L1:=Rq R (ts:=r.types.map sr) _ 0 rfl (by omega) [] rfl;rw[List.drop_zero,List.nil_append]at L0 L1;unfold NB;rw[List.length_map]at L1;generalize r.types.map sr=T at *;generalize r.aH.map B_=H at *;rw[g319L0e]at L0;rw[g319L1e]at L1;simp[eu,zR]at L0 L1;rw[ah (af:=g319) rfl rfl (by decide)];simp (disch:=omega) [-getElem?_pos,g319,zR,g319L0e,L0,g319L1e,L1]
theorem c302b{L:List Int}(hS:Sm L)(bits:Int):∃r:Rp,lY r∧(aF AP).p 302 [vI bits,.aw (L.map vI)]=some [r.pv] ∧
   ((aF AP).i 302 [.pv (vI bits),.pv (.aw (L.map vI))] [] []=some ([.agg (P4 r)],[],[r.types.length,r.aH.length,r.homes.length]) ∨
     r=⟨[],[],[]⟩∧(aF AP).i 302 [.pv (vI bits),.pv (.aw (L.map vI))] [] []=some ([.agg [.cY [],.cY [],.cY []]],[],[])):=by
 obtain⟨ds,bs,hD,_,hbl,hb,k2⟩:=c306p hS bits;obtain⟨r,F,k3,R,_⟩:=c308b hD hbl hb (H:=False) (by simp);rcases k3 with⟨_,k3⟩|⟨_,k3,rfl⟩
 · simp[P4]at k3;refine⟨r,R,?_,.inl ?_⟩
   ·rw[ah (af:=g302) rfl rfl (by decide)];simp[g302,k2,k3]
   ·rw[aB (af:=g302) rfl (by simp[g302])];simp[g302,k2,k3,P4]
 · refine⟨⟨[],[],[]⟩,R,?_,.inr ⟨rfl,?_⟩⟩
   ·rw[ah (af:=g302) rfl rfl (by decide)];simp[g302,k2,k3]
   ·rw[aB (af:=g302) rfl (by simp[g302])];simp[g302,k2,k3]
theorem c302{L:List Int}(hS:Sm L)(bits:Int):∃r:Rp,lY r∧(aF AP).p 302 [vI bits,.aw (L.map vI)]=some [r.pv]:=by
 obtain⟨r,R,h,_⟩:=c302b hS bits;exact⟨r,R,h⟩
def fe(sh:Sh):Prop:=∀cs,some cs∈sh→∀v∈cs,(∃p,v=AV.pv p)∨∃b z n g,v=AV.aT b z n g
theorem q_{aN ts:aG}:∀{cs:List AV},(∀v∈cs,(∃p,v=AV.pv p)∨∃b z n g,v=AV.aT b z n g)→bn aN ts cs=(cs,aN,ts)
 |[],_=>rfl
 |v::r,h=>by
   have h1:=h v (by simp);have ih:=q_ (aN:=aN) (ts:=ts) (cs:=r) fun x hx=>h x (by simp[hx])
   rcases h1 with⟨p,rfl⟩|⟨b,z,n,g,rfl⟩<;>simp[ih]
theorem fe.norm:∀{sh:Sh},fe sh→∀aN ts,cg aN ts sh=(sh,aN,ts)
 |[],_,_,_=>rfl
 |none::r,h,aN,ts=>by
   have ih:=fe.norm (sh:=r) (fun cs hc=>h cs (by simp[hc])) aN ts;simp[ih]
 |some cs::r,h,aN,ts=>by
   have ih:=fe.norm (sh:=r) (fun c hc=>h c (by simp[hc])) aN ts;have h1:=q_ (aN:=aN) (ts:=ts) (h cs (by simp));simp[ih,h1]
theorem J3{t:Ty}(h:t.Ok):∀y∈t.nodes,y.Ok:=by
 induction h with
 | @mk t hs hk ih=>
   intro y hy;rw[Ty.aL]at hy;simp only[List.mem_cons,List.mem_flatMap]at hy;rcases hy with rfl|⟨a,ha,hy⟩
   ·exact .mk hs hk
   ·exact ih a ha y hy
theorem fe.shift:∀{sh:Sh},fe sh→∀n,gi n sh=sh
 |[],_,_=>rfl
 |none::r,h,n=>by
   have ih:=fe.shift (sh:=r) (fun cs hc=>h cs (by simp[hc])) n;simp[ih]
 |some cs::r,h,n=>by
   have ih:=fe.shift (sh:=r) (fun c hc=>h c (by simp[hc])) n
   have h1:cs.map (cm n)=cs:=by
     conv=>rhs;rw[←List.map_id cs]
     refine List.map_congr_left fun v hv=>?_;rcases h cs (by simp) v hv with⟨p,rfl⟩|⟨b,z,k,g,rfl⟩<;>rfl
   simp[ih,h1]
theorem Rr{s:List Int}(hS:Sm s){sh:Sh}(hq:fe sh){g:Nat}{cap:List AV}{p:Int→Bool}(hcap:bD.ew cap=true)(hpass:bM.iu cap=true)(harg:dO [] 1 cap=cap)(hnrm:∀aN ts,bn aN ts cap=(cap,aN,ts))(hpo:cap.all bE=true)
   (hf:∀x,(aF AP).i g (.pv (vI x)::cap) sh []=some ([.pv (.bool (p x))],sh,[])):∀(n i:Nat),s.length-i=n→i≤s.length →
   cl AP g115L0 ⟨[(0,.pv (.aw (s.map vI))),(1,.fn g cap),(7,.pv (vI s.length)),(8,.pv (vI i))],[],sh,[]⟩=JC (.fn g cap) s sh i (db p (s.drop i))
 |0,i,hn,hi=>by
   have:i=s.length:=by omega
   subst this;rw[g115L0e];simp[g115B0,db,JC,hq.norm,hcap]
 |n+1,i,hn,hi=>by
   have hi:i<s.length:=(by omega);obtain⟨x,hx⟩:=aP hi;unfold Sm at hS;have ih:=Rr hS hq hcap hpass harg hnrm hpo hf n (i+1) (by omega) (by omega);simp at ih;have hc:=hf x;rw[g115L0e,bl hx];cases e:p x with
   |true=>
     rw[e]at hc;simp (disch:=omega) [-getElem?_pos,g115B0,hx,hi,e,db,JC,hq.norm,hq.shift,hc,hcap,hpass,harg,hnrm,hpo]
   |false=>
     rw[e]at hc;simp (disch:=omega) [-getElem?_pos,g115B0,hx,hi,e,db,aq,hq.norm,hq.shift,hc,ih,hcap,hpass,harg,hnrm,hpo];cases db p (s.drop (i+1)) with
     |none=>rfl
     |some k=>simp[JC];omega
theorem c85q{s:List Int}(hS:Sm s){sh:Sh}(hq:fe sh){g:Nat}{cap:List AV}{p:Int→Bool}(hcap:bD.ew cap=true)(hpass:bM.iu cap=true)(harg:dO [] 1 cap=cap)(hnrm:∀aN ts,bn aN ts cap=(cap,aN,ts))(hpo:cap.all bE=true)
   (hf:∀x,(aF AP).i g (.pv (vI x)::cap) sh []=some ([.pv (.bool (p x))],sh,[])):(aF AP).i 85 [.pv (.aw (s.map vI)),.fn g cap] sh []=some ([.pv (.bool (s.any p))],sh,[]):=by
 have h:=Rr hS hq hcap hpass harg hnrm hpo hf _ 0 rfl (by omega);simp at h
 have c115:(aF AP).i 115 [.pv (.aw (s.map vI)),.fn g cap] sh []=some ([.pv (vI (match db p s with|some k=>k|none=>-1))],sh,[]):=by
   rw[aB (af:=g115) rfl (by simp[g115])];cases hi:db p s with
   |none=>rw[hi]at h;simp[JC]at h;simp[g115,h,hq.norm,hcap]
   |some k=>rw[hi]at h;simp[JC]at h;simp[g115,h,hq.norm,hcap]
 rw[aB (af:=g85) rfl (by simp[g85])];cases hi:db p s with
 |none=>
   rw[hi]at c115;have:s.any p=false:=by rw[List.any_eq_false];intro x hx;rw[i_.1 hi x hx];simp
   simp[g85,c115,hq.norm,hq.shift,hcap,hpass,hnrm,this]
 |some k=>
   rw[hi]at c115
   have:s.any p=true:=by
     cases e:s.any p with
     |true=>rfl
     |false=>rw[List.any_eq_false]at e;have:=i_.2 (fun x hx=>by simpa using e x hx);rw[hi]at this;cases this
   simp[g85,c115,hq.norm,hq.shift,hcap,hpass,hnrm,this]
theorem c346{r:Rp}{k:Nat}{h:Ho}(hx:r.aH[k]?=some h):(aF AP).p 346 [r.pv,vI k]=some [h.pv,vI 0]:=by
 have hlt:=(List.getElem?_eq_some_iff.1 hx).1;have h1:¬r.aH.length≤k:=by omega
 have h2:¬(k:Int)<0:=by omega
 rw[ah (af:=g346) rfl rfl (by decide)];simp[-getElem?_pos,g346,hx,hlt,h1,h2]
theorem VY{h:Ho}(hl:h.ctx.length≤1000000):∀(k i:Nat),h.ctx.length-i=k→i≤h.ctx.length→∀acc:List Ty,acc.length=i →
   cl AP g347L1 ⟨[(0,.pv (.aw [h.pv])),(3,.own (acc.map Ty.pv) 0),(4,.pv (vI 0)),(5,.pv (vI i))],[],[],[acc.length]⟩ =
     some (.exit 2,⟨[(0,.pv (.aw [h.pv])),(3,.own ((acc++(h.ctx.drop i).map fun x=>x.sc.ty).map Ty.pv) 0),(4,.pv (vI 0)),(5,.pv (vI h.ctx.length)),(19,.pv (.bool false))],[],[],[h.ctx.length]⟩)
 |0,i,hk,hi,acc,ha=>by
   have:i=h.ctx.length:=by omega
   subst this;rw[g347L1e];simp[g347B1,ha]
 |k+1,i,hk,hi,acc,ha=>by
   have hi:i<h.ctx.length:=(by omega);obtain⟨x,hx⟩:=aP hi;have ih:=VY hl k (i+1) (by omega) (by omega) (acc++[x.sc.ty]) (by simp;omega);have hb:(acc.length+1)*64≤140737488355328:=(by omega);rw[bl hx];rw[g347L1e]at ih⊢;simp at ih;simp (disch:=omega) [-getElem?_pos,g347B1,hi,hx,aq,hb];rw[g347L1e];simp[ih]
theorem c347{h:Ho}(H:uG h):(aF AP).p 347 [.aw [h.pv]]=some [.aw ((vars (aW [h])).map vI)]:=by
 have hl:=H.1;have L:=VY hl _ 0 rfl (by omega) [] rfl;have rV:=H.rV;have lens:(aW [h]).length≤1000001:=by simp[aW];omega
 have oks:∀t∈(aW [h]).flatMap Ty.nodes,t.Ok:=by
   intro t ht;simp only[List.mem_flatMap]at ht;obtain⟨u,hu,ht⟩:=ht;exact J3 ((H.wT u hu).ok) t ht
 have k2:=c56 (S:=(aW [h]).flatMap Ty.nodes) (by omega) oks (l:=aW [h]) (by unfold Sm;omega) (fun t ht=>(H.wT t ht).ok) (by
   intro x hx;simp only[List.mem_flatMap]at hx⊢;obtain⟨t,ht,hx⟩:=hx;exact⟨t,ht,JG hx⟩)
 rw[lI fun t ht=>(H.wT t ht).kn.wf]at k2;have hr:aW [h]=h.ctx.map (fun x=>x.sc.ty)++[h.goal]:=by simp[aW]
 have hb:(h.ctx.length+1)*64≤140737488355328:=by omega
 have hh:=pk.head (h.ctx.map fun x=>x.sc.ty);rw[List.map_map]at hh;rw[hr]at k2⊢;generalize vars (h.ctx.map (fun x=>x.sc.ty)++[h.goal])=v at *;rw[g347L1e]at L;simp at L k2;rw[ah (af:=g347) rfl rfl (by decide)];simp (disch:=omega) [g347,g347L0e,g347B0,g347L1e,L,k2,hb,hh,aq]
theorem c324{r:Rp}{k:Nat}{h:Ho}(hx:r.aH[k]?=some h)(H:uG h):(aF AP).p 324 [r.pv,vI k]=some [.aw ((vars (aW [h])).map vI)]:=by
 have k1:=c346 hx;have k2:=c347 H;generalize vars (aW [h])=v at *;simp at k1 k2;rw[ah (af:=g324) rfl rfl (by decide)];simp[g324,k1,k2]
def iT(C:List Nat):List AV:=C.map fun (c:Nat)=>AV.pv (vI (c:Int))
def vT(V:List (List Int)):List AV:=V.map fun v=>.pv (.aw (v.map vI))
theorem iP{C:List Nat}:(iT C).length=C.length:=by simp[iT]
theorem yU{V:List (List Int)}:(vT V).length=V.length:=by simp[vT]
theorem dh{C:List Nat}:∀v∈iT C,∃p,v=AV.pv p:=by
 intro v hv;simp only[iT,List.mem_map]at hv;obtain⟨c,_,rfl⟩:=hv;exact⟨_,rfl⟩
theorem uB{V:List (List Int)}:∀v∈vT V,∃p,v=AV.pv p:=by
 intro v hv;simp only[vT,List.mem_map]at hv;obtain⟨c,_,rfl⟩:=hv;exact⟨_,rfl⟩
theorem yV{C:List Nat}{i c:Nat}(h:i<C.length):aR (iT C) i [.pv (vI c)]=iT (C.set i c):=by
 unfold iT;rw[List.map_set,List.set_eq_take_append_cons_drop,if_pos (by simpa using h)];simp[aR]
theorem Tn{V:List (List Int)}{i:Nat}{v:List Int}(h:i<V.length):aR (vT V) i [.pv (.aw (v.map vI))]=vT (V.set i v):=by
 unfold vT;rw[List.map_set,List.set_eq_take_append_cons_drop,if_pos (by simpa using h)];simp[aR]
theorem lR{C:List Nat}{i c:Nat}(h:C[i]?=some c):(iT C)[i]?=some (.pv (vI c)):=by simp[iT,h]
theorem Fy{V:List (List Int)}{i:Nat}{v:List Int}(h:V[i]?=some v):(vT V)[i]?=some (.pv (.aw (v.map vI))):=by simp[vT,h]
def gI(C:List Nat)(i:Nat):Nat:=C[i]?.getD 0
def kU(lo hi c:Nat):Nat:=if c=hi then lo else c
def uD(R:Nat→Nat→Bool)(i:Nat)(C:List Nat)(j:Nat):List Nat:=if R i j=true then C.map (kU (min (gI C i) (gI C j)) (max (gI C i) (gI C j))) else C
def kW(R:Nat→Nat→Bool)(C:List Nat)(i:Nat):List Nat:=(List.range' 0 i).foldl (uD R i) C
theorem pI{R:Nat→Nat→Bool}{i j:Nat}{C:List Nat}:(uD R i C j).length=C.length:=by unfold uD;split<;>simp
theorem NC{R:Nat→Nat→Bool}{i:Nat}{l:List Nat}:∀{C:List Nat},(l.foldl (uD R i) C).length=C.length:=by
 induction l with
 |nil=>intro C;rfl
 |cons a r ih=>intro C;rw[List.foldl_cons,ih,pI]
theorem ss{R:Nat→Nat→Bool}{i:Nat}{C:List Nat}:(kW R C i).length=C.length:=NC
theorem ND{R:Nat→Nat→Bool}{l:List Nat}:∀{C:List Nat},(l.foldl (kW R) C).length=C.length:=by
 induction l with
 |nil=>intro C;rfl
 |cons a r ih=>intro C;rw[List.foldl_cons,ih,ss]
def ff(V:List (List Int))(i j:Nat):Bool:=(V[i]?.getD []).any fun v=>decide (v∈V[j]?.getD [])
def iG(h:Ho):List Int:=vars (aW [h])
def jM(n:Nat)(V:List (List Int))(C:List Nat):Sh:=[some (vT V),some (iT C),some [.aT 0 1 n false]]
theorem cv{n:Nat}{V:List (List Int)}{C:List Nat}{B:Sh}(hB:fe B):fe (jM n V C++B):=by
 intro cs hc v hv;rcases List.mem_append.1 hc with h|h
 · simp only[jM,List.mem_cons,Option.some.injEq,List.not_mem_nil,or_false]at h;rcases h with rfl|rfl|rfl
   ·exact .inl (uB v hv)
   ·exact .inl (dh v hv)
   ·simp at hv;subst hv;exact .inr ⟨_,_,_,_,rfl⟩
 ·exact hB cs h v hv
theorem Rs{r:Rp}(hl:r.aH.length≤200000)(hH:∀h∈r.aH,uG h):∀(k i:Nat),r.aH.length-i=k→i≤r.aH.length→∀(C:List Nat) (V:List (List Int)),C.length=r.aH.length→V.length=r.aH.length →
   cl AP g303L0 ⟨[(1,.au 1 0),(3,.pv (vI r.aH.length)),(4,.aT 1 1 r.aH.length false),(5,.aM 2 0),(25,.pv (vI r.aH.length)),(26,.pv (vI i))],[(1,eu r)],jM r.aH.length V C,[]⟩ =
     some (.exit 0,⟨[(1,.au 1 0),(3,.pv (vI r.aH.length)),(4,.aT 1 1 r.aH.length false),(5,.aM 2 0),(25,.pv (vI r.aH.length)),(26,.pv (vI r.aH.length)),(27,.pv (.bool false))],[(1,eu r)],
       jM r.aH.length (V.take i++(r.aH.drop i).map iG) (C.take i++List.range' i (r.aH.length-i)),[]⟩)
 |0,i,hk,hi,C,V,hC,hV=>by
   have:i=r.aH.length:=by omega
   subst this;have e1:C.take r.aH.length=C:=by rw[List.take_of_length_le (by omega)]
   have e2:V.take r.aH.length=V:=(by rw[List.take_of_length_le (by omega)]);have q1:=(bf.one (dh (C:=C))).norm;have q2:=(bf.one (uB (V:=V))).norm;rw[g303L0e];simp at q1 q2;simp[g303B0,eu,jM,e1,e2,q1,q2]
 |k+1,i,hk,hi,C,V,hC,hV=>by
   have hi:i<r.aH.length:=(by omega);obtain⟨h,hx⟩:=aP hi;have c:=c309 hx (hH h (aQ hx));have ih:=Rs hl hH k (i+1) (by omega) (by omega) (C.set i i) (V.set i (iG h)) (by simpa using hC) (by simpa using hV)
   have e1:(V.set i (iG h)).take (i+1)++(r.aH.drop (i+1)).map iG=V.take i++(r.aH.drop i).map iG:=by
     rw[bl hx,List.take_add_one,List.take_set_of_le (by omega)];simp[hV,hi]
   have e2:(C.set i i).take (i+1)++List.range' (i+1) (r.aH.length-(i+1))=C.take i++List.range' i (r.aH.length-i):=by
     rw[List.take_add_one,List.take_set_of_le (by omega),show r.aH.length-i=(r.aH.length-(i+1))+1 by omega,List.range'_succ];simp[hC,hi]
   rw[e1,e2]at ih;have s1:=yV (C:=C) (i:=i) (c:=i) (by omega);have s2:=Tn (V:=V) (i:=i) (v:=iG h) (by omega);have l1:i+1≤(iT C).length:=by rw[iP];omega
   have l2:i+1≤(vT V).length:=(by rw[yU];omega);have q1:=(bf.one (dh (C:=C))).norm;have q2:=(bf.one (uB (V:=V))).norm;have q3:=(bf.one (dh (C:=C.set i i))).norm;have q4:=(bf.one (uB (V:=V.set i (iG h)))).norm;have m1:bY (iT C)=false:=bV dh;have m2:bY (vT V)=false:=bV uB
   change (aF AP).p 309 [r.pv,vI i]=some [.aw ((iG h).map vI)]at c
   generalize V.take i++(r.aH.drop i).map iG=V9 at *;generalize C.take i++List.range' i (r.aH.length-i)=C9 at *;generalize iG h=v at *;rw[g303L0e]at ih⊢;simp at q1 q2 q3 q4 s1 s2 c;simp[eu,jM,q3,q4]at ih;simp (disch:=omega) [-getElem?_pos,g303B0,eu,jM,hi,c,s1,s2,l1,l2,q1,q2,q3,q4,m1,m2,aq];rw[g303L0e];simp[ih,q3,q4]
theorem Ru{n i j lo hi:Nat}{V:List (List Int)}{B:Sh}(hB:fe B)(hn:n≤200000):∀(q k:Nat),n-k=q→k≤n→∀C:List Nat,C.length=n →
   cl AP g303L3 ⟨[(3,.pv (vI n)),(4,.aT 1 1 n false),(5,.aM 2 0),(7,.pv (vI i)),(9,.pv (.bool true)),(10,.pv (vI lo)),(11,.pv (vI hi)),(12,.pv (vI k)),(40,.pv (vI n)),(41,.pv (vI i)),(44,.pv (vI i)),(45,.pv (vI j))],[],jM n V C++B,[]⟩ =
     some (.exit 6,⟨[(3,.pv (vI n)),(4,.aT 1 1 n false),(5,.aM 2 0),(7,.pv (vI i)),(9,.pv (.bool true)),(10,.pv (vI lo)),(11,.pv (vI hi)),(12,.pv (vI n)),(40,.pv (vI n)),(41,.pv (vI i)),(44,.pv (vI i)),(45,.pv (vI j)),(77,.pv (.bool false))],[],
       jM n V (C.take k++(C.drop k).map (kU lo hi))++B,[]⟩)
 |0,k,hq,hk,C,hC=>by
   have:k=n:=by omega
   subst this;have e1:C.take k=C:=by rw[List.take_of_length_le (by omega)]
   have e2:C.drop k=[]:=(by rw[List.drop_eq_nil_of_le (by omega)]);have Q:=(cv (n:=k) (V:=V) (C:=C) hB).norm;rw[g303L3e,e1,e2,List.map_nil,List.append_nil];simp only[jM,List.cons_append,List.nil_append]at Q;simp[g303B3,jM,Q]
 |q+1,k,hq,hk,C,hC=>by
   have hk:k<n:=(by omega);obtain⟨c,hx⟩:=aP (l:=C) (i:=k) (by omega);have ih:=Ru (i:=i) (j:=j) (lo:=lo) (hi:=hi) (V:=V) hB hn q (k+1) (by omega) (by omega) (C.set k (kU lo hi c)) (by simpa using hC)
   have e1:(C.set k (kU lo hi c)).take (k+1)++((C.set k (kU lo hi c)).drop (k+1)).map (kU lo hi)=C.take k++(C.drop k).map (kU lo hi):=by
     rw[bl hx,List.take_add_one,List.take_set_of_le (by omega),List.drop_set_of_lt (by omega)];simp[hC,hk]
   rw[e1]at ih;have s1:=yV (C:=C) (i:=k) (c:=lo) (by omega);have g1:=lR hx;have l1:k+1≤(iT C).length:=by rw[iP];omega
   have l2:k<(iT C).length:=(by rw[iP];omega);have m1:bY (iT C)=false:=bV dh;have Q:=(cv (n:=n) (V:=V) (C:=C) hB).norm;have Q2:=(cv (n:=n) (V:=V) (C:=C.set k (kU lo hi c)) hB).norm;generalize C.take k++(C.drop k).map (kU lo hi)=C9 at *;rw[g303L3e]at ih⊢;simp only[jM,List.cons_append,List.nil_append]at Q Q2 ih⊢;by_cases e:c=hi
   ·have e2:kU lo hi c=lo:=(by simp[kU,e]);rw[e2]at ih Q2;have e3:(c:Int)=hi:=(by omega);simp[Q2]at ih s1;simp (disch:=omega) [-getElem?_pos,g303B3,hk,g1,l1,l2,m1,s1,e,e3,Q,Q2,aq];rw[g303L3e];simp[ih,Q2]
   · have e2:kU lo hi c=c:=by simp[kU,e]
     have e4:C.set k c=C:=by
       apply List.ext_getElem?
       intro z;rw[List.getElem?_set];split
       ·rename_i h;subst h;rw[hx];simp only[hC,hk,if_true]
       ·rfl
     rw[e2,e4]at ih;have e3:¬(c:Int)=hi:=by omega
     simp[Q]at ih;simp (disch:=omega) [-getElem?_pos,g303B3,hk,g1,l1,l2,m1,e,e3,Q,aq];rw[g303L3e];simp[ih,Q]
theorem VZ{n i j lo hi:Nat}{V:List (List Int)}{C:List Nat}{B:Sh}(hB:fe B) :
   cl AP g303L3 ⟨[(3,.pv (vI n)),(4,.aT 1 1 n false),(5,.aM 2 0),(7,.pv (vI i)),(9,.pv (.bool false)),(10,.pv (vI lo)),(11,.pv (vI hi)),(12,.pv (vI 0)),(40,.pv (vI n)),(41,.pv (vI i)),(44,.pv (vI i)),(45,.pv (vI j))],[],jM n V C++B,[]⟩ =
     some (.exit 6,⟨[(3,.pv (vI n)),(4,.aT 1 1 n false),(5,.aM 2 0),(7,.pv (vI i)),(9,.pv (.bool false)),(10,.pv (vI lo)),(11,.pv (vI hi)),(12,.pv (vI 0)),(40,.pv (vI n)),(41,.pv (vI i)),(44,.pv (vI i)),(45,.pv (vI j)),(77,.pv (.bool false))],[],jM n V C++B,[]⟩):=by
 have Q:=(cv (n:=n) (V:=V) (C:=C) hB).norm;rw[g303L3e];simp only[jM,List.cons_append,List.nil_append]at Q⊢;simp[g303B3,Q]
theorem NF{B:Sh}{x:Option (List AV)}:(B++[x])[B.length]?=some x:=by simp
theorem To{B:Sh}{x y:Option (List AV)}:(B++[x]).set B.length y=B++[y]:=by simp[List.set_append]
theorem Gx{B:Sh}(hB:fe B){p:PV}:fe (B++[some [.pv p]]):=by
 intro c hc v hv;rcases List.mem_append.1 hc with h'|h'
 ·exact hB c h' v hv
 ·simp at h';subst h';simp at hv;subst hv;exact .inl ⟨_,rfl⟩
theorem c323{n j:Nat}{V:List (List Int)}{C:List Nat}{w:List Int}(hw:V[j]?=some w)(hV:V.length=n)(hS:Sm w){B:Sh}(hB:fe B)(x:Int) :
   (aF AP).i 323 [.pv (vI x),.aM 2 0,.aM (3+B.length) 0] (jM n V C++(B++[some [.pv (vI j)]])) []=some ([.pv (.bool (decide (x∈w)))],jM n V C++(B++[some [.pv (vI j)]]),[]):=by
 have hj:=(List.getElem?_eq_some_iff.1 hw).1;have hj':j<n:=by omega
 have k:=c98 hS (y:=x);have Q:=cv (n:=n) (V:=V) (C:=C) (Gx hB (p:=vI j));have Qn:=Q.norm;have Qs:=Q.shift
 have g1:(jM n V C++(B++[some [.pv (vI j)]]))[3+B.length]?=some (some [.pv (vI j)]):=by
   rw[List.getElem?_append_right (by simp[jM])];simp[jM]
 have g2:(jM n V C++(B++[some [.pv (vI j)]]))[2]?=some (some [.aT 0 1 n false]):=by simp[jM]
 have g3:(jM n V C++(B++[some [.pv (vI j)]]))[0]?=some (some (vT V)):=by simp[jM]
 have v1:=Fy hw;have l1:j+1≤(vT V).length:=by rw[yU];omega
 have l2:¬(vT V).length<j+1:=by omega
 have m2:bY (vT V)=false:=bV uB;generalize jM n V C++(B++[some [.pv (vI j)]])=S at *;rw[aB (af:=g323) rfl (by simp[g323])];simp (disch:=omega) [-getElem?_pos,g323,Qn,Qs,g1,g2,g3,v1,l1,l2,m2,k,hj']
theorem Gy{a b:Nat}:(if b<a then (b:Int) else a)=((min a b:Nat):Int):=by split<;>omega
theorem Gz{a b:Nat}:(if a<b then (b:Int) else a)=((max a b:Nat):Int):=by split<;>omega
theorem Rv{n i:Nat}{V:List (List Int)}(hn:n≤200000)(hV:V.length=n)(sq:∀w∈V,Sm w)(hi:i<n):∀(q j:Nat),i-j=q→j≤i→∀(C:List Nat) (B:Sh),C.length=n→fe B→∃B':Sh,fe B' ∧
   cl AP g303L2 ⟨[(3,.pv (vI n)),(4,.aT 1 1 n false),(5,.aM 2 0),(7,.pv (vI i)),(40,.pv (vI n)),(41,.pv (vI i)),(44,.pv (vI i)),(45,.pv (vI j))],[],jM n V C++B,[]⟩ =
     some (.exit 4,⟨[(3,.pv (vI n)),(4,.aT 1 1 n false),(5,.aM 2 0),(7,.pv (vI i)),(40,.pv (vI n)),(41,.pv (vI i)),(44,.pv (vI i)),(45,.pv (vI i)),(46,.pv (.bool false))],[],jM n V ((List.range' j (i-j)).foldl (uD (ff V) i) C)++B',[]⟩)
 |0,j,hq,hj,C,B,hC,hB=>by
   have:j=i:=by omega
   subst this;refine⟨B,hB,?_⟩;have Q:=(cv (n:=n) (V:=V) (C:=C) hB).norm;rw[g303L2e,Nat.sub_self,List.range'_zero,List.foldl_nil];simp only[jM,List.cons_append,List.nil_append]at Q⊢;simp[g303B2,Q]
 |q+1,j,hq,hj,C,B,hC,hB=>by
   have hj:j<i:=(by omega);obtain⟨wi,h1⟩:=aP (l:=V) (i:=i) (by omega);obtain⟨wj,h2⟩:=aP (l:=V) (i:=j) (by omega);obtain⟨ci,k1⟩:=aP (l:=C) (i:=i) (by omega);obtain⟨cj,k2⟩:=aP (l:=C) (i:=j) (by omega);have hB2:=Gx hB (p:=vI j);obtain⟨B',hB',ih⟩:=Rv hn hV sq hi q (j+1) (by omega) (by omega) (uD (ff V) i C j) (B++[some [.pv (vI j)]]) (by rw[pI];exact hC) hB2;refine⟨B',hB',?_⟩
   have er:(List.range' j (i-j)).foldl (uD (ff V) i) C=(List.range' (j+1) (i-(j+1))).foldl (uD (ff V) i) (uD (ff V) i C j):=by
     rw[show i-j=(i-(j+1))+1 by omega,List.range'_succ,List.foldl_cons]
   rw[er];have c:=c85q (sq wi (aQ h1)) (cv (n:=n) (V:=V) (C:=C) hB2) (g:=323) (cap:=[.aM 2 0,.aM (3+B.length) 0]) (p:=fun x=>decide (x∈wj)) rfl rfl rfl (fun _ _=>rfl) rfl (c323 h2 hV (sq wj (aQ h2)) hB);have hr:ff V i j=wi.any fun x=>decide (x∈wj):=by simp[ff,h1,h2]
   have hs:uD (ff V) i C j=if (wi.any fun x=>decide (x∈wj))=true then C.map (kU (min ci cj) (max ci cj)) else C:=(by simp only[uD,hr,gI,k1,k2,Option.getD_some]);rw[hs]at ih⊢;generalize (wi.any fun x=>decide (x∈wj))=b at *;have D1:=Ru (i:=i) (j:=j) (lo:=min ci cj) (hi:=max ci cj) (V:=V) hB2 hn _ 0 rfl (by omega) C hC;have D0:=VZ (n:=n) (i:=i) (j:=j) (lo:=min ci cj) (hi:=max ci cj) (V:=V) (C:=C) hB2;rw[List.take_zero,List.nil_append,List.drop_zero]at D1;have v1:=Fy h1;have v2:=Fy h2;have l1:i+1≤(vT V).length:=(by rw[yU];omega);have l2:j+1≤(vT V).length:=(by rw[yU];omega);have w1:=lR k1;have w2:=lR k2;have l3:i+1≤(iT C).length:=(by rw[iP];omega);have l4:j+1≤(iT C).length:=(by rw[iP];omega);have m1:bY (vT V)=false:=bV uB;have m2:bY (iT C)=false:=bV dh;have hj':j<n:=(by omega);have Q:=(cv (n:=n) (V:=V) (C:=C) hB).norm;have Q1:=(cv (n:=n) (V:=V) (C:=C) hB2).norm;have Q2:=(cv (n:=n) (V:=V) (C:=C) hB2).shift;have Q3:=(cv (n:=n) (V:=V) (C:=C.map (kU (min ci cj) (max ci cj))) hB2).norm;rw[show 3+B.length=B.length+1+1+1 by omega]at c;generalize (List.range' (j+1) (i-(j+1))).foldl (uD (ff V) i) (if b=true then C.map (kU (min ci cj) (max ci cj)) else C)=C9 at *;have mn:=Gy (a:=ci) (b:=cj);have mx:=Gz (a:=ci) (b:=cj);generalize min ci cj=lo at *;generalize max ci cj=mv at *;rw[g303L2e]at ih⊢;simp only[jM,List.cons_append,List.nil_append]at Q Q1 Q2 Q3 c ih D0 D1⊢;simp at Q2;have bg:=NF (B:=B) (x:=some [.pv (vI 0)]);have bs:=To (B:=B) (x:=some [.pv (vI 0)]) (y:=some [.pv (vI j)]);have bg2:=NF (B:=B) (x:=some [.pv (vI j)]);cases b with
   |true=>
     simp only[if_true]at ih;simp[Q3]at ih D1;simp (disch:=omega) [-getElem?_pos,g303B2,hi,hj,hj',v1,v2,l1,l2,l3,l4,w1,w2,m1,m2,Q,Q1,Q2,Q3,aq,bg,bs,bg2,c,mn,mx,D1];rw[g303L2e];simp[ih,Q3]
   |false=>
     simp only[if_neg (by decide:¬false=true)]at ih;simp[Q1]at ih D0;simp (disch:=omega) [-getElem?_pos,g303B2,hi,hj,hj',v1,v2,l1,l2,l3,l4,w1,w2,m1,m2,Q,Q1,Q2,aq,bg,bs,bg2,c,mn,mx,D0];rw[g303L2e];simp[ih,Q1]
theorem Rw{n:Nat}{V:List (List Int)}(hn:n≤200000)(hV:V.length=n)(sq:∀w∈V,Sm w):∀(q i:Nat),n-i=q→i≤n→∀(C:List Nat) (B:Sh),C.length=n→fe B→∃B':Sh,fe B' ∧
   cl AP g303L1 ⟨[(3,.pv (vI n)),(4,.aT 1 1 n false),(5,.aM 2 0),(40,.pv (vI n)),(41,.pv (vI i))],[],jM n V C++B,[]⟩ =
     some (.exit 2,⟨[(3,.pv (vI n)),(4,.aT 1 1 n false),(5,.aM 2 0),(40,.pv (vI n)),(41,.pv (vI n)),(42,.pv (.bool false))],[],jM n V ((List.range' i (n-i)).foldl (kW (ff V)) C)++B',[]⟩)
 |0,i,hq,hi,C,B,hC,hB=>by
   have:i=n:=by omega
   subst this;refine⟨B,hB,?_⟩;have Q:=(cv (n:=i) (V:=V) (C:=C) hB).norm;rw[g303L1e,Nat.sub_self,List.range'_zero,List.foldl_nil];simp only[jM,List.cons_append,List.nil_append]at Q⊢;simp[g303B1,Q]
 |q+1,i,hq,hi,C,B,hC,hB=>by
   have hi:i<n:=(by omega);obtain⟨B1,hB1,L⟩:=Rv hn hV sq hi _ 0 rfl (by omega) C B hC hB;obtain⟨B',hB',ih⟩:=Rw hn hV sq q (i+1) (by omega) (by omega) (kW (ff V) C i) B1 (by rw[ss];exact hC) hB1;refine⟨B',hB',?_⟩;rw[show n-i=(n-(i+1))+1 by omega,List.range'_succ,List.foldl_cons]
   change cl AP g303L2 _=some (.exit 4,⟨_,_,jM n V (kW (ff V) C i)++B1,_⟩)at L
   have Q:=(cv (n:=n) (V:=V) (C:=C) hB).norm;have Q2:=(cv (n:=n) (V:=V) (C:=kW (ff V) C i) hB1).norm;generalize (List.range' (i+1) (n-(i+1))).foldl (kW (ff V)) (kW (ff V) C i)=C9 at *;generalize kW (ff V) C i=C1 at *;rw[g303L1e]at ih⊢;rw[g303L2e]at L;simp only[jM,List.cons_append,List.nil_append]at Q Q2 L ih⊢;simp[Q,Q2]at ih L;simp (disch:=omega) [-getElem?_pos,g303B1,hi,Q,Q2,aq,g303L2e,L];rw[g303L1e];simp[ih,Q2]
def ej(C:List Nat)(g k:Nat):List Int:=((List.range' k (C.length-k)).filter fun x=>decide (gI C x=g)).map fun (x:Nat)=>(x:Int)
def uJ(g:List Int):PV:=.aw (g.map vI)
theorem B4{l:List (List Int)}:a_ 1 (l.map uJ)=true:=by cases l<;>rfl
theorem w4{C:List Nat}{g k c:Nat}(h:C[k]?=some c):ej C g k=if c=g then (k:Int)::ej C g (k+1) else ej C g (k+1):=by
 have hk:=(List.getElem?_eq_some_iff.1 h).1;unfold ej;rw[show C.length-k=(C.length-(k+1))+1 by omega,List.range'_succ,List.filter_cons];by_cases e:c=g
 ·simp[gI,h,e]
 ·simp[gI,h,e]
theorem B5{C:List Nat}{g:Nat}:ej C g C.length=[]:=by simp[ej]
theorem NG{n g:Nat}{V:List (List Int)}{C:List Nat}{B:Sh}{G:List (List Int)}(hB:fe B)(hn:n≤200000)(hC:C.length=n):∀(q k:Nat),n-k=q→k≤n→∀acc:List Int,acc.length≤k→∃T:Nat,
   cl AP g303L5 ⟨[(4,.aT 1 1 n false),(13,.own (G.map uJ) 0),(14,.pv (vI g)),(15,.own (acc.map vI) 1),(92,.pv (vI n)),(93,.pv (vI g)),(96,.aT 1 1 n false),(97,.pv (vI n)),(98,.pv (vI k))],[],jM n V C++B,[G.length,acc.length]⟩ =
     some (.exit 10,⟨[(4,.aT 1 1 n false),(13,.own (G.map uJ) 0),(14,.pv (vI g)),(15,.own ((acc++ej C g k).map vI) 1),(92,.pv (vI n)),(93,.pv (vI g)),(96,.aT 1 1 n false),(97,.pv (vI n)),(98,.pv (vI n)),(99,.pv (.bool false))],[],jM n V C++B,[G.length,T]⟩)∧T=(acc++ej C g k).length
 |0,k,hq,hk,acc,ha=>by
   have:k=n:=by omega
   subst this;have e:ej C g k=[]:=by rw[←hC];exact B5
   refine⟨acc.length,?_,by rw[e,List.append_nil]⟩;have Q:=(cv (n:=k) (V:=V) (C:=C) hB).norm;rw[g303L5e,e,List.append_nil];simp only[jM,List.cons_append,List.nil_append]at Q⊢;simp[g303B5,Q]
 |q+1,k,hq,hk,acc,ha=>by
   have hk:k<n:=(by omega);obtain⟨c,hx⟩:=aP (l:=C) (i:=k) (by omega);have g1:=lR hx;have l1:k+1≤(iT C).length:=(by rw[iP];omega);have m1:bY (iT C)=false:=bV dh;have Q:=(cv (n:=n) (V:=V) (C:=C) hB).norm;have hs:=w4 (g:=g) hx;have hh:a_ 1 (acc.map vI)=true:=kq.head acc;have hb:(acc.length+1)*8≤140737488355328:=(by omega);by_cases e:c=g
   · obtain⟨T,ih,hT⟩:=NG (g:=g) (V:=V) (G:=G) hB hn hC q (k+1) (by omega) (by omega) (acc++[(k:Int)]) (by simp;omega);rw[if_pos e]at hs;have ea:acc++[(k:Int)]++ej C g (k+1)=acc++ej C g k:=by rw[hs];simp
     rw[ea]at ih hT;refine⟨T,?_,hT⟩;generalize acc++ej C g k=R at *;have e3:(c:Int)=g:=by omega
     rw[g303L5e]at ih⊢;simp only[jM,List.cons_append,List.nil_append]at Q ih⊢;simp[Q]at ih;simp (disch:=omega) [-getElem?_pos,g303B5,hk,g1,l1,m1,e,e3,Q,aq,hh,hb];rw[g303L5e];simp[ih,Q]
   · obtain⟨T,ih,hT⟩:=NG (g:=g) (V:=V) (G:=G) hB hn hC q (k+1) (by omega) (by omega) acc (by omega);rw[if_neg e]at hs;rw[←hs]at ih hT;refine⟨T,?_,hT⟩;have e3:¬(c:Int)=g:=by omega
     generalize acc++ej C g k=R at *;rw[g303L5e]at ih⊢;simp only[jM,List.cons_append,List.nil_append]at Q ih⊢;simp[Q]at ih;simp (disch:=omega) [-getElem?_pos,g303B5,hk,g1,l1,m1,e,e3,Q,aq];rw[g303L5e];simp[ih,Q]
def jI(C:List Nat)(g:Nat):List (List Int):=((List.range' g (C.length-g)).map fun x=>ej C x 0).filter fun l=>decide (l≠[])
theorem J4{C:List Nat}{g:Nat}(h:g<C.length):jI C g=if ej C g 0=[] then jI C (g+1) else ej C g 0::jI C (g+1):=by
 unfold jI;rw[show C.length-g=(C.length-(g+1))+1 by omega,List.range'_succ,List.map_cons,List.filter_cons];by_cases e:ej C g 0=[]
 ·simp[e]
 ·simp[e]
theorem NH{C:List Nat}:jI C C.length=[]:=by simp[jI]
theorem NI{n:Nat}{V:List (List Int)}{C:List Nat}{B:Sh}(hB:fe B)(hn:n≤200000)(hC:C.length=n):∀(q g:Nat),n-g=q→g≤n→∀G:List (List Int),G.length≤g→∃T:Nat,
   cl AP g303L4 ⟨[(4,.aT 1 1 n false),(13,.own (G.map uJ) 0),(92,.pv (vI n)),(93,.pv (vI g))],[],jM n V C++B,[G.length]⟩ =
     some (.exit 8,⟨[(4,.aT 1 1 n false),(13,.own ((G++jI C g).map uJ) 0),(92,.pv (vI n)),(93,.pv (vI n)),(94,.pv (.bool false))],[],jM n V C++B,[T]⟩)∧T=(G++jI C g).length
 |0,g,hq,hg,G,hG=>by
   have:g=n:=by omega
   subst this;have e:jI C g=[]:=by rw[←hC];exact NH
   refine⟨G.length,?_,by rw[e,List.append_nil]⟩;have Q:=(cv (n:=g) (V:=V) (C:=C) hB).norm;rw[g303L4e,e,List.append_nil];simp only[jM,List.cons_append,List.nil_append]at Q⊢;simp[g303B4,Q]
 |q+1,g,hq,hg,G,hG=>by
   have hg:g<n:=(by omega);have Q:=(cv (n:=n) (V:=V) (C:=C) hB).norm;have hs:=J4 (C:=C) (g:=g) (by omega);have hh:=B4 (l:=G);have hb:(G.length+1)*24≤140737488355328:=(by omega);obtain⟨T5,L,hT5⟩:=NG (g:=g) (V:=V) (G:=G) hB hn hC _ 0 rfl (by omega) [] (by simp);rw[List.nil_append]at L hT5;have m1:bY (iT C)=false:=bV dh;by_cases e:ej C g 0=[]
   ·obtain⟨T,ih,hT⟩:=NI (V:=V) hB hn hC q (g+1) (by omega) (by omega) G (by omega);rw[if_pos e]at hs;rw[←hs]at ih hT;refine⟨T,?_,hT⟩;rw[e]at L hT5;simp at hT5;subst hT5;generalize G++jI C g=R at *;rw[g303L4e]at ih⊢;rw[g303L5e]at L;simp only[jM,List.cons_append,List.nil_append]at Q ih L⊢;simp[Q]at ih L;simp (disch:=omega) [-getElem?_pos,g303B4,hg,Q,aq,g303L5e,L,m1];rw[g303L4e];simp[ih,Q]
   · obtain⟨T,ih,hT⟩:=NI (V:=V) hB hn hC q (g+1) (by omega) (by omega) (G++[ej C g 0]) (by simp;omega);rw[if_neg e]at hs;have ea:G++[ej C g 0]++jI C (g+1)=G++jI C g:=by rw[hs];simp
     rw[ea]at ih hT;refine⟨T,?_,hT⟩;have hlen:0<(ej C g 0).length:=List.length_pos_iff.2 e;have hne:¬ej C g 0=[]:=e;generalize G++jI C g=R at *;generalize ej C g 0=W at *;subst hT5;rw[g303L4e]at ih⊢;rw[g303L5e]at L;simp only[jM,List.cons_append,List.nil_append]at Q ih L⊢;simp[Q,uJ]at ih L hh;simp (disch:=omega) [-getElem?_pos,g303B4,hg,Q,aq,g303L5e,L,m1,hlen,hne,hh,hb,uJ];rw[g303L4e];simp[ih,Q,uJ]
theorem yW{h:Ho}(H:uG h):(iG h).length≤200000200:=by
 have:=nB (l:=(aW [h]).flatMap Ty.nodes) (out:=[]);have:=H.rV;simp only[iG,vars,List.length_nil]at *;omega
theorem Tp{l:List Ho}(hH:∀h∈l,uG h):∀w∈l.map iG,Sm w:=by
 intro w hw;simp only[List.mem_map]at hw;obtain⟨h,hh,rfl⟩:=hw;have:=yW (hH h hh);unfold Sm;omega
def l9(r:Rp):List Nat:=(List.range' 0 r.aH.length).foldl (kW (ff (r.aH.map iG))) (List.range' 0 r.aH.length)
theorem uE{r:Rp}:(l9 r).length=r.aH.length:=by unfold l9;rw[ND];simp
theorem c303{r:Rp}(hl:r.aH.length≤200000)(hH:∀h∈r.aH,uG h):(aF AP).p 303 [r.pv]=some [.aw ((jI (l9 r) 0).map uJ)]:=by
 obtain⟨n,hnl⟩:∃n,r.aH.length=n:=⟨_,rfl⟩;have sq:=Tp hH;have hl2:n≤200000:=by omega
 have b1:(n:Int)≤9223372036854775807:=by omega
 have b2:(n:Int)*8≤140737488355328:=by omega
 have b3:(n:Int)*24≤140737488355328:=by omega
 have L0:=Rs (by omega) hH _ 0 rfl (by omega) (List.replicate r.aH.length 0) (List.replicate r.aH.length []) (by simp) (by simp);rw[List.take_zero,List.take_zero,List.nil_append,List.nil_append,List.drop_zero,Nat.sub_zero,hnl]at L0;obtain⟨B,hB,L1⟩:=Rw (V:=r.aH.map iG) hl2 (by simp[hnl]) sq _ 0 rfl (by omega) (List.range' 0 n) [] (by simp) (by intro c h;simp at h);rw[List.append_nil,Nat.sub_zero]at L1;have hcl:=uE (r:=r);rw[hnl]at hcl;have ec:(List.range' 0 n).foldl (kW (ff (r.aH.map iG))) (List.range' 0 n)=l9 r:=by unfold l9;rw[hnl]
 rw[ec]at L1;obtain⟨T,L4,hT⟩:=NI (V:=r.aH.map iG) hB hl2 hcl _ 0 rfl (by omega) [] (by simp);rw[List.nil_append]at L4 hT;have z1:iT (List.replicate n 0)=List.replicate n (.pv (vI 0)):=by simp[iT]
 have z2:vT (List.replicate n [])=List.replicate n (.pv (.aw [])):=by simp[vT]
 have q0:=(cv (n:=n) (V:=List.replicate n []) (C:=List.replicate n 0) (B:=[]) (by intro c h;simp at h)).norm;have q1:=(cv (n:=n) (V:=r.aH.map iG) (C:=List.range' 0 n) (B:=[]) (by intro c h;simp at h)).norm;have q2:=(cv (n:=n) (V:=r.aH.map iG) (C:=l9 r) hB).norm;generalize jI (l9 r) 0=G at *;generalize l9 r=C9 at *;generalize List.range' 0 n=C0 at *;generalize r.aH.map iG=V at *;rw[g303L0e]at L0;rw[g303L1e]at L1;rw[g303L4e]at L4;simp only[jM,eu,z1,z2,List.append_nil,List.cons_append,List.nil_append]at L0 L1 L4 q0 q1 q2;simp[q0,q1]at L0;simp[q1,q2]at L1;simp[q2]at L4;rw[ah (af:=g303) rfl rfl (by decide)];simp (disch:=omega) [g303,hnl,b1,b2,b3,g303L0e,L0,g303L1e,L1,g303L4e,L4,q0,q1,q2]
theorem NJ{a b:List Int}:(b.any fun x=>decide (x∈a))=(a.any fun x=>decide (x∈b)):=by
 rw[Bool.eq_iff_iff];simp only[List.any_eq_true,decide_eq_true_eq];exact⟨fun⟨x,h1,h2⟩=>⟨x,h2,h1⟩,fun⟨x,h1,h2⟩=>⟨x,h2,h1⟩⟩
theorem Rx{r:Rp}(hl:r.aH.length≤200000):∀(k i:Nat),r.aH.length-i=k→i≤r.aH.length→∀C:List Nat,C.length=r.aH.length →
   cl AP g304L0 ⟨[(1,.au 1 0),(3,.aT 0 1 r.aH.length false),(4,.pv (vI i))],[(1,eu r)],[some (iT C)],[]⟩ =
     some (.exit 0,⟨[(1,.au 1 0),(3,.aT 0 1 r.aH.length false),(4,.pv (vI r.aH.length)),(25,.pv (.bool false))],[(1,eu r)],[some (iT (C.take i++List.range' i (r.aH.length-i)))],[]⟩)
 |0,i,hk,hi,C,hC=>by
   have:i=r.aH.length:=by omega
   subst this;have e1:C.take r.aH.length=C:=by rw[List.take_of_length_le (by omega)]
   have q1:=(bf.one (dh (C:=C))).norm;rw[g304L0e];simp at q1;simp[g304B0,eu,e1,q1]
 |k+1,i,hk,hi,C,hC=>by
   have hi:i<r.aH.length:=(by omega);have ih:=Rx hl k (i+1) (by omega) (by omega) (C.set i i) (by simpa using hC)
   have e2:(C.set i i).take (i+1)++List.range' (i+1) (r.aH.length-(i+1))=C.take i++List.range' i (r.aH.length-i):=by
     rw[List.take_add_one,List.take_set_of_le (by omega),show r.aH.length-i=(r.aH.length-(i+1))+1 by omega,List.range'_succ];simp[hC,hi]
   rw[e2]at ih;have s1:=yV (C:=C) (i:=i) (c:=i) (by omega);have l1:i+1≤(iT C).length:=by rw[iP];omega
   have q1:=(bf.one (dh (C:=C))).norm;have q3:=(bf.one (dh (C:=C.set i i))).norm;have m1:bY (iT C)=false:=bV dh;generalize C.take i++List.range' i (r.aH.length-i)=C9 at *;rw[g304L0e]at ih⊢;simp at q1 q3 s1;simp[eu,q3]at ih;simp (disch:=omega) [-getElem?_pos,g304B0,eu,hi,s1,l1,q1,q3,m1,aq];rw[g304L0e];simp[ih,q3]
theorem Ry{r:Rp}{C:List Nat}{n i j:Nat}{wi wj:List Int}(hwi:Sm wi)(hwj:Sm wj):∀(q k:Nat),wj.length-k=q→k≤wj.length→∀b:Bool,
   cl AP g304L3 ⟨[(1,.au 1 0),(3,.aT 0 1 n false),(5,.pv (vI i)),(6,.pv (.aw (wi.map vI))),(7,.pv (vI j)),(8,.pv (.aw (wj.map vI))),(9,.pv (.bool b)),(10,.pv (vI k))],[(1,eu r)],[some (iT C)],[]⟩ =
     some (.exit 6,⟨[(1,.au 1 0),(3,.aT 0 1 n false),(5,.pv (vI i)),(6,.pv (.aw (wi.map vI))),(7,.pv (vI j)),(8,.pv (.aw (wj.map vI))),(9,.pv (.bool (b || (wj.drop k).any fun x=>decide (x∈wi)))),(10,.pv (vI wj.length)),(52,.pv (.bool false))],[(1,eu r)],[some (iT C)],[]⟩)
 |0,k,hq,hk,b=>by
   have:k=wj.length:=by omega
   subst this;have q1:=(bf.one (dh (C:=C))).norm;rw[g304L3e];simp at q1;simp[g304B3,eu,q1]
 |q+1,k,hq,hk,b=>by
   have hk:k<wj.length:=(by omega);obtain⟨x,hx⟩:=aP hk;have c:=c95 hwi (y:=x);have ih:=Ry (r:=r) (C:=C) (n:=n) (i:=i) (j:=j) hwi hwj q (k+1) (by omega) (by omega) (b || decide (x∈wi))
   have e:(b || decide (x∈wi) || (wj.drop (k+1)).any fun x=>decide (x∈wi))=(b || (wj.drop k).any fun x=>decide (x∈wi)):=by
     rw[bl hx,List.any_cons,Bool.or_assoc]
   rw[e]at ih;have q1:=(bf.one (dh (C:=C))).norm;generalize (b || (wj.drop k).any fun x=>decide (x∈wi))=R at *;unfold Sm at hwj;rw[g304L3e]at ih⊢;simp only[oj,v9]at q1;simp at q1;generalize decide (x∈wi)=d at *;cases b<;>cases d <;>
   ·simp[eu,q1]at ih;simp (disch:=omega) [-getElem?_pos,g304B3,eu,hk,hx,c,q1,aq];rw[g304L3e];simp[ih,q1]
theorem Rz{r:Rp}{n i j lo hi:Nat}{wi:List Int}(hn:n≤200000):∀(q k:Nat),n-k=q→k≤n→∀C:List Nat,C.length=n →
   cl AP g304L4 ⟨[(1,.au 1 0),(3,.aT 0 1 n false),(5,.pv (vI i)),(6,.pv (.aw (wi.map vI))),(7,.pv (vI j)),(11,.pv (vI lo)),(12,.pv (vI hi)),(13,.pv (vI k))],[(1,eu r)],[some (iT C)],[]⟩ =
     some (.exit 8,⟨[(1,.au 1 0),(3,.aT 0 1 n false),(5,.pv (vI i)),(6,.pv (.aw (wi.map vI))),(7,.pv (vI j)),(11,.pv (vI lo)),(12,.pv (vI hi)),(13,.pv (vI n)),(98,.pv (.bool false))],[(1,eu r)],[some (iT (C.take k++(C.drop k).map (kU lo hi)))],[]⟩)
 |0,k,hq,hk,C,hC=>by
   have:k=n:=by omega
   subst this;have e1:C.take k=C:=by rw[List.take_of_length_le (by omega)]
   have e2:C.drop k=[]:=(by rw[List.drop_eq_nil_of_le (by omega)]);have q1:=(bf.one (dh (C:=C))).norm;rw[g304L4e,e1,e2,List.map_nil,List.append_nil];simp at q1;simp[g304B4,eu,q1]
 |q+1,k,hq,hk,C,hC=>by
   have hk:k<n:=(by omega);obtain⟨c,hx⟩:=aP (l:=C) (i:=k) (by omega);have ih:=Rz (r:=r) (i:=i) (j:=j) (lo:=lo) (hi:=hi) (wi:=wi) hn q (k+1) (by omega) (by omega) (C.set k (kU lo hi c)) (by simpa using hC)
   have e1:(C.set k (kU lo hi c)).take (k+1)++((C.set k (kU lo hi c)).drop (k+1)).map (kU lo hi)=C.take k++(C.drop k).map (kU lo hi):=by
     rw[bl hx,List.take_add_one,List.take_set_of_le (by omega),List.drop_set_of_lt (by omega)];simp[hC,hk]
   rw[e1]at ih;have s1:=yV (C:=C) (i:=k) (c:=lo) (by omega);have g1:=lR hx;have l1:k+1≤(iT C).length:=by rw[iP];omega
   have m1:bY (iT C)=false:=bV dh;have Q:=(bf.one (dh (C:=C))).norm;have Q2:=(bf.one (dh (C:=C.set k (kU lo hi c)))).norm;generalize C.take k++(C.drop k).map (kU lo hi)=C9 at *;rw[g304L4e]at ih⊢;by_cases e:c=hi
   ·have e2:kU lo hi c=lo:=(by simp[kU,e]);rw[e2]at ih Q2;have e3:(c:Int)=hi:=(by omega);simp at Q Q2;simp[Q2,eu]at ih s1;simp (disch:=omega) [-getElem?_pos,g304B4,eu,hk,g1,l1,m1,s1,e,e3,Q,Q2,aq];rw[g304L4e];simp[ih,Q2]
   · have e2:kU lo hi c=c:=by simp[kU,e]
     have e4:C.set k c=C:=by
       apply List.ext_getElem?
       intro z;rw[List.getElem?_set];split
       ·rename_i h;subst h;rw[hx];simp only[hC,hk,if_true]
       ·rfl
     rw[e2,e4]at ih;have e3:¬(c:Int)=hi:=by omega
     simp at Q;simp[Q,eu]at ih;simp (disch:=omega) [-getElem?_pos,g304B4,eu,hk,g1,l1,m1,e,e3,Q,aq];rw[g304L4e];simp[ih,Q]
theorem Tq{c:Nat}{C:List Nat}:C.map (kU c c)=C:=by
 conv=>rhs;rw[←List.map_id C]
 refine List.map_congr_left fun x _=>?_;unfold kU;split
 ·rename_i h;rw[h];rfl
 ·rfl
theorem RB{r:Rp}{n i:Nat}(hnl:r.aH.length=n)(hn:n≤200000)(hH:∀h∈r.aH,uG h)(hi:i<n){h:Ho}(hx:r.aH[i]?=some h):∀(q j:Nat),i-j=q→j≤i→∀C:List Nat,C.length=n →
   cl AP g304L2 ⟨[(1,.au 1 0),(3,.aT 0 1 n false),(5,.pv (vI i)),(6,.pv (.aw ((iG h).map vI))),(7,.pv (vI j))],[(1,eu r)],[some (iT C)],[]⟩ =
     some (.exit 4,⟨[(1,.au 1 0),(3,.aT 0 1 n false),(5,.pv (vI i)),(6,.pv (.aw ((iG h).map vI))),(7,.pv (vI i)),(43,.pv (.bool false))],[(1,eu r)],[some (iT ((List.range' j (i-j)).foldl (uD (ff (r.aH.map iG)) i) C))],[]⟩)
 |0,j,hq,hj,C,hC=>by
   have:j=i:=by omega
   subst this;have Q:=(bf.one (dh (C:=C))).norm;rw[g304L2e,Nat.sub_self,List.range'_zero,List.foldl_nil];simp at Q;simp[g304B2,eu,Q]
 |q+1,j,hq,hj,C,hC=>by
   have hj:j<i:=(by omega);obtain⟨u,hu⟩:=aP (l:=r.aH) (i:=j) (by omega);have Hi:=yW (hH h (aQ hx));have Hj:=yW (hH u (aQ hu));have si:Sm (iG h):=(by unfold Sm;omega);have sj:Sm (iG u):=(by unfold Sm;omega);obtain⟨ci,k1⟩:=aP (l:=C) (i:=i) (by omega);obtain⟨cj,k2⟩:=aP (l:=C) (i:=j) (by omega);have ih:=RB hnl hn hH hi hx q (j+1) (by omega) (by omega) (uD (ff (r.aH.map iG)) i C j) (by rw[pI];exact hC)
   have er:(List.range' j (i-j)).foldl (uD (ff (r.aH.map iG)) i) C=(List.range' (j+1) (i-(j+1))).foldl (uD (ff (r.aH.map iG)) i) (uD (ff (r.aH.map iG)) i C j):=by
     rw[show i-j=(i-(j+1))+1 by omega,List.range'_succ,List.foldl_cons]
   rw[er];have c:=c324 hu (hH u (aQ hu))
   change (aF AP).p 324 [r.pv,vI j]=some [.aw ((iG u).map vI)]at c
   have hr:ff (r.aH.map iG) i j=(iG u).any fun x=>decide (x∈iG h):=by
     rw[NJ];simp[ff,hx,hu]
   have hs:uD (ff (r.aH.map iG)) i C j=if ((iG u).any fun x=>decide (x∈iG h))=true then C.map (kU (min ci cj) (max ci cj)) else C:=(by simp only[uD,hr,gI,k1,k2,Option.getD_some]);have D:=Ry (r:=r) (C:=C) (n:=n) (i:=i) (j:=j) si sj _ 0 rfl (by omega) false;rw[List.drop_zero,Bool.false_or]at D;rw[hs]at ih⊢;generalize ((iG u).any fun x=>decide (x∈iG h))=b at *;have E:=Rz (r:=r) (i:=i) (j:=j) (lo:=min ci cj) (hi:=max ci cj) (wi:=iG h) hn _ 0 rfl (by omega) C hC;rw[List.take_zero,List.nil_append,List.drop_zero]at E;have w1:=lR k1;have w2:=lR k2;have l3:i+1≤(iT C).length:=(by rw[iP];omega);have l4:j+1≤(iT C).length:=(by rw[iP];omega);have m2:bY (iT C)=false:=bV dh;have hj':j<n:=(by omega);have Q:=(bf.one (dh (C:=C))).norm;have Q3:=(bf.one (dh (C:=C.map (kU (min ci cj) (max ci cj))))).norm;have mn:=Gy (a:=ci) (b:=cj);have mx:=Gz (a:=ci) (b:=cj)
   have eqc:ci=cj→C.map (kU (min ci cj) (max ci cj))=C:=by
     rintro rfl
     rw[Nat.min_self,Nat.max_self];exact Tq
   have eci:(ci:Int)=cj↔ci=cj:=(by omega);generalize (List.range' (j+1) (i-(j+1))).foldl (uD (ff (r.aH.map iG)) i) (if b=true then C.map (kU (min ci cj) (max ci cj)) else C)=C9 at *;generalize min ci cj=lo at *;generalize max ci cj=mv at *;generalize iG u=wu at *;generalize iG h=wh at *;rw[g304L2e]at ih⊢;rw[g304L3e]at D;rw[g304L4e]at E;simp at Q Q3 c;cases b with
   |true=>
     simp only[if_true]at ih;by_cases e:ci=cj
     ·rw[eqc e]at ih;subst e;simp[Q,eu]at ih D;simp (disch:=omega) [-getElem?_pos,g304B2,eu,hi,hj,hj',l3,l4,w1,w2,m2,Q,aq,c,g304L3e,D];rw[g304L2e];simp[ih,Q]
     ·have e':¬(ci:Int)=cj:=(by omega);simp[Q,Q3,eu]at ih D E;simp (disch:=omega) [-getElem?_pos,g304B2,eu,hi,hj,hj',l3,l4,w1,w2,m2,Q,Q3,aq,c,g304L3e,D,e,e',mn,mx,g304L4e,E];rw[g304L2e];simp[ih,Q3]
   |false=>
     simp only[if_neg (by decide:¬false=true)]at ih;simp[Q,eu]at ih D;simp (disch:=omega) [-getElem?_pos,g304B2,eu,hi,hj,hj',l3,l4,w1,w2,m2,Q,aq,c,g304L3e,D];rw[g304L2e];simp[ih,Q]
theorem RC{r:Rp}{n:Nat}(hnl:r.aH.length=n)(hn:n≤200000)(hH:∀h∈r.aH,uG h):∀(q i:Nat),n-i=q→i≤n→∀C:List Nat,C.length=n →
   cl AP g304L1 ⟨[(1,.au 1 0),(3,.aT 0 1 n false),(5,.pv (vI i))],[(1,eu r)],[some (iT C)],[]⟩ =
     some (.exit 2,⟨[(1,.au 1 0),(3,.aT 0 1 n false),(5,.pv (vI n)),(35,.pv (.bool false))],[(1,eu r)],[some (iT ((List.range' i (n-i)).foldl (kW (ff (r.aH.map iG))) C))],[]⟩)
 |0,i,hq,hi,C,hC=>by
   have:i=n:=by omega
   subst this;have Q:=(bf.one (dh (C:=C))).norm;rw[g304L1e,Nat.sub_self,List.range'_zero,List.foldl_nil];simp at Q;simp[g304B1,eu,Q]
 |q+1,i,hq,hi,C,hC=>by
   have hi:i<n:=(by omega);obtain⟨h,hx⟩:=aP (l:=r.aH) (i:=i) (by omega);have L:=RB hnl hn hH hi hx _ 0 rfl (by omega) C hC;have ih:=RC hnl hn hH q (i+1) (by omega) (by omega) (kW (ff (r.aH.map iG)) C i) (by rw[ss];exact hC);have c:=c324 hx (hH h (aQ hx))
   change (aF AP).p 324 [r.pv,vI i]=some [.aw ((iG h).map vI)]at c
   rw[show n-i=(n-(i+1))+1 by omega,List.range'_succ,List.foldl_cons]
   change cl AP g304L2 _=some (.exit 4,⟨_,_,[some (iT (kW (ff (r.aH.map iG)) C i))],_⟩)at L
   have Q:=(bf.one (dh (C:=C))).norm;have Q2:=(bf.one (dh (C:=kW (ff (r.aH.map iG)) C i))).norm;generalize (List.range' (i+1) (n-(i+1))).foldl (kW (ff (r.aH.map iG))) (kW (ff (r.aH.map iG)) C i)=C9 at *;generalize kW (ff (r.aH.map iG)) C i=C1 at *;generalize iG h=w at *;rw[g304L1e]at ih⊢;rw[g304L2e]at L;simp at Q Q2 c;simp[Q,Q2,eu]at ih L;simp (disch:=omega) [-getElem?_pos,g304B1,eu,hi,Q,Q2,aq,c,g304L2e,L];rw[g304L1e];simp[ih,Q2]
theorem NK{n g:Nat}{C:List Nat}{G:List (List Int)}(hn:n≤200000)(hC:C.length=n):∀(q k:Nat),n-k=q→k≤n→∀acc:List Int,acc.length≤k→∃T:Nat,
   cl AP g304L6 ⟨[(3,.aT 0 1 n false),(14,.own (G.map uJ) 0),(15,.pv (vI g)),(16,.own (acc.map vI) 1),(17,.pv (vI k))],[],[some (iT C)],[G.length,acc.length]⟩ =
     some (.exit 12,⟨[(3,.aT 0 1 n false),(14,.own (G.map uJ) 0),(15,.pv (vI g)),(16,.own ((acc++ej C g k).map vI) 1),(17,.pv (vI n)),(126,.pv (.bool false))],[],[some (iT C)],[G.length,T]⟩)∧T=(acc++ej C g k).length
 |0,k,hq,hk,acc,ha=>by
   have:k=n:=by omega
   subst this;have e:ej C g k=[]:=by rw[←hC];exact B5
   refine⟨acc.length,?_,by rw[e,List.append_nil]⟩;have Q:=(bf.one (dh (C:=C))).norm;rw[g304L6e,e,List.append_nil];simp at Q;simp[g304B6,Q]
 |q+1,k,hq,hk,acc,ha=>by
   have hk:k<n:=(by omega);obtain⟨c,hx⟩:=aP (l:=C) (i:=k) (by omega);have g1:=lR hx;have l1:k+1≤(iT C).length:=(by rw[iP];omega);have m1:bY (iT C)=false:=bV dh;have Q:=(bf.one (dh (C:=C))).norm;have hs:=w4 (g:=g) hx;have hh:a_ 1 (acc.map vI)=true:=kq.head acc;have hb:(acc.length+1)*8≤140737488355328:=(by omega);simp at Q;by_cases e:c=g
   · obtain⟨T,ih,hT⟩:=NK (g:=g) (G:=G) hn hC q (k+1) (by omega) (by omega) (acc++[(k:Int)]) (by simp;omega);rw[if_pos e]at hs;have ea:acc++[(k:Int)]++ej C g (k+1)=acc++ej C g k:=by rw[hs];simp
     rw[ea]at ih hT;refine⟨T,?_,hT⟩;generalize acc++ej C g k=R at *;have e3:(c:Int)=g:=by omega
     rw[g304L6e]at ih⊢;simp[Q]at ih;simp (disch:=omega) [-getElem?_pos,g304B6,hk,g1,l1,m1,e,e3,Q,aq,hh,hb];rw[g304L6e];simp[ih,Q]
   · obtain⟨T,ih,hT⟩:=NK (g:=g) (G:=G) hn hC q (k+1) (by omega) (by omega) acc (by omega);rw[if_neg e]at hs;rw[←hs]at ih hT;refine⟨T,?_,hT⟩;have e3:¬(c:Int)=g:=by omega
     generalize acc++ej C g k=R at *;rw[g304L6e]at ih⊢;simp[Q]at ih;simp (disch:=omega) [-getElem?_pos,g304B6,hk,g1,l1,m1,e,e3,Q,aq];rw[g304L6e];simp[ih,Q]
def mX(C:List Nat)(g:Nat):List (List Int):=(List.range' g (C.length-g)).flatMap fun x=>if gI C x=x then [ej C x 0] else []
theorem J5{C:List Nat}{g c:Nat}(h:C[g]?=some c):mX C g=if c=g then ej C g 0::mX C (g+1) else mX C (g+1):=by
 have hg:=(List.getElem?_eq_some_iff.1 h).1;unfold mX;rw[show C.length-g=(C.length-(g+1))+1 by omega,List.range'_succ,List.flatMap_cons];by_cases e:c=g
 ·simp[gI,h,e]
 ·simp[gI,h,e]
theorem NL{C:List Nat}:mX C C.length=[]:=by simp[mX]
theorem NM{n:Nat}{C:List Nat}(hn:n≤200000)(hC:C.length=n):∀(q g:Nat),n-g=q→g≤n→∀G:List (List Int),G.length≤g→∃T:Nat,
   cl AP g304L5 ⟨[(3,.aT 0 1 n false),(14,.own (G.map uJ) 0),(15,.pv (vI g))],[],[some (iT C)],[G.length]⟩ =
     some (.exit 10,⟨[(3,.aT 0 1 n false),(14,.own ((G++mX C g).map uJ) 0),(15,.pv (vI n)),(114,.pv (.bool false))],[],[some (iT C)],[T]⟩)∧T=(G++mX C g).length
 |0,g,hq,hg,G,hG=>by
   have:g=n:=by omega
   subst this;have e:mX C g=[]:=by rw[←hC];exact NL
   refine⟨G.length,?_,by rw[e,List.append_nil]⟩;have Q:=(bf.one (dh (C:=C))).norm;rw[g304L5e,e,List.append_nil];simp at Q;simp[g304B5,Q]
 |q+1,g,hq,hg,G,hG=>by
   have hg:g<n:=(by omega);obtain⟨c,hx⟩:=aP (l:=C) (i:=g) (by omega);have Q:=(bf.one (dh (C:=C))).norm;have hs:=J5 hx;have hh:=B4 (l:=G);have hb:(G.length+1)*24≤140737488355328:=(by omega);have g1:=lR hx;have l1:g+1≤(iT C).length:=(by rw[iP];omega);have m1:bY (iT C)=false:=bV dh;simp at Q;by_cases e:c=g
   · obtain⟨T5,L,hT5⟩:=NK (g:=g) (G:=G) hn hC _ 0 rfl (by omega) [] (by simp);rw[List.nil_append]at L hT5;obtain⟨T,ih,hT⟩:=NM hn hC q (g+1) (by omega) (by omega) (G++[ej C g 0]) (by simp;omega);rw[if_pos e]at hs;have ea:G++[ej C g 0]++mX C (g+1)=G++mX C g:=by rw[hs];simp
     rw[ea]at ih hT;refine⟨T,?_,hT⟩;have e3:(c:Int)=g:=by omega
     generalize G++mX C g=R at *;generalize ej C g 0=W at *;subst hT5;rw[g304L5e]at ih⊢;rw[g304L6e]at L;simp[Q,uJ]at ih L hh;simp (disch:=omega) [-getElem?_pos,g304B5,hg,Q,aq,g304L6e,L,m1,g1,l1,e,e3,hh,hb,uJ];rw[g304L5e];simp[ih,Q,uJ]
   · obtain⟨T,ih,hT⟩:=NM hn hC q (g+1) (by omega) (by omega) G (by omega);rw[if_neg e]at hs;rw[←hs]at ih hT;refine⟨T,?_,hT⟩;have e3:¬(c:Int)=g:=by omega
     generalize G++mX C g=R at *;rw[g304L5e]at ih⊢;simp[Q]at ih;simp (disch:=omega) [-getElem?_pos,g304B5,hg,Q,aq,m1,g1,l1,e,e3];rw[g304L5e];simp[ih,Q]
theorem c341{h:Ho}(hg:h.goal.Ok)(hS:Sm h.ctx)(hO:∀x∈h.ctx,x.sc.ty.Ok):(aF AP).p 341 [h.pv,h.pv]=some [.bool true]:=by
 have k1:=c20 (a:=h.goal) (b:=h.goal) hg;have k2:=c178 (a:=h.ctx) (b:=h.ctx) hS hO;simp at k1 k2;rw[ah (af:=g341) rfl rfl (by decide)];simp[g341,k1,k2]
theorem RD{r:Rp}(hl:r.types.length≤4)(hO:∀c∈r.types,c.ty.Ok):∀(k i:Nat),r.types.length-i=k→i≤r.types.length →
   cl AP g317L0 ⟨[(2,.pv (.bool true)),(3,.au 3 0),(4,.au 4 0),(7,.pv (vI i))],[(3,eu r),(4,eu r)],[],[]⟩ =
     some (.exit 0,⟨[(2,.pv (.bool true)),(3,.au 3 0),(4,.au 4 0),(7,.pv (vI r.types.length)),(41,.pv (.bool false))],[(3,eu r),(4,eu r)],[],[]⟩)
 |0,i,hk,hi=>by
   have:i=r.types.length:=by omega
   subst this;rw[g317L0e];simp[g317B0,eu]
 |k+1,i,hk,hi=>by
   have hi:i<r.types.length:=(by omega);obtain⟨x,hx⟩:=aP hi;have ih:=RD hl hO k (i+1) (by omega) (by omega);have c:=c183 (a:=x) (b:=x) (hO x (aQ hx));rw[g317L0e]at ih⊢;simp[eu]at ih;simp at c;simp (disch:=omega) [-getElem?_pos,g317B0,eu,hi,hx,c,aq];rw[g317L0e];simp[ih]
theorem RF{r:Rp}(hl:r.aH.length≤100000)(hO:∀h∈r.aH,h.goal.Ok∧Sm h.ctx∧∀x∈h.ctx,x.sc.ty.Ok):∀(k i:Nat),r.aH.length-i=k→i≤r.aH.length →
   cl AP g317L1 ⟨[(2,.pv (.bool true)),(3,.au 3 0),(4,.au 4 0),(8,.pv (vI i))],[(3,eu r),(4,eu r)],[],[]⟩ =
     some (.exit 2,⟨[(2,.pv (.bool true)),(3,.au 3 0),(4,.au 4 0),(8,.pv (vI r.aH.length)),(60,.pv (.bool false))],[(3,eu r),(4,eu r)],[],[]⟩)
 |0,i,hk,hi=>by
   have:i=r.aH.length:=by omega
   subst this;rw[g317L1e];simp[g317B1,eu]
 |k+1,i,hk,hi=>by
   have hi:i<r.aH.length:=(by omega);obtain⟨x,hx⟩:=aP hi;have ih:=RF hl hO k (i+1) (by omega) (by omega);obtain⟨o1,o2,o3⟩:=hO x (aQ hx);have c:=c341 o1 o2 o3;rw[g317L1e]at ih⊢;simp[eu]at ih;simp at c;simp (disch:=omega) [-getElem?_pos,g317B1,eu,hi,hx,c,aq];rw[g317L1e];simp[ih]
theorem RG{r:Rp}(hl:r.homes.length≤1000000):∀(k i:Nat),r.homes.length-i=k→i≤r.homes.length →
   cl AP g317L2 ⟨[(3,.au 3 0),(4,.au 4 0),(11,.pv (vI i))],[(3,eu r),(4,eu r)],[],[]⟩ =
     some (.exit 4,⟨[(3,.au 3 0),(4,.au 4 0),(11,.pv (vI r.homes.length)),(85,.pv (.bool false))],[(3,eu r),(4,eu r)],[],[]⟩)
 |0,i,hk,hi=>by
   have:i=r.homes.length:=by omega
   subst this;rw[g317L2e];simp[g317B2,eu]
 |k+1,i,hk,hi=>by
   have hi:i<r.homes.length:=(by omega);obtain⟨x,hx⟩:=aP hi;have ih:=RG hl k (i+1) (by omega) (by omega);rw[g317L2e]at ih⊢;simp[eu]at ih;simp (disch:=omega) [-getElem?_pos,g317B2,eu,hi,hx,aq];rw[g317L2e];simp[ih]
theorem c317{r:Rp}(h1:r.types.length≤4)(h2:∀c∈r.types,c.ty.Ok)(h3:r.aH.length≤100000)(h4:∀h∈r.aH,h.goal.Ok∧Sm h.ctx∧∀x∈h.ctx,x.sc.ty.Ok)(h5:r.homes.length≤1000000) :
   (aF AP).p 317 [r.pv,r.pv,.bool true]=some [.bool true]:=by
 have L0:=RD h1 h2 _ 0 rfl (by omega);have L1:=RF h3 h4 _ 0 rfl (by omega);have L2:=RG h5 _ 0 rfl (by omega);rw[g317L0e]at L0;rw[g317L1e]at L1;rw[g317L2e]at L2;simp[eu]at L0 L1 L2;rw[ah (af:=g317) rfl rfl (by decide)];simp[g317,g317L0e,L0,g317L1e,L1,g317L2e,L2]
theorem yX{K:Int→Prop}{t:Ty}(hO:t.Ok)(hk:t.Kn K):t.bR.Ok:=by
 revert hO hk
 refine Ty.dJ (p:=fun t=>t.Ok→t.Kn K→t.bR.Ok) ?_ t;intro t ih hO hk;rw[Ty.Nz hk];split
 ·exact bL rfl
 ·refine .mk (by have:=hO.sm;unfold Sm at this⊢;simpa using this) ?_;intro x hx;simp only[List.mem_map]at hx;obtain⟨y,hy,rfl⟩:=hx;exact ih y hy (hO.gh y hy) (hk.kd y hy)
theorem Ts{K:Int→Prop}{t:Ty}(hO:t.Ok)(hk:t.Kn K):t.q9.Ok:=by
 revert hO hk
 refine Ty.dJ (p:=fun t=>t.Ok→t.Kn K→t.q9.Ok) ?_ t;intro t ih hO hk;rw[Ty.NA hk];split
 ·exact bL rfl
 ·refine .mk (by have:=hO.sm;unfold Sm at this⊢;simpa using this) ?_;intro x hx;simp only[List.mem_map]at hx;obtain⟨y,hy,rfl⟩:=hx;exact ih y hy (hO.gh y hy) (hk.kd y hy)
def nE:List Ty:=[aK 0,aK 1,aK 2,aK 3,dm 0 1,br 1]
theorem RH{ds:List Dt}(hD:pB ds):∀d∈ds,d.params.length≤8∧d.name.length≤100:=by
 have:∀d∈cq,d.params.length≤8∧d.name.length≤100:=by decide
 exact fun d hd=>this d (hD.1 d hd)
theorem Tt(bits:Int)(L M:List Int):(aF AP).p 300 [vI bits,.aw (L.map vI),.aw (M.map vI)]=some [.bool true]:=by
 have k0:=c301;have k1:=c15 (l:=L);have k2:=c15 (l:=M);by_cases hL:L.length≤60
 · by_cases hM:M.length≤60
   · rw[decide_eq_true hL]at k1;rw[decide_eq_true hM]at k2;have hS:Sm L:=by unfold Sm;omega
     have hS2:Sm M:=(by unfold Sm;omega);obtain⟨ds,k3,d1,d2⟩:=c32 bits;have d8:=RH (ds:=ds) ⟨d1,d2⟩;obtain⟨x,j1,e1,mx,hj1⟩:=PD (i7 (L:=M)) hS2 (ds:=ds) (by omega) (fun d hd=>(d8 d hd).1) (lv:=nE) (by simp[Sm,nE]) 3 (by omega) 0 (by omega);obtain⟨y,j2,e2,my,hj2⟩:=PD (i7 (L:=M)) hS2 (ds:=ds) (by omega) (fun d hd=>(d8 d hd).1) (lv:=lG++ic) (by simp[Sm,lG,ic]) 3 (by omega) j1 hj1;obtain⟨r,R,k4⟩:=c302 hS bits;have xO:x.Ok:=dL.ok (D:=(·∈ds)) (fun d hd=>(d8 d hd).1) (by intro t ht;simp[nE,aK,dm,br]at ht;rcases ht with rfl|rfl|rfl|rfl|rfl|rfl<;>rfl) mx;have yO:y.Ok:=dL.ok (D:=(·∈ds)) (fun d hd=>(d8 d hd).1) (by simp[lG,ic,aK,dm,br,ka]) my;have xK:x.Kn (fun _=>True):=dL.kn (D:=(·∈ds)) (fun d hd=>(d8 d hd).2) (by intro t ht;simp[nE,aK,dm,br]at ht;rcases ht with rfl|rfl|rfl|rfl|rfl|rfl<;>simp) mx;have yK:y.Kn (fun _=>True):=dL.kn (D:=(·∈ds)) (fun d hd=>(d8 d hd).2) (by simp[lG,ic,aK,dm,br,ka]) my;have xt:x.bR.q9=x:=dL.q9 (D:=(·∈ds)) (by intro t ht;simp[nE,aK,dm,br]at ht;rcases ht with rfl|rfl|rfl|rfl|rfl|rfl<;>exact⟨rfl,by simp[nR,mW]⟩) mx;have fO:=yX xO xK;have a1:=c313 xO;have a2:=c314 xO xK;have a3:=c20 (a:=x.bR) (b:=x.bR) fO;have a4:=c315 fO;rw[xt]at a4;have a5:=c20 (a:=x) (b:=x) xO;have a6:=c315 yO;have a7:=c316 yO yK
     have a8:(aF AP).p 20 [y.q9.pv,y.q9.pv]=some [.bool true]:=by
       have:=c20 (a:=y.q9) (b:=y.q9) (Ts yO yK);simpa using this
     have a9:=c318 R;have a10:=c319 R
     have a11:=c317 (r:=NB r) (by simp[NB];exact R.tl) (by
       intro c hc;simp only[NB,List.mem_map]at hc;obtain⟨c,hc,rfl⟩:=hc;exact yX (R.ty c hc).ok (R.ty c hc).kn) (by simp[NB];exact R.hl) (by
       intro h hh;simp only[NB,List.mem_map]at hh;obtain⟨h,hh,rfl⟩:=hh;have H:uG h:=R.ho h hh;refine⟨yX H.2.1.ok H.2.1.kn,by have:=H.1;simp[Sm,B_];omega,?_⟩;intro z hz;simp only[B_,List.mem_map]at hz;obtain⟨z,hz,rfl⟩:=hz;exact yX (H.2.2 z hz).ok (H.2.2 z hz).kn) (by simp[NB])
     have q1:=c70_4 (sh:=tp M 0) F4;have q2:=c71 (n:=0) (m:=1);have q3:=c72 (n:=1);have q4:=c28i (sh:=tp M j1) F4 (fun _=>rfl);have q5:=c67;simp[aK,nE,dm,br,lG,ic,ka]at q1 q2 q3 q4 q5 e1 e2;generalize x.bR=u at *;generalize y.q9=w at *;generalize NB r=rr at *;simp at k0 k1 k2 k3 k4 a1 a2 a3 a4 a5 a6 a7 a8 a9 a10 a11;rw[ah (af:=g300) rfl rfl (by decide)];simp (disch:=omega) [g300,k0,k1,k2,k3,k4,q1,q2,q3,q4,q5,e1,e2,a1,a2,a3,a4,a5,a6,a7,a8,a9,a10,a11]
   ·rw[decide_eq_true hL]at k1;rw[decide_eq_false hM]at k2;rw[ah (af:=g300) rfl rfl (by decide)];simp[g300,k0,k1,k2]
 ·rw[decide_eq_false hL]at k1;rw[ah (af:=g300) rfl rfl (by decide)];simp[g300,k0,k1]
theorem c304{r:Rp}(hl:r.aH.length≤200000)(hH:∀h∈r.aH,uG h):(aF AP).p 304 [r.pv]=some [.aw ((mX (l9 r) 0).map uJ)]:=by
 obtain⟨n,hnl⟩:∃n,r.aH.length=n:=⟨_,rfl⟩;have hl2:n≤200000:=by omega
 have b1:(n:Int)≤9223372036854775807:=by omega
 have b2:(n:Int)*8≤140737488355328:=by omega
 have L0:=Rx hl _ 0 rfl (by omega) (List.replicate r.aH.length 0) (by simp);rw[List.take_zero,List.nil_append,Nat.sub_zero,hnl]at L0;have L1:=RC hnl hl2 hH _ 0 rfl (by omega) (List.range' 0 n) (by simp);rw[Nat.sub_zero]at L1;have hcl:=uE (r:=r);rw[hnl]at hcl;have ec:(List.range' 0 n).foldl (kW (ff (r.aH.map iG))) (List.range' 0 n)=l9 r:=by unfold l9;rw[hnl]
 rw[ec]at L1;obtain⟨T,L4,hT⟩:=NM hl2 hcl _ 0 rfl (by omega) [] (by simp);rw[List.nil_append]at L4 hT;have z1:iT (List.replicate n 0)=List.replicate n (.pv (vI 0)):=by simp[iT]
 have q0:=(bf.one (dh (C:=List.replicate n 0))).norm;have q1:=(bf.one (dh (C:=List.range' 0 n))).norm;have q2:=(bf.one (dh (C:=l9 r))).norm;generalize mX (l9 r) 0=G at *;generalize l9 r=C9 at *;generalize List.range' 0 n=C0 at *;rw[g304L0e]at L0;rw[g304L1e]at L1;rw[g304L5e]at L4;rw[z1]at L0 q0;simp at q0 q1 q2;simp[eu,q0,q1]at L0;simp[eu,q1,q2]at L1;simp[q2]at L4;rw[ah (af:=g304) rfl rfl (by decide)];simp (disch:=omega) [g304,hnl,b1,b2,g304L0e,L0,g304L1e,L1,g304L5e,L4,q0,q1,q2]
def yY(C:List Nat):Prop:=∀x,x<C.length→gI C x<C.length∧gI C (gI C x)=gI C x
theorem NN{f:Nat→Nat}{C:List Nat}{x:Nat}(h:x<C.length):gI (C.map f) x=f (gI C x):=by
 simp[gI,h]
theorem P5{R:Nat→Nat→Bool}{i j:Nat}{C:List Nat}(hi:i<C.length)(hj:j<C.length)(h:yY C):yY (uD R i C j):=by
 unfold uD;split
 · have ri:=h i hi;have rj:=h j hj
   have lo:min (gI C i) (gI C j)<C.length∧gI C (min (gI C i) (gI C j))=min (gI C i) (gI C j):=by
     rcases Nat.le_total (gI C i) (gI C j) with q|q
     ·rw[Nat.min_eq_left q];exact ri
     ·rw[Nat.min_eq_right q];exact rj
   generalize min (gI C i) (gI C j)=l at *;generalize max (gI C i) (gI C j)=m at *;intro x hx;rw[List.length_map]at hx⊢;have rx:=h x hx;rw[NN hx];have hm:kU l m (gI C x)<C.length:=by unfold kU;split<;>first|exact lo.1|exact rx.1
   refine⟨hm,?_⟩;rw[NN hm];by_cases e:gI C x=m
   ·have e1:kU l m (gI C x)=l:=(by simp[kU,e]);rw[e1,lo.2];unfold kU;split<;>rfl
   ·have e1:kU l m (gI C x)=gI C x:=(by simp[kU,e]);rw[e1,rx.2,e1]
 ·exact h
theorem NO{R:Nat→Nat→Bool}{i:Nat}{l:List Nat}:∀{C:List Nat},i<C.length→(∀j∈l,j<C.length)→yY C→yY (l.foldl (uD R i) C):=by
 induction l with
 |nil=>intro C _ _ h;exact h
 |cons a r ih=>
   intro C hi hl h;rw[List.foldl_cons];exact ih (by rw[pI];exact hi) (fun j hj=>by rw[pI];exact hl j (by simp[hj])) (P5 hi (hl a (by simp)) h)
theorem NP{R:Nat→Nat→Bool}{l:List Nat}:∀{C:List Nat},(∀j∈l,j<C.length)→yY C→yY (l.foldl (kW R) C):=by
 induction l with
 |nil=>intro C _ h;exact h
 |cons a r ih=>
   intro C hl h;rw[List.foldl_cons];have ha:=hl a (by simp);refine ih (fun j hj=>by rw[ss];exact hl j (by simp[hj])) (NO ha (fun j hj=>?_) h);simp at hj;omega
theorem NQ{r:Rp}:yY (l9 r):=by
 refine NP (fun j hj=>by simpa using hj) ?_;intro x hx;simp only[List.length_range']at hx;have:gI (List.range' 0 r.aH.length) x=x:=by simp[gI,hx]
 rw[this];exact⟨by simpa using hx,this⟩
theorem P6{C:List Nat}{g:Nat}:ej C g 0≠[]↔∃x,x<C.length∧gI C x=g:=by
 unfold ej;rw[Nat.sub_zero,ne_eq,List.map_eq_nil_iff,List.filter_eq_nil_iff];simp
theorem P7{C:List Nat}(h:yY C){g:Nat}(hg:g<C.length):ej C g 0≠[]↔gI C g=g:=by
 rw[P6];constructor
 · rintro⟨x,hx,rfl⟩
   exact (h x hx).2
 ·intro e;exact⟨g,hg,e⟩
theorem J6{l:List Nat}{f:Nat→List Int}{p:Nat→Prop}[DecidablePred p](h:∀x∈l,f x≠[]↔p x):((l.map f).filter fun y=>decide (y≠[]))=l.flatMap fun x=>if p x then [f x] else []:=by
 induction l with
 |nil=>rfl
 |cons a r ih=>
   have ih:=ih fun x hx=>h x (by simp[hx]);have ha:=h a (by simp)
   rw[List.map_cons,List.filter_cons,List.flatMap_cons,ih];by_cases e:p a
   ·have:=ha.2 e;simp[e,this]
   · have:f a=[]:=by by_cases q:f a=[];exact q;exact absurd (ha.1 q) e
     simp[e,this]
theorem P8{C:List Nat}(h:yY C):jI C 0=mX C 0:=by
 unfold jI mX;exact J6 (p:=fun x=>gI C x=x) fun x hx=>P7 h (by simp at hx;omega)
theorem V0{a:List Int}(hS:Sm a):∀(k i:Nat),a.length-i=k→i≤a.length →
   cl AP g305L0 ⟨[(0,.pv (.aw (a.map vI))),(1,.pv (.aw (a.map vI))),(5,.pv (vI i))],[],[],[]⟩=some (.exit 0,⟨[(0,.pv (.aw (a.map vI))),(1,.pv (.aw (a.map vI))),(5,.pv (vI a.length)),(14,.pv (.bool false))],[],[],[]⟩)
 |0,i,hk,hi=>by
   have:i=a.length:=by omega
   subst this;rw[g305L0e];simp[g305B0]
 |k+1,i,hk,hi=>by
   have hi:i<a.length:=(by omega);obtain⟨x,hx⟩:=aP hi;have ih:=V0 hS k (i+1) (by omega) (by omega);unfold Sm at hS;rw[g305L0e]at ih⊢;simp at ih;simp (disch:=omega) [-getElem?_pos,g305B0,hi,hx,aq];rw[g305L0e];simp[ih]
theorem c305{a:List Int}(hS:Sm a):(aF AP).p 305 [.aw (a.map vI),.aw (a.map vI)]=some [.bool true]:=by
 have L:=V0 hS _ 0 rfl (by omega);rw[g305L0e]at L;simp at L;rw[ah (af:=g305) rfl rfl (by decide)];simp[g305,g305L0e,L]
theorem RI{M:List Int}{j:Int}{G:List (List Int)}(hl:G.length≤200000)(hS:∀g∈G,Sm g):∀(k i:Nat),G.length-i=k→i≤G.length →
   cl AP g297L1 ⟨[(10,.pv (.aw (G.map uJ))),(11,.pv (.aw (G.map uJ))),(12,.pv (vI i))],[],tp M j,[]⟩=some (.exit 2,⟨[(10,.pv (.aw (G.map uJ))),(11,.pv (.aw (G.map uJ))),(12,.pv (vI G.length)),(70,.pv (.bool false))],[],tp M j,[]⟩)
 |0,i,hk,hi=>by
   have:i=G.length:=by omega
   subst this;rw[g297L1e];simp[g297B1]
 |k+1,i,hk,hi=>by
   have hi:i<G.length:=(by omega);obtain⟨x,hx⟩:=aP hi;have ih:=RI (M:=M) (j:=j) hl hS k (i+1) (by omega) (by omega);have c:=c305 (hS x (aQ hx));rw[g297L1e]at ih⊢;simp at ih;simp (disch:=omega) [-getElem?_pos,g297B1,hi,hx,aq,c,uJ];rw[g297L1e];simp[ih]
theorem J7(c:Int):vz (aK c):=⟨bL rfl,Ty.Kn.bare rfl (by simp[aK]) (by simp[aK]),by rw[Ty.aL];simp[aK]⟩
theorem RJ{M:List Int}(hM:Sm M)(bits:Int){ts:List Sc}{ms:List Int}:∀(i:Nat),i<6→∀(hs:List Ho) (j:Nat),(∀h∈hs,uG h)→hs.length+i≤100010→j≤M.length→∃(hs':List Ho) (j':Nat),(∀h∈hs',uG h)∧hs'.length≤100010 ∧
   cl AP g297L0 ⟨[(0,.pv (vI bits)),(7,.au 7 0),(8,.aM 0 0),(9,.pv (vI i))],[(7,[.own (ts.map As.pv) 0,.own (hs.map Ho.pv) 1,.own (ms.map vI) 2])],tp M j,[ts.length,hs.length,ms.length]⟩ =
     some (.exit 0,⟨[(0,.pv (vI bits)),(7,.au 7 0),(8,.aM 0 0),(9,.pv (vI 0)),(32,.pv (.bool false))],[(7,[.own (ts.map As.pv) 0,.own (hs'.map Ho.pv) 1,.own (ms.map vI) 2])],tp M j',[ts.length,hs'.length,ms.length]⟩)
 |0,_,hs,j,hH,hl,hj=>by
   refine⟨hs,j,hH,by omega,?_⟩;rw[g297L0e];simp[g297B0]
 |i+1,hi,hs,j,hH,hl,hj=>by
   obtain⟨ds,k3,d1,d2⟩:=c32 bits;have d8:=RH (ds:=ds) ⟨d1,d2⟩;obtain⟨a,j1,e1,_,_,hj1⟩:=rH (i7 (L:=M)) hM (i:=j) hj (n:=6) (by omega) (by omega);obtain⟨b,j2,e2,_,_,hj2⟩:=rH (i7 (L:=M)) hM (i:=j1) hj1 (n:=6) (by omega) (by omega);obtain⟨t,j3,e3,mt,hj3⟩:=PD (i7 (L:=M)) hM (ds:=ds) (by omega) (fun d hd=>(d8 d hd).1) (lv:=[aK a,aK b]) (by simp[Sm]) 1 (by omega) j2 hj2;obtain⟨c,j4,e4,_,_,hj4⟩:=rH (i7 (L:=M)) hM (i:=j3) hj3 (n:=9) (by omega) (by omega);have lb:∀t∈[aK a,aK b],t.args=[]:=by intro t ht;simp at ht;rcases ht with rfl|rfl<;>rfl
   have T:vz t:=⟨dL.ok (D:=(·∈ds)) (fun d hd=>(d8 d hd).1) lb mt,dL.kn (D:=(·∈ds)) (fun d hd=>(d8 d hd).2) (by intro t ht;simp at ht;rcases ht with rfl|rfl<;>simp[aK]) mt,by
     have:=dL.small (D:=(·∈ds)) (fun d hd=>(d8 d hd).1) lb mt;omega⟩
   have nh:uG ⟨0,0,[⟨[120],⟨0,aK c⟩⟩],t⟩:=⟨by simp,T,by intro x hx;simp at hx;subst hx;exact J7 c⟩;obtain⟨hs',j',hH',hl',ih⟩:=RJ hM bits (ts:=ts) (ms:=ms) i (by omega) (hs++[⟨0,0,[⟨[120],⟨0,aK c⟩⟩],t⟩]) j4 (by intro h hh;simp at hh;rcases hh with hh|rfl;exact hH h hh;exact nh) (by simp;omega) hj4;refine⟨hs',j',hH',hl',?_⟩;have p1:=c63 (n:=a);have p2:=c63 (n:=b);have p3:=c63 (n:=c);have p4:=c176 (t:=aK c);have hb:(hs.length+1)*104≤140737488355328:=(by omega);have e0:(0:Int)<((i+1:Nat):Int):=(by omega);have e9:((i+1:Nat):Int)-1=i:=(by omega);rw[g297L0e]at ih⊢;simp[aK]at ih e1 e2 e3 e4 k3 p1 p2 p3 p4;simp (disch:=omega) [-getElem?_pos,g297B0,k3,e1,e2,e3,e4,p1,p2,p3,p4,hb,e0,e9,aq];rw[g297L0e];simp[ih]
theorem NR{C:List Nat}{g:Nat}:(ej C g 0).length≤C.length:=by
 unfold ej;rw[List.length_map];have:=List.length_filter_le (fun x=>decide (gI C x=g)) (List.range' 0 (C.length-0));simpa using this
theorem NT{C:List Nat}{l:List Int}(h:l∈jI C 0):l.length≤C.length:=by
 unfold jI at h;obtain⟨x,_,rfl⟩:=List.mem_map.1 (List.mem_filter.1 h).1;exact NR
theorem NU{C:List Nat}:(jI C 0).length≤C.length:=by
 unfold jI;refine Nat.le_trans (List.length_filter_le _ _) ?_;simp
theorem Tu(bits:Int)(L M:List Int):(aF AP).p 297 [vI bits,.aw (L.map vI),.aw (M.map vI)]=some [.bool true]:=by
 have k0:=c301;have k1:=c15 (l:=L);have k2:=c15 (l:=M);by_cases hL:L.length≤60
 · by_cases hM:M.length≤60
   · rw[decide_eq_true hL]at k1;rw[decide_eq_true hM]at k2;have hS:Sm L:=by unfold Sm;omega
     have hS2:Sm M:=(by unfold Sm;omega);obtain⟨r,R,_,k4⟩:=c302b hS bits;obtain⟨i,j1,e1,i0,i1,hj1⟩:=rH (i7 (L:=M)) hS2 (i:=0) (by omega) (n:=6) (by omega) (by omega);obtain⟨i,rfl⟩:∃x:Nat,i=x:=⟨i.toNat,by omega⟩;have hr:=R.hl;obtain⟨hs,j2,hH,hl,L0⟩:=RJ hS2 bits (ts:=r.types) (ms:=r.homes) i (by omega) r.aH j1 R.ho (by omega) hj1;have a1:=c303 (r:=⟨r.types,hs,r.homes⟩) (by simp only;omega) hH;have a2:=c304 (r:=⟨r.types,hs,r.homes⟩) (by simp only;omega) hH;have cl:=uE (r:=⟨r.types,hs,r.homes⟩);simp only at cl;rw[←P8 NQ]at a2;have gl:=NU (C:=l9 ⟨r.types,hs,r.homes⟩);have L1:=RI (M:=M) (j:=j2) (G:=jI (l9 ⟨r.types,hs,r.homes⟩) 0) (by omega) (fun g hg=>by have:=NT hg;unfold Sm;omega) _ 0 rfl (by omega);generalize jI (l9 ⟨r.types,hs,r.homes⟩) 0=G at *;rw[g297L0e]at L0;rw[g297L1e]at L1;simp at a1 a2 e1 L1;rcases k4 with k4|⟨rfl,k4⟩
     ·simp[P4]at k4 L0;rw[ah (af:=g297) rfl rfl (by decide)];simp (disch:=omega) [g297,k0,k1,k2,k4,e1,g297L0e,L0,a1,a2,g297L1e,L1]
     ·simp at k4 L0 a1 a2;rw[ah (af:=g297) rfl rfl (by decide)];simp (disch:=omega) [g297,k0,k1,k2,k4,e1,g297L0e,L0,a1,a2,g297L1e,L1]
   ·rw[decide_eq_true hL]at k1;rw[decide_eq_false hM]at k2;rw[ah (af:=g297) rfl rfl (by decide)];simp[g297,k0,k1,k2]
 ·rw[decide_eq_false hL]at k1;rw[ah (af:=g297) rfl rfl (by decide)];simp[g297,k0,k1]
end Go.Ab.Lw
