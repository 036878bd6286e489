import Derived.Test.YthcoecdbgdhihaaGreatDoorLibA
/-
  Both matchings are one.
  When a closed type is general.
  The reference's Instance; the law SchemeInstances.
  The search's reference: an element.
  The search's reference: heads.
  The search's reference: the schemes of constructors; the list of heads.
  The search's reference: the list of heads, the walk.
  A tape anywhere in shared memory: the makers of types and of raw expressions.
  The law ScopeVisible.
  The maker of typed expressions: what it gives; leaves.
  The maker of typed expressions: leaves, functions, applications, annotations, held ones.
  The maker of programs: the scheme of a let is closed.
  The maker of typed expressions: lets.
  The maker of typed expressions: heads with arguments.
  The maker of typed expressions: cases.
  The maker of typed expressions: cases; all depths.
  The maker of programs: signatures.
  The maker of programs: bindings.
  The maker of programs: one binding.
  The maker of programs: the first binding; all bindings.
  The maker of programs.
  A part of an expression is replaced.
  A program is changed in one place: the walk down.
  A program is changed in one place.
  **Some**: programs, well typed or not.
  Texts of programs: declarations, and the reference's loops.
  The holes of a program: how many, and where.
  Where a hole of a program is.
  The names at a hole: the same by both.
  The laws SpliceFinds and SpliceNames.
  Chapter 12's first example.
  The laws SpliceFinds and SpliceNames: the loops.
  The law SpliceFinds.
-/
set_option linter.unusedVariables false
set_option linter.unusedSimpArgs false
set_option linter.unnecessarySimpa false
set_option maxRecDepth 100000
set_option maxHeartbeats 8000000
namespace Go.Ab.Lw
open Ev
theorem Lj {n:Nat}:jC (gN [] n) 0=(List.replicate n [.pv (vI 0),.pv (.str []),.pv (vI 0),.pv (vI 0),.pv (.aJ [])]).flatten:=by
 have e:gN [] n=List.replicate n P0:=by
   exact List.eq_replicate_iff.2 ⟨by simp [gN],by intro b hb;simp [gN,kz] at hb;exact hb.2.symm⟩
 rw [e]
 simp only [jC,List.replicate_zero,List.flatten_nil,List.append_nil,List.flatMap_def,List.map_replicate]
 rfl
theorem Qc {n:Nat}:y7 [] n=List.replicate n (.pv (.bool false)):=List.eq_replicate_iff.2 ⟨vX,by intro b hb;simp [y7,Lh,kz] at hb;exact hb.2.symm⟩
end Go.Ab.Lw
namespace Go.Ab.Lw
open Ev
theorem s9 {s:List As} (hs:∀a∈s,a.ty.args=[]) {t:Ty} (hW:t.Wf):(t.sub s).nodes.length=t.nodes.length:=by
 revert hW
 refine Ty.eP (p:=fun t=>t.Wf→(t.sub s).nodes.length=t.nodes.length) ?_ t
 intro t ih hW
 rw [Ty.sub_eq]
 by_cases e:t.kind=1
 · rw [if_pos e]
   have ea:=hW.var e
   cases hf:kr s t.id with
   | none=>rfl
   | some u=>
     obtain ⟨a,ha,rfl⟩:=l0 hf
     rw [Option.getD_some,Ty.bg,Ty.bg t,hs a ha,ea];simp
 · rw [if_neg e,Ty.bg,Ty.bg t]
   simp only [List.length_cons,List.flatMap_map]
   have key:∀(l:List Ty),(∀y∈l,y∈t.args)→(l.flatMap fun y=>(y.sub s).nodes).length=(l.flatMap Ty.nodes).length:=by
     intro l
     induction l with
     | nil=>intro _;rfl
     | cons a r ihr=>
       intro hl
       simp only [List.flatMap_cons,List.length_append]
       rw [ih a (hl a (by simp)) (hW.gV a (hl a (by simp))),ihr (fun y hy=>hl y (by simp [hy]))]
   rw [key t.args (fun _ h=>h)]
end Go.Ab.Lw
namespace Go.Ab.Lw
open Ev
noncomputable def Ip (N:Nat) (p t:Ty):Option (List Ty):=if (Ty.rt t [] p).1=true then some (gN (Ty.rt t [] p).2 N) else none
theorem c238 {N:Nat} (hN:N<1000000) {p t:Ty} (ht:t.Ok) (hR:Ke N p):(aQ AP).p 238 [(As.mk N p).pv,t.pv]=some (rI (Ip N p t)):=by
 have k:=c240 (N:=N) (by omega) ht hR [] (by intro i x h;cases h)
 rw [aw (af:=g238) rfl rfl (by decide)]
 unfold Ip
 generalize hm:(Ty.rt t [] p).2=m at k ⊢
 have hfr:=HN (d:=gN m N)
 have hle:=yv (d:=gN m N) (m:=0)
 rw [iS] at hfr hle
 have h1:=(ew (m:=[]) (n:=N)).norm
 have h2:=(ew (m:=m) (n:=N)).norm
 have h3:=(ew (m:=m) (n:=N)).shift
 have h4:=(bP.one (vJ (d:=gN [] N) (m:=0))).norm
 have b1:(N:Int)≤9223372036854775807:=by omega
 have b2:(N:Int)*64≤140737488355328:=by omega
 have b3:(N:Int)≤140737488355328:=by omega
 have e0:mG [] N=[some ((List.replicate N [.pv (vI 0),.pv (.str []),.pv (vI 0),.pv (vI 0),.pv (.aJ [])]).flatten),some (List.replicate N (.pv (.bool false)))]:=by unfold mG;rw [Lj,Qc]
 rw [e0] at k h1
 rw [Lj] at h4
 have h5:=(bP.one (BO (m:=[]) (n:=N))).norm
 rw [Qc] at h5
 simp [mG] at hfr hle k h1 h2 h3 h4 h5
 cases e:(Ty.rt t [] p).1 with
 | true=>
   rw [e] at k
   simp (disch:=omega) [g238,b1,b2,b3,h1,h2,h3,h4,h5,k,hfr,hle,rI]
 | false=>
   rw [e] at k
   simp (disch:=omega) [g238,b1,b2,b3,h1,h2,h3,h4,h5,k,rI]
end Go.Ab.Lw
namespace Go.Ab.Lw
open Ev
theorem CE:∀{l:List Int} {i:Nat} {v:Int} {x:Ty},kr (gS i l) v=some x→∃k:Nat,x=ct k
 | [],i,v,x,h=>by simp [gS,kr] at h
 | a::r,i,v,x,h=>by
   simp only [gS,kr] at h
   split at h
   · cases h;exact ⟨i,rfl⟩
   · exact CE h
theorem uk {l:List Int} {i:Nat}:∀a∈gS i l,a.ty.args=[]:=by
 induction l generalizing i with
 | nil=>simp [gS]
 | cons v r ih=>
   intro a ha
   simp only [gS,List.mem_cons] at ha
   rcases ha with rfl | ha
   · rfl
   · exact ih a ha
theorem Kf {l:List Int} {i:Nat}:∀a∈gS i l,a.ty.Ok:=fun a ha=>cZ (uk a ha)
theorem Kg {l:List Int} {u:Ty} (h:Fx u):Fx (u.sub (gS 0 l)):=by
 refine ⟨⟨BB Kf h.1.1,?_⟩,?_⟩
 · refine BG (K:=KS) h.1.2 (fun k q _=>q) ?_ (.inl (by simp))
   intro i x hx
   obtain ⟨k,rfl⟩:=CE hx
   exact ss
 · rw [s9 uk h.1.2.wf]
   exact h.2
theorem Iq {l:List Ty} {k:Int} (h:∀u∈l,Fx u):(l.flatMap (Ty.eY k)).length≤l.length*4000:=by
 induction l with
 | nil=>simp
 | cons a r ih=>
   have h1:=(h a (by simp)).2
   have h2:=nP (k:=k) (t:=a)
   have h3:=ih fun u hu=>h u (by simp [hu])
   simp only [List.flatMap_cons,List.length_append,List.length_cons]
   omega
theorem c395k {l:List Ty} (hl:l.length≤1000000) (h:∀u∈l,Fx u):(aQ AP).i 395 [.pv (.aJ (l.map Ty.pv))] [] []=some ([.own ((l.map (Ty.sub (gS 0 (vars l)))).map Ty.pv) 0],[],[l.length]):=by
 have hlen:=Iq (k:=1) h
 refine c395i (S:=l.flatMap (Ty.eY 1)) (by omega) ?_ (by unfold Sm;omega) ?_
 · intro x hx
   simp only [List.mem_flatMap] at hx
   obtain ⟨u,_,hx⟩:=hx
   exact cZ (lJ x hx)
 · intro t ht
   refine ⟨(h t ht).1.1,(h t ht).1.2.wf,?_⟩
   intro x hx
   simp only [List.mem_flatMap]
   exact ⟨t,ht,hx⟩
structure Ps (n M:Nat) (s:d5) (c:Sc) (K:Nat) (g:Ty) (vs:List As):Prop where
 inv:Inv n M (eG n) s
 hn:n≤6000
 hm:M≤1000000
 id:c.id=K
 k:K≤100
 ok:c.ty.Ok
 kn:c.ty.Kn KV
 OP:Ke K c.ty
 l8:∀w,ij c.ty w→w∈eG n
 g:Fit (eG n) g
 Qq:∀x∈vs,Fit (eG n) x.ty
 vl:vs.length≤5000
theorem c389 {n M:Nat} {s:d5} {c:Sc} {K:Nat} {g:Ty} {vs:List As} (E:Ps n M s c K g vs) {N:Nat} (hN:N≤10):∃(l1 l2:List Ty) (b:Bool),
   (aQ AP).p 389 [s.pv,c.pv,g.pv,.aJ (vs.map As.pv),vI N]=some [.aJ (l1.map Ty.pv),.aJ (l2.map Ty.pv),.bool b]∧(∀u∈l1++l2,Fx u)∧l1.length≤6000∧l2.length≤10:=by
 have h0:=Lc E.inv E.id (by have:=E.hn;have:=E.k;omega) (by have:=E.hm;omega) (g:=g) (p3:=.aJ (vs.map As.pv)) (p4:=vI N) K 0 (by omega) (by omega) [] rfl
 have I1:=l_ E.inv K
 have hnk:n+K≤6100:=by have:=E.hn;have:=E.k;omega
 have hM1:M+K*(2*(n+K)+4)≤5000000:=by
   have:K*(2*(n+K)+4)≤100*12204:=Nat.mul_le_mul E.k (by omega)
   have:=E.hm
   omega
 have e0:nT s 0=s:=rfl
 rw [e0] at h0
 have hin:([]++(List.range' 0 (K-0)).map fun j=>ct (n+j:Nat))=(List.range K).map fun j=>ct (n+j:Nat):=by rw [List.nil_append,Nat.sub_zero,List.range_eq_range']
 rw [hin] at h0
 have hiv:∀x∈(List.range K).map (fun j=>ct (n+j:Nat)),∃j:Nat,j<K∧x=ct (n+j:Nat):=by
   intro x hx
   simp only [List.mem_map,List.mem_range] at hx
   obtain ⟨j,hj,rfl⟩:=hx
   exact ⟨j,hj,rfl⟩
 have hil:((List.range K).map (fun j=>ct (n+j:Nat))).length=K:=by simp
 generalize (List.range K).map (fun j=>ct (n+j:Nat))=ins at *
 have hii:∀x∈ins,Fit (eG (n+K)) x:=by
   intro x hx
   obtain ⟨j,hj,rfl⟩:=hiv x hx
   exact nU (eK.2 (by omega))
 have k1:=c48 (s:=ins) (by unfold Sm;omega) E.ok
 have mono:=ui (n:=n) (m:=n+K) (by omega)
 have W:Fit (eG (n+K)) (c.ty.l6 ins):=by
   refine ⟨H5 (fun x hx=>(hii x hx).ok) E.ok,H6 E.kn (by simp only [KV,KS];omega) (fun x hx=>(hii x hx).wf) (fun y hy hk=>by have:=E.OP y hy hk;omega),?_⟩
   intro w ho
   rcases J9 w ho with h | ⟨x,hx,h⟩
   · exact mono w (E.l8 w h)
   · exact (hii x hx).l8 w h
 have X:OJ (n+K) (M+K*(2*(n+K)+4)) (nT s K) (c.ty.l6 ins) (c.ty.l6 ins) g [] vs:=⟨I1,W,W,E.g.gR mono,by simp,fun x hx=>(E.Qq x hx).gR mono⟩
 generalize c.ty.l6 ins=w at *
 generalize nT s K=s1 at *
 have hpv:c.pv=.agg [vI c.id,vI c.ty.kind,.str c.ty.name,vI c.ty.id,vI c.ty.home,.aJ (c.ty.args.map Ty.pv)]:=rfl
 have hK:=E.id
 rw [g389L0e] at h0
 simp [sC,yR,tC,hK] at h0 k1
 have bad:∀r,(aQ AP).p 389 [s.pv,c.pv,g.pv,.aJ (vs.map As.pv),vI N]=some [.aJ [],.aJ [],.bool false]→r=r→∃(l1 l2:List Ty) (b:Bool),
     (aQ AP).p 389 [s.pv,c.pv,g.pv,.aJ (vs.map As.pv),vI N]=some [.aJ (l1.map Ty.pv),.aJ (l2.map Ty.pv),.bool b]∧(∀u∈l1++l2,Fx u)∧l1.length≤6000∧l2.length≤10:=fun (_:Nat) h _=>⟨[],[],false,h,by simp,by simp,by simp⟩
 rcases Le (vs:=vs) (N:=N) (by omega) N (n+K) _ s1 w [] (by simp) (by simp) X (by omega) (by omega) with ⟨q,h1⟩ | ⟨m,M',s2,t2,args,hm,hM,JX,E2,h1⟩
 · refine bad 0 ?_ rfl
   rw [g389L1e] at h1
   simp [kJ,lM,sC,tC] at h1
   rw [aw (af:=g389) rfl rfl (by decide)]
   simp [g389,hK,g389L0e,h0,k1,g389L1e,h1]
 · have hsl:=E2.inv.len
   have hsm:Sm s2.sl:=by unfold Sm;omega
   have k2:=c386 hsm (t:=t2)
   have F:=E2.t.wk E2.inv
   change (aQ AP).p 386 [s2.pv,t2.pv]=some [(kv s2.sl t2).pv] at k2
   generalize kv s2.sl t2=x at *
   obtain ⟨a,b,cc,k3,_⟩:=c194f F
   rw [g389L1e] at h1
   simp [kJ,sC,tC] at h1 k2 k3
   cases cc with
   | true=>
     refine bad 0 ?_ rfl
     rw [aw (af:=g389) rfl rfl (by decide)]
     simp [g389,hK,g389L0e,h0,k1,g389L1e,h1,k2,k3]
   | false=>
     have nl:∀w∈eG m,w<m:=fun w h=>(eK.1 h).2
     obtain ⟨s3,k4,I3⟩:=c394 (Mx (by omega) (by omega)) nl E2.inv F
     obtain ⟨s4,k5,I4⟩:=c394 (Mx (by omega) (by omega)) nl I3 E2.g
     obtain ⟨s5,e,k6,I5⟩:=c385 (Mx (by omega) (by omega)) I4 F E2.g
     have hsm5:Sm s5.sl:=by unfold Sm;rw [I5.len];omega
     obtain ⟨r,k7,_,_,_⟩:=c355 hsm5 I5.ok (m:=200) (by omega) E2.w.ok
     simp at k4 k5 k6 k7
     by_cases he:e=0
     · subst he
       by_cases hr:(200:Int)<r
       · refine bad 0 ?_ rfl
         rw [aw (af:=g389) rfl rfl (by decide)]
         simp [g389,hK,g389L0e,h0,k1,g389L1e,h1,k2,k3,k4,k5,k6,k7,hr]
       · rcases Lf I5 (by omega) (vs:=vs) (by have:=E.vl;omega) E2.vs (args:=args) _ 0 rfl (by omega) [] rfl (by simp) with ⟨q,h2⟩ | ⟨us,hul,huo,h2⟩
         · refine bad 0 ?_ rfl
           rw [g389L2e] at h2
           simp [lM,sC] at h2
           rw [aw (af:=g389) rfl rfl (by decide)]
           simp [g389,hK,g389L0e,h0,k1,g389L1e,h1,k2,k3,k4,k5,k6,k7,hr,g389L2e,h2]
         · obtain ⟨vs2,g1,g2,g3,h3⟩:=Lg I5 (by omega) (p3:=.aJ (vs.map As.pv)) (args:=args) (by omega) E2.args (V:=vs.length) _ 0 rfl (by omega) us (by omega) (by have:=E.vl;omega) huo
           have hvl:=E.vl
           have k8:=c395k (l:=vs2) (by omega) g2
           have hl3:(vs2.map (Ty.sub (gS 0 (vars vs2)))).length=vs2.length:=by simp
           have ho3:∀u∈vs2.map (Ty.sub (gS 0 (vars vs2))),Fx u:=by
             intro u hu
             simp only [List.mem_map] at hu
             obtain ⟨y,hy,rfl⟩:=hu
             exact Kg (g2 y hy)
           generalize vs2.map (Ty.sub (gS 0 (vars vs2)))=l at *
           refine ⟨l.take vs.length,l.drop vs.length,true,?_,by rw [List.take_append_drop];exact ho3,by simp;omega,by simp;omega⟩
           have q1:=Ol (sz:=5) (τ:=2) (l:=l.map Ty.pv) (k:=.i64) (h:=(vs.length:Int)) (by omega) (by simp;omega)
           have q2:=OL (sz:=5) (τ:=2) (l:=l.map Ty.pv) (k:=.i64) (h:=(vs.length:Int)) (by omega) (by simp;omega) (Cl.head l)
           rw [g389L2e] at h2
           rw [g389L3e] at h3
           simp [sC] at h2 h3
           simp at k8 q1 q2
           rw [aw (af:=g389) rfl rfl (by decide)]
           simp [g389,hK,g389L0e,h0,k1,g389L1e,h1,k2,k3,k4,k5,k6,k7,hr,g389L2e,h2,g389L3e,h3,k8,q1,q2]
     · refine bad 0 ?_ rfl
       rw [aw (af:=g389) rfl rfl (by decide)]
       simp [g389,hK,g389L0e,h0,k1,g389L1e,h1,k2,k3,k4,k5,k6,he]
end Go.Ab.Lw
namespace Go.Ab.Lw
open Ev
structure Hd where
 name:d4
 iR:Bool
 args:List Ty
 types:List Ty
def Hd.pv (h:Hd):PV:=.agg [.str h.name,.bool h.iR,.aJ (h.args.map Ty.pv),.aJ (h.types.map Ty.pv)]
@[simp] theorem Hd.lz (h:Hd):h.pv=.agg [.str h.name,.bool h.iR,.aJ (h.args.map Ty.pv),.aJ (h.types.map Ty.pv)]:=rfl
theorem Ir:El Hd.pv 4 true:=⟨fun _=>rfl,fun _=>rfl⟩
@[simp] theorem M7 {l:List Hd}:bC 4 (l.map Hd.pv)=true:=Ir.head l
def sv (h:Hd):Prop:=h.args.length≤10∧(∀u∈h.args,Fx u)∧h.name.length≤100
def hC (nm:d4) (cn:Bool):List AV:=[.pv (.str nm),.pv (.bool cn),.pv (.aJ []),.pv (.aJ [])]
theorem MA {n M:Nat} {s:d5} {c:Sc} {K:Nat} {g:Ty} {vs:List As} (E:Ps n M s c K g vs) {nm:d4} (hnm:nm.length≤100) {cn:Bool}:∀(k i:Nat),4-i=k→i≤4→∀acc:List Hd,acc.length≤i→(∀h∈acc,sv h) →
   ∃hs:List Hd,hs.length≤4∧(∀h∈hs,sv h)∧cl AP g378L0 ⟨[(3,.pv (.aJ (vs.map As.pv))),(4,.pv (vI 3)),(6,.aG 6 0),(7,.aG 7 0),(8,.aG 8 0),(11,.aG 11 0),(13,.own (acc.map Hd.pv) 0),(14,.pv (vI i))],[(6,sC s),(7,yR c),(8,tC g),(11,hC nm cn)],[],[acc.length]⟩ =
     some (.exit 0,⟨[(3,.pv (.aJ (vs.map As.pv))),(4,.pv (vI 3)),(6,.aG 6 0),(7,.aG 7 0),(8,.aG 8 0),(11,.aG 11 0),(13,.own (hs.map Hd.pv) 0),(14,.pv (vI 4)),(21,.pv (.bool false))],[(6,sC s),(7,yR c),(8,tC g),(11,hC nm cn)],[],[hs.length]⟩)
 | 0,i,hk,hi,acc,ha,ho=>by
   have:i=4:=by omega
   subst this
   refine ⟨acc,ha,ho,?_⟩
   rw [g378L0e]
   simp [g378B0,sC,yR,tC,hC]
 | k+1,i,hk,hi,acc,ha,ho=>by
   have hi:i<4:=by omega
   have hi3:(i:Int)≤3:=by omega
   obtain ⟨l1,l2,b,e,hO,n1,n2⟩:=c389 E (N:=i) (by omega)
   simp at e
   cases b with
   | false=>
     obtain ⟨hs,h1,h2,e'⟩:=MA E (nm:=nm) hnm (cn:=cn) k (i+1) (by omega) (by omega) acc (by omega) ho
     refine ⟨hs,h1,h2,?_⟩
     rw [g378L0e] at e' ⊢
     simp [sC,yR,tC,hC] at e'
     simp (disch:=omega) [-getElem?_pos,g378B0,sC,yR,tC,hC,hi3,e,aA]
     rw [g378L0e]
     simp [e']
   | true=>
     have hb1:l1.length*64≤140737488355328:=by omega
     have hb2:l2.length*64≤140737488355328:=by omega
     have hb3:(acc.length+1)*72≤140737488355328:=by omega
     have hh1:=Cl.head l1
     have hh2:=Cl.head l2
     obtain ⟨hs,h1,h2,e'⟩:=MA E (nm:=nm) hnm (cn:=cn) k (i+1) (by omega) (by omega) (acc++[⟨nm,cn,l2,l1⟩]) (by simp;omega) (by
       intro h hh;simp at hh;rcases hh with hh | rfl
       · exact ho h hh
       · exact ⟨n2,fun u hu=>hO u (by simp [hu]),hnm⟩)
     refine ⟨hs,h1,h2,?_⟩
     rw [g378L0e] at e' ⊢
     simp [sC,yR,tC,hC] at e'
     by_cases z1:l1=[]
     · by_cases z2:l2=[]
       · subst z1;subst z2
         simp at e e'
         simp (disch:=omega) [-getElem?_pos,g378B0,sC,yR,tC,hC,hi3,e,aA,hb3]
         rw [g378L0e]
         simp [e']
       · subst z1
         simp at e e'
         simp (disch:=omega) [-getElem?_pos,g378B0,sC,yR,tC,hC,hi3,e,aA,hb2,hb3,hh2,z2]
         rw [g378L0e]
         simp [e']
     · by_cases z2:l2=[]
       · subst z2
         simp at e e'
         simp (disch:=omega) [-getElem?_pos,g378B0,sC,yR,tC,hC,hi3,e,aA,hb1,hb3,hh1,z1]
         rw [g378L0e]
         simp [e']
       · simp (disch:=omega) [-getElem?_pos,g378B0,sC,yR,tC,hC,hi3,e,aA,hb1,hb2,hb3,hh1,hh2,z1,z2]
         rw [g378L0e]
         simp [e']
theorem c378 {n M:Nat} {s:d5} {c:Sc} {K:Nat} {g:Ty} {vs:List As} (E:Ps n M s c K g vs) {nm:d4} (hnm:nm.length≤100) {cn:Bool}:∃hs:List Hd,hs.length≤4∧(∀h∈hs,sv h) ∧
   (aQ AP).p 378 [s.pv,c.pv,g.pv,.aJ (vs.map As.pv),vI 3,.agg [.str nm,.bool cn,.aJ [],.aJ []]]=some [.aJ (hs.map Hd.pv)]:=by
 obtain ⟨hs,h1,h2,e⟩:=MA E (nm:=nm) hnm (cn:=cn) _ 0 rfl (by omega) [] (by simp) (by simp)
 refine ⟨hs,h1,h2,?_⟩
 rw [aw (af:=g378) rfl rfl (by decide)]
 rw [g378L0e] at e
 simp [sC,yR,tC,hC] at e
 simp [g378,g378L0e,e]
end Go.Ab.Lw
namespace Go.Ab.Lw
open Ev
theorem Fz {t:Ty}:∀y∈t.args,∀v∈y.nodes,v∈t.nodes:=by
 intro y hy v hv
 rw [Ty.bg]
 simp only [List.mem_cons,List.mem_flatMap]
 exact .inr ⟨y,hy,hv⟩
theorem Kn.yV {K:Int→Prop} (t:Ty):(∀y∈t.nodes,(y.kind≠4→K y.kind∧y.args=[])∧y.name.length≤100)→t.Kn K:=by
 refine Ty.eP (p:=fun t=>(∀y∈t.nodes,(y.kind≠4→K y.kind∧y.args=[])∧y.name.length≤100)→t.Kn K) ?_ t
 intro t ih h
 refine .mk (h t (by rw [Ty.bg];simp)).1 (h t (by rw [Ty.bg];simp)).2 fun x hx=>ih x hx fun y hy=>h y (Fz x hx y hy)
theorem pK (t:Ty):(∀y∈t.nodes,y.args.length≤100)→t.Ok:=by
 refine Ty.eP (p:=fun t=>(∀y∈t.nodes,y.args.length≤100)→t.Ok) ?_ t
 intro t ih h
 refine .mk (by have:=h t (by rw [Ty.bg];simp);unfold Sm;omega) fun x hx=>ih x hx fun y hy=>h y (Fz x hx y hy)
theorem Is {K:Int→Prop} {t:Ty} {w:Int} (h:ij t w):t.Kn K→¬K 1→False:=by
 induction h with
 | @var t q=>intro hk h1;have:=(hk.hd (by rw [q];decide)).1;rw [q] at this;exact h1 this
 | arg _ ha _ ih=>intro hk h1;exact ih (hk.kd _ ha) h1
structure cv (t:Ty):Prop where
 ok:t.Ok
 kn:t.Kn KG
structure kP (c:Sc):Prop where
 ok:c.ty.Ok
 kn:c.ty.Kn KC
 OP:∃K:Nat,c.id=K∧K≤100∧Ke K c.ty
theorem cv.fit {S:List Int} {t:Ty} (h:cv t):Fit S t:=⟨h.ok,h.kn.imp KQ,fun _ ho=>(Is ho h.kn (by simp)).elim⟩
theorem cv.gV {t:Ty} (h:cv t):∀x∈t.args,cv x:=fun x hx=>⟨h.ok.gV x hx,h.kn.kd x hx⟩
theorem kP.Qd {c:Sc} (h:kP c) {g:Ty} (hg:cv g):∃K,Ps 0 0 (s8 0) c K g []:=by
 obtain ⟨K,h1,h2,h3⟩:=h.OP
 exact ⟨K,⟨vU 0,by omega,by omega,h1,h2,h.ok,h.kn.imp Oc,h3,fun _ ho=>(Is ho h.kn (by simp)).elim,hg.fit,by simp,by simp⟩⟩
theorem cv.mono {t:Ty} (h:cv t):kP ⟨0,t⟩:=⟨h.ok,h.kn.imp Ob,0,rfl,by omega,fun y hy hk=>by have:=(h.kn.nodes y hy (by rw [hk];decide)).1;rw [hk] at this;simp at this⟩
theorem qo:cv bA:=⟨cZ rfl,.bare rfl (by simp [bA]) (by simp [bA])⟩
def Kh (c:Sc):Bool:=c.ty.nodes.all fun y=>(decide (y.args.length≤100) && decide (y.name.length≤100)) && (decide (y.kind=4) || (decide (y.kind=0) || decide (y.kind=2) || decide (y.kind=3)) && decide (y.args.length=0)) && (decide (y.kind≠2) || decide (0≤y.id) && decide (y.id<c.id))
theorem CF {c:Sc} {K:Nat} (hc:c.id=K) (hK:K≤100) (h:Kh c=true):kP c:=by
 simp only [Kh,List.all_eq_true,Bool.and_eq_true,Bool.or_eq_true,decide_eq_true_eq] at h
 refine ⟨pK _ fun y hy=>(h y hy).1.1.1,Kn.yV _ fun y hy=>⟨fun hk=>?_,(h y hy).1.1.2⟩,K,hc,hK,fun y hy hk=>?_⟩
 · rcases (h y hy).1.2 with q | ⟨q,q2⟩
   · exact absurd q hk
   · exact ⟨by simp only [KC];omega,List.length_eq_zero_iff.1 q2⟩
 · rcases (h y hy).2 with q | q
   · exact absurd hk q
   · omega
theorem Ki:∀d∈cH,d.params.length≤100∧∀c∈d.cons,Kh ⟨d.params.length,BK d.params c.fields (Ik d)⟩=true:=by decide +kernel
theorem FA {ds:List Dt} (hD:∀d∈ds,d∈cH) {s:d4}:kP ((pJ ds s).getD lA):=by
 cases e:pJ ds s with
 | none=>exact ⟨cZ rfl,.bare rfl (by simp [lA]) (by simp [lA]),0,rfl,by omega,by intro y hy hk;simp [lA,Ty.bg] at hy;rw [hy] at hk;simp at hk⟩
 | some sc=>
   simp only [pJ,Option.bind_eq_some_iff,Option.map_eq_some_iff] at e
   obtain ⟨q,_,d,hd,c,hc,rfl⟩:=e
   obtain ⟨h1,h2⟩:=Ki d (hD d (bz hd))
   exact CF (K:=d.params.length) rfl h1 (h2 c (bz hc))
theorem ee:∀d∈cH,d.params.length≤8∧d.cons.length≤8∧∀c∈d.cons,c.fields.length≤8∧∀x∈c.fields,x.nodes.all (fun y=>(decide (y.args.length≤100) && decide (y.name.length≤100)) && (decide (y.kind=4) || decide (y.kind=5) && decide (y.args.length=0)))=true:=by decide +kernel
theorem CG {d:Dt} (hd:d∈cH):∀c∈d.cons,Sm c.fields∧(∀x∈c.fields,x.Ok)∧∀x∈c.fields,x.Kn (·=5):=by
 intro c hc
 obtain ⟨_,_,h⟩:=ee d hd
 obtain ⟨h1,h2⟩:=h c hc
 simp only [List.all_eq_true,Bool.and_eq_true,Bool.or_eq_true,decide_eq_true_eq] at h2
 refine ⟨by unfold Sm;omega,fun x hx=>pK _ fun y hy=>(h2 x hx y hy).1.1,fun x hx=>Kn.yV _ fun y hy=>⟨fun hk=>?_,(h2 x hx y hy).1.2⟩⟩
 rcases (h2 x hx y hy).2 with q | ⟨q,q2⟩
 · exact absurd q hk
 · exact ⟨q,List.length_eq_zero_iff.1 q2⟩
theorem kA:∀d∈cH,d.name.length≤100∧∀c∈d.cons,c.name.length≤100:=by decide +kernel
structure s_ (ds:List Dt):Prop where
 all:∀d∈ds,d∈cH
 len:ds.length≤8
theorem s_.c193 {ds:List Dt} (h:s_ ds) {s:d4}:(aQ AP).p 193 [.aJ (ds.map Dt.pv),.str s]=some (J0 (pJ ds s)):=
 Lw.c193 (by have:=h.len;unfold Sm;omega) (fun d hd=>by have:=(ee d (h.all d hd)).2.1;unfold Sm;omega) (fun d hd=>by have:=(ee d (h.all d hd)).1;unfold Sm;omega) (fun d hd c hc=>by
   obtain ⟨a,b,c2⟩:=CG (h.all d hd) c hc
   exact ⟨a,b,fun x hx=>(c2 x hx).cw⟩)
theorem Kj {l:List Ty} (h:∀t∈l,∃K:Int→Prop,t.Kn K∧¬K 1):vars l=[]:=by
 have:∀y∈l.flatMap Ty.nodes,y.kind≠1:=by
   intro y hy hk
   simp only [List.mem_flatMap] at hy
   obtain ⟨t,ht,hy⟩:=hy
   obtain ⟨K,hK,h1⟩:=h t ht
   have:=(hK.nodes y hy (by rw [hk];decide)).1
   rw [hk] at this
   exact h1 this
 unfold vars
 generalize l.flatMap Ty.nodes=m at *
 induction m with
 | nil=>rfl
 | cons a r ih=>
   have:eC [] a=[]:=by simp [eC,this a (by simp)]
   rw [List.foldl_cons,this]
   exact ih fun y hy=>by rename_i h2;exact h2 y (by simp [hy])
theorem Iu {k:Int} {t:Ty}:∀y∈t.eY k,y∈t.nodes∧y.kind=k:=by
 refine Ty.eP (p:=fun t=>∀y∈t.eY k,y∈t.nodes∧y.kind=k) ?_ t
 intro t ih y hy
 rw [Ty.lC] at hy
 rw [Ty.bg]
 split at hy
 · rename_i q
   simp at hy
   subst hy
   exact ⟨by simp,q.1⟩
 · simp only [List.mem_flatMap] at hy
   obtain ⟨a,ha,hy⟩:=hy
   have:=ih a ha y hy
   exact ⟨by simp only [List.mem_cons,List.mem_flatMap];exact .inr ⟨a,ha,this.1⟩,this.2⟩
theorem CH {K:Int→Prop} {t:Ty} (h:t.Kn K) (h1:¬K 1) (hO:t.Ok):Good [] t:=⟨hO,h.wf,by
 intro y hy
 obtain ⟨a,b⟩:=Iu y hy
 have:=(h.nodes y a (by rw [b];decide)).1
 rw [b] at this
 exact absurd this h1⟩
end Go.Ab.Lw
namespace Go.Ab.Lw
open Ev
theorem yW (t:Ty):t.sub []=t:=by
 refine Ty.eP (p:=fun t=>t.sub []=t) ?_ t
 intro t ih
 rw [Ty.sub_eq]
 split
 · simp [kr]
 · have:t.args.map (Ty.sub [])=t.args:=by
     conv=>rhs;rw [←List.map_id t.args]
     exact List.map_congr_left fun x hx=>by simpa using ih x hx
   rw [this]
   cases t;rfl
def v5:List AV:=[.pv (.aJ []),.pv (.aJ [])]
theorem Ll {g:Ty} (hg:cv g) {ds:List Dt} {E:List En} (hE:Sm E) (hc:∀x∈E,kP x.sc) (hnm:∀x∈E,x.name.length≤100) {T:Nat} (hT:T≤1000000):∀(n i:Nat),E.length-i=n→i≤E.length→∀acc:List Hd,acc.length+4*n≤T→(∀h∈acc,sv h) →
   ∃hs:List Hd,hs.length≤T∧(∀h∈hs,sv h)∧cl AP g362L0 ⟨[(0,.pv (.aJ (ds.map Dt.pv))),(4,.pv (vI 3)),(14,.aG 14 0),(15,.pv (.aJ [])),(16,.aG 16 0),(17,.own (acc.map Hd.pv) 0),(18,.pv (.aJ (E.map En.pv))),(19,.pv (vI i))],[(14,v5),(16,tC g)],[],[acc.length]⟩ =
     some (.exit 0,⟨[(0,.pv (.aJ (ds.map Dt.pv))),(4,.pv (vI 3)),(14,.aG 14 0),(15,.pv (.aJ [])),(16,.aG 16 0),(17,.own (hs.map Hd.pv) 0),(18,.pv (.aJ (E.map En.pv))),(19,.pv (vI E.length)),(51,.pv (.bool false))],[(14,v5),(16,tC g)],[],[hs.length]⟩)
 | 0,i,hn,hi,acc,ha,ho=>by
   have:i=E.length:=by omega
   subst this
   refine ⟨acc,by omega,ho,?_⟩
   rw [g362L0e]
   simp [g362B0,v5,tC]
 | n+1,i,hn,hi,acc,ha,ho=>by
   have hi:i<E.length:=by omega
   obtain ⟨x,hx⟩:=bO hi
   have hs:=hc x (bz hx)
   obtain ⟨K,El⟩:=hs.Qd hg
   obtain ⟨l,q1,q2,k2⟩:=c378 El (nm:=x.name) (hnm x (bz hx)) (cn:=false)
   have k1:=c377 (s:=[]) (by simp [Sm]) hs.ok
   rw [yW] at k1
   obtain ⟨hs,h1,h2,e'⟩:=Ll hg (ds:=ds) hE hc hnm hT n (i+1) (by omega) (by omega) (acc++l) (by simp;omega) (by
     intro h hh;simp at hh;rcases hh with hh | hh
     · exact ho h hh
     · exact q2 h hh)
   refine ⟨hs,h1,h2,?_⟩
   unfold Sm at hE
   have hb:(acc.length+l.length)*72≤140737488355328:=by omega
   have hb0:acc.length*72≤140737488355328:=by omega
   have hh:=Ir.head l
   rw [g362L0e] at e' ⊢
   simp [v5,tC] at e'
   simp [s8] at k1 k2 hh
   by_cases z:l=[]
   · subst z
     simp at k2 e'
     simp (disch:=omega) [-getElem?_pos,g362B0,v5,tC,hx,hi,k1,k2,hb0,aA]
     rw [g362L0e]
     simp [e']
   · simp (disch:=omega) [-getElem?_pos,g362B0,v5,tC,hx,hi,k1,k2,hb,hh,z,aA]
     rw [g362L0e]
     simp [e']
theorem Lm {g:Ty} (hg:cv g) {ds:List Dt} (hD:s_ ds) {I:Nat} {d:Dt} (hd:ds[I]?=some d) {T:Nat} (hT:T≤1000000):∀(n i:Nat),d.cons.length-i=n→i≤d.cons.length→∀acc:List Hd,acc.length+4*n≤T→(∀h∈acc,sv h) →
   ∃hs:List Hd,hs.length≤T∧(∀h∈hs,sv h)∧cl AP g362L2 ⟨[(0,.pv (.aJ (ds.map Dt.pv))),(4,.pv (vI 3)),(14,.aG 14 0),(15,.pv (.aJ [])),(16,.aG 16 0),(17,.own (acc.map Hd.pv) 0),(21,.pv (vI I)),(22,.pv (vI i))],[(14,v5),(16,tC g)],[],[acc.length]⟩ =
     some (.exit 4,⟨[(0,.pv (.aJ (ds.map Dt.pv))),(4,.pv (vI 3)),(14,.aG 14 0),(15,.pv (.aJ [])),(16,.aG 16 0),(17,.own (hs.map Hd.pv) 0),(21,.pv (vI I)),(22,.pv (vI d.cons.length)),(88,.pv (.bool false))],[(14,v5),(16,tC g)],[],[hs.length]⟩)
 | 0,i,hn,hi,acc,ha,ho=>by
   have:i=d.cons.length:=by omega
   subst this
   refine ⟨acc,by omega,ho,?_⟩
   have hI:=(List.getElem?_eq_some_iff.1 hd).1
   rw [g362L2e]
   simp [-getElem?_pos,g362B2,v5,tC,hd,hI]
 | n+1,i,hn,hi,acc,ha,ho=>by
   have hi:i<d.cons.length:=by omega
   have hI:=(List.getElem?_eq_some_iff.1 hd).1
   obtain ⟨c,hc⟩:=bO hi
   have k1:=hD.c193 (s:=c.name)
   have hs:=FA hD.all (s:=c.name)
   have hc8:=(ee d (hD.all d (bz hd))).2.1
   generalize hsc:(pJ ds c.name).getD lA=sc at *
   obtain ⟨K,El⟩:=hs.Qd hg
   obtain ⟨l,q1,q2,k2⟩:=c378 El (nm:=c.name) ((kA d (hD.all d (bz hd))).2 c (bz hc)) (cn:=true)
   obtain ⟨hs,h1,h2,e'⟩:=Lm hg hD hd hT n (i+1) (by omega) (by omega) (acc++l) (by simp;omega) (by
     intro h hh;simp at hh;rcases hh with hh | hh
     · exact ho h hh
     · exact q2 h hh)
   refine ⟨hs,h1,h2,?_⟩
   have hb:(acc.length+l.length)*72≤140737488355328:=by omega
   have hb0:acc.length*72≤140737488355328:=by omega
   have hh:=Ir.head l
   rw [g362L2e] at e' ⊢
   simp [v5,tC] at e'
   simp [s8] at k2 hh
   simp [J0,hsc] at k1
   by_cases z:l=[]
   · subst z
     simp at k2 e'
     simp (disch:=omega) [-getElem?_pos,g362B2,v5,tC,hd,hI,hc,hi,k1,k2,hb0,aA]
     rw [g362L2e]
     simp [e']
   · simp (disch:=omega) [-getElem?_pos,g362B2,v5,tC,hd,hI,hc,hi,k1,k2,hb,hh,z,aA]
     rw [g362L2e]
     simp [e']
theorem Ln {g:Ty} (hg:cv g) {ds:List Dt} (hD:s_ ds) {T:Nat} (hT:T≤1000000):∀(n i:Nat),ds.length-i=n→i≤ds.length→∀acc:List Hd,acc.length+32*n≤T→(∀h∈acc,sv h) →
   ∃hs:List Hd,hs.length≤T∧(∀h∈hs,sv h)∧cl AP g362L1 ⟨[(0,.pv (.aJ (ds.map Dt.pv))),(4,.pv (vI 3)),(14,.aG 14 0),(15,.pv (.aJ [])),(16,.aG 16 0),(17,.own (acc.map Hd.pv) 0),(21,.pv (vI i))],[(14,v5),(16,tC g)],[],[acc.length]⟩ =
     some (.exit 2,⟨[(0,.pv (.aJ (ds.map Dt.pv))),(4,.pv (vI 3)),(14,.aG 14 0),(15,.pv (.aJ [])),(16,.aG 16 0),(17,.own (hs.map Hd.pv) 0),(21,.pv (vI ds.length)),(78,.pv (.bool false))],[(14,v5),(16,tC g)],[],[hs.length]⟩)
 | 0,i,hn,hi,acc,ha,ho=>by
   have:i=ds.length:=by omega
   subst this
   refine ⟨acc,by omega,ho,?_⟩
   rw [g362L1e]
   simp [g362B1,v5,tC]
 | n+1,i,hn,hi,acc,ha,ho=>by
   have hi:i<ds.length:=by omega
   obtain ⟨d,hd⟩:=bO hi
   have hc8:=(ee d (hD.all d (bz hd))).2.1
   obtain ⟨l,q1,q2,e⟩:=Lm hg hD hd (T:=acc.length+32) (by omega) _ 0 rfl (by omega) acc (by omega) ho
   obtain ⟨hs,h1,h2,e'⟩:=Ln hg hD hT n (i+1) (by omega) (by omega) l (by omega) q2
   refine ⟨hs,h1,h2,?_⟩
   have hl:=hD.len
   rw [g362L1e] at e' ⊢
   rw [g362L2e] at e
   simp [v5,tC] at e' e
   simp (disch:=omega) [-getElem?_pos,g362B1,v5,tC,hd,hi,aA]
   rw [g362L2e]
   simp (disch:=omega) [e,aA]
   rw [g362L1e]
   simp [e']
theorem c362 {g:Ty} (hg:cv g) {ds:List Dt} (hD:s_ ds) {l:List En} (hl:l.length≤10000) (hc:∀x∈l,kP x.sc) (hnm:∀x∈l,x.name.length≤100):∃hs:List Hd,hs.length≤100000∧(∀h∈hs,sv h) ∧
   (aQ AP).p 362 [.aJ (ds.map Dt.pv),.aJ (l.map En.pv),g.pv,.aJ [],vI 3]=some [.aJ (hs.map Hd.pv)]:=by
 obtain ⟨a,b,c,k1,_⟩:=c194g hg.ok
 have hdl:=hD.len
 cases c with
 | true=>
   refine ⟨[],by simp,by simp,?_⟩
   simp at k1
   rw [aw (af:=g362) rfl rfl (by decide)]
   simp [g362,k1]
 | false=>
   have hsub:∀x∈dJ l,kP x.sc:=fun x hx=>hc x (lD l x hx)
   have hsl:=rY l
   obtain ⟨vs,hv,_,k2⟩:=c376 (S:=[]) (by simp) (by simp) (CH hg.kn (by simp) hg.ok) (l:=l) (by unfold Sm;omega) (by omega) (fun x hx=>CH (hc x hx).kn (by simp) (hc x hx).ok)
   have hv0:vs=[]:=by
     rw [hv]
     refine Kj ?_
     intro t ht
     simp only [List.mem_cons,List.mem_map] at ht
     rcases ht with rfl | ⟨x,hx,rfl⟩
     · exact ⟨KG,hg.kn,by simp⟩
     · exact ⟨KC,(hsub x hx).kn,by simp⟩
   subst hv0
   have k3:=c46 (s:=[]) (by simp [Sm]) hg.ok
   rw [yW] at k3
   have k4:=c201 (l:=l) (by unfold Sm;omega)
   obtain ⟨o1,a1,a2,h1⟩:=Ll hg (ds:=ds) (E:=dJ l) (by unfold Sm;omega) hsub (fun x hx=>hnm x (lD l x hx)) (T:=40000) (by omega) _ 0 rfl (by omega) [] (by simp;omega) (by simp)
   obtain ⟨o2,b1,b2,h2⟩:=Ln hg hD (T:=100000) (by omega) _ 0 rfl (by omega) o1 (by omega) a2
   refine ⟨o2,b1,b2,?_⟩
   rw [g362L0e] at h1
   rw [g362L1e] at h2
   generalize dJ l=E at *
   simp [v5,tC] at h1 h2
   simp at k1 k3 k4
   simp [s8,gS] at k2
   rw [aw (af:=g362) rfl rfl (by decide)]
   simp [g362,k1,k2,k3,k4,g362L0e,h1,g362L1e,h2]
end Go.Ab.Lw
namespace Go.Ab.Lw
open Ev
structure Tape (L:List Int) (tm:Nat) (TP:Int→Sh):Prop where
 get:∀i,(TP i)[tm]?=some (some [.pv (.aJ (L.map vI)),.pv (vI i)])
 set:∀i j,(TP i).set tm (some [.pv (.aJ (L.map vI)),.pv (vI j)])=TP j
 quiet:∀i,bP (TP i)
theorem Tape.norm {L:List Int} {tm:Nat} {TP:Int→Sh} (h:Tape L tm TP):∀i bh ts,cm bh ts (TP i)=(TP i,bh,ts):=fun i=>(h.quiet i).norm
theorem Tape.shift {L:List Int} {tm:Nat} {TP:Int→Sh} (h:Tape L tm TP):∀i n,gW n (TP i)=TP i:=fun i=>(h.quiet i).shift
theorem Tape.take {L:List Int} {tm:Nat} {TP:Int→Sh} (h:Tape L tm TP):∀i j,(TP j).take (TP i).length=TP j:=by
 intro i j
 refine List.take_of_length_le ?_
 rw [←h.set i j,List.length_set]
 exact Nat.le_refl _
theorem CI {L:List Int} {A B:Sh} (hA:bP A) (hB:bP B):Tape L A.length (fun i=>A++[some [.pv (.aJ (L.map vI)),.pv (vI i)]]++B) where
 get:=fun i=>by simp
 set:=fun i j=>by simp [List.set_append]
 quiet:=fun i=>(hA.app (bP.one (by intro v hv;simp at hv;rcases hv with rfl | rfl<;>exact ⟨_,rfl⟩))).app hB
theorem mY {L:List Int} {tm:Nat} {TP:Int→Sh} (hT:Tape L tm TP) (hL:Sm L) {i:Nat} (hi:i≤L.length) {n:Int} (h1:1≤n) (h2:n<4611686018427387904) :
   ∃(r:Int) (j:Nat),(aQ AP).i 68 [.bu tm 0,.pv (vI n)] (TP i) []=some ([.pv (vI r)],TP j,[])∧0≤r∧r<n∧j≤L.length:=by
 unfold Sm at hL
 have tn:=hT.norm
 have tsh:=hT.shift
 have tg:=hT.get
 have tset:=hT.set
 have tl:=hT.take
 rw [aT (af:=g68) rfl (by simp [g68])]
 by_cases h:i<L.length
 · obtain ⟨x,hx⟩:=bO h
   obtain ⟨r,e,e1,e2⟩:=c26 (n:=x) h1 h2
   refine ⟨r,i+1,?_,e1,e2,h⟩
   have h':¬L.length≤i:=by omega
   simp (disch:=omega) [-getElem?_pos,g68,h',aA,hx,e,tn,tsh,tg,tset,tl]
 · have h':L.length≤i:=by omega
   refine ⟨0,i,?_,by omega,by omega,hi⟩
   simp [-getElem?_pos,g68,h',tn,tsh,tg,tset,tl]
theorem FB {L:List Int} {tm:Nat} {TP:Int→Sh} (hT:Tape L tm TP) (hL:Sm L) {i:Nat} (hi:i≤L.length):∃(s:List UInt8) (j:Nat),(aQ AP).i 175 [.bu tm 0] (TP i) []=some ([.pv (.str s)],TP j,[])∧s∈varNames∧j≤L.length:=by
 have tn:=hT.norm
 have tsh:=hT.shift
 have tl:=hT.take
 obtain ⟨k,j,e,k0,k8,hj⟩:=mY hT hL hi (n:=8) (by omega) (by omega)
 obtain ⟨m,rfl,hm⟩:=mT (n:=varNames.length) k0 (by simpa [varNames] using k8)
 obtain ⟨s,hs⟩:=bO hm
 refine ⟨s,j,?_,bz hs,hj⟩
 try simp [tn,tsh,tl] at e
 rw [aT (af:=g175) rfl (by simp [tn,tsh,tl,g175])]
 have hs':([PV.str [120],.str [121],.str [122],.str [102],.str [103],.str [118,49],.str [118,50],.str [105,100]]:List PV)[m]?=some (.str s):=by
   have:([PV.str [120],.str [121],.str [122],.str [102],.str [103],.str [118,49],.str [118,50],.str [105,100]]:List PV)=varNames.map PV.str:=rfl
   rw [this];simp [tn,tsh,tl,hs]
 simp [tn,tsh,tl,-getElem?_pos,g175,e,hs']
def nV (L:List Int) (tm:Nat) (TP:Int→Sh) (ds:List Dt) (lv:List Ty) (dep:Nat):Prop:=∀i:Nat,i≤L.length→∃(t:Ty) (j:Nat),
 (aQ AP).i 27 [.bu tm 0,.pv (.aJ (ds.map Dt.pv)),.pv (.aJ (lv.map Ty.pv)),.pv (vI dep)] (TP i) []=some ([t.av],TP j,[])∧gM (·∈ds) lv dep t∧j≤L.length
theorem OQ {L:List Int} {tm:Nat} {TP:Int→Sh} (hT:Tape L tm TP) {ds:List Dt} {lv:List Ty} {dep:Nat} (hdep:dep<1000) (hg:nV L tm TP ds lv dep) {d:Dt} (hS:Sm d.params):∀(n k:Nat),d.params.length-k=n→k≤d.params.length→∀(acc:List Ty) (i:Nat),acc.length=k→(∀x∈acc,gM (·∈ds) lv dep x)→i≤L.length →
   ∃(r:List Ty) (j:Nat),cl AP g27L0 ⟨[(0,.bu tm 0),(1,.pv (.aJ (ds.map Dt.pv))),(2,.pv (.aJ (lv.map Ty.pv))),(3,.pv (vI (dep+1))),(8,.aG 8 0),(10,.aG 10 0),(11,.own (acc.map Ty.pv) 0),(12,.pv (vI k))],
     [(8,[.pv (vI 0),.pv (.str []),.pv (vI 0),.pv (vI 0),.own [] 1]),(10,[.pv (vI d.pos),.pv (.str d.name),.pv (.aJ (d.params.map .str)),.pv (.aJ (d.cons.map pH.pv))])],TP i,[acc.length,0]⟩ =
     some (.exit 1,⟨[(0,.bu tm 0),(1,.pv (.aJ (ds.map Dt.pv))),(2,.pv (.aJ (lv.map Ty.pv))),(3,.pv (vI (dep+1))),(8,.aG 8 0),(10,.aG 10 0),(11,.own (r.map Ty.pv) 0),(12,.pv (vI d.params.length)),(65,.pv (.bool false))],
     [(8,[.pv (vI 0),.pv (.str []),.pv (vI 0),.pv (vI 0),.own [] 1]),(10,[.pv (vI d.pos),.pv (.str d.name),.pv (.aJ (d.params.map .str)),.pv (.aJ (d.cons.map pH.pv))])],TP j,[r.length,0]⟩) ∧
     r.length=d.params.length∧(∀x∈r,gM (·∈ds) lv dep x)∧j≤L.length
 | 0,k,hn,hk,acc,i,ha,hm,hi=>by
   have tn:=hT.norm
   have tsh:=hT.shift
   have tl:=hT.take
   have:k=d.params.length:=by omega
   subst this
   refine ⟨acc,i,?_,ha,hm,hi⟩
   rw [g27L0e]
   simp [tn,tsh,tl,g27B0]
 | n+1,k,hn,hk,acc,i,ha,hm,hi=>by
   have tn:=hT.norm
   have tsh:=hT.shift
   have tl:=hT.take
   unfold Sm at hS
   have hk:k<d.params.length:=by omega
   have hb:(acc.length+1)*64≤140737488355328:=by omega
   obtain ⟨t,j,e,mt,hj⟩:=hg i hi
   try simp [tn,tsh,tl] at e
   obtain ⟨r,j',e',hr,hm',hj'⟩:=OQ hT hdep hg hS n (k+1) (by omega) (by omega) (acc++[t]) j (by simp;omega) (by
     intro x hx;simp at hx;rcases hx with hx | rfl
     · exact hm x hx
     · exact mt) hj
   try simp [tn,tsh,tl] at e'
   refine ⟨r,j',?_,hr,hm',hj'⟩
   rw [g27L0e]
   have h1:(dep:Int)+1-1=dep:=by omega
   simp (disch:=omega) [tn,tsh,tl,-getElem?_pos,g27B0,hk,aA,h1,e,hb]
   rw [e']
theorem OR {L:List Int} {tm:Nat} {TP:Int→Sh} (hT:Tape L tm TP) (hL:Sm L) {ds:List Dt} {lv:List Ty} (hlv:Sm lv):nV L tm TP ds lv 0:=by
 have tn:=hT.norm
 have tsh:=hT.shift
 have tl:=hT.take
 intro i hi
 obtain ⟨k,j1,e1,k0,k7,hj1⟩:=mY hT hL hi (n:=7) (by omega) (by omega)
 try simp [tn,tsh,tl] at e1
 unfold Sm at hlv
 by_cases h1:k<3
 · by_cases h2:lv=[]
   · subst h2
     refine ⟨bA,j1,?_,.int,hj1⟩
     have c:=c34
     try simp [tn,tsh,tl] at c
     rw [aT (af:=g27) rfl (by simp [tn,tsh,tl,g27])]
     simp [tn,tsh,tl,-getElem?_pos,g27,e1,h1,c,bA]
   · have hp:0<lv.length:=List.length_pos_iff.2 h2
     obtain ⟨r,j2,e2,r0,r1,hj2⟩:=mY hT hL hj1 (n:=lv.length) (by omega) (by omega)
     obtain ⟨m,rfl,hm⟩:=mT r0 r1
     obtain ⟨x,hx⟩:=bO hm
     try simp [tn,tsh,tl] at e2
     refine ⟨x,j2,?_,.leaf (bz hx),hj2⟩
     rw [aT (af:=g27) rfl (by simp [tn,tsh,tl,g27])]
     simp [tn,tsh,tl,-getElem?_pos,g27,e1,h1,hp,e2,hx]
 · refine ⟨bA,j1,?_,.int,hj1⟩
   have c:=c34
   try simp [tn,tsh,tl] at c
   rw [aT (af:=g27) rfl (by simp [tn,tsh,tl,g27])]
   simp [tn,tsh,tl,-getElem?_pos,g27,e1,h1,c,bA]
theorem OS {L:List Int} {tm:Nat} {TP:Int→Sh} (hT:Tape L tm TP) (hL:Sm L) {ds:List Dt} (hds:ds.length≤20) (hda:∀d∈ds,d.params.length≤8) {lv:List Ty} (hlv:Sm lv) {dep:Nat} (hdep:dep<1000) (hg:nV L tm TP ds lv dep):nV L tm TP ds lv (dep+1):=by
 have tn:=hT.norm
 have tsh:=hT.shift
 have tl:=hT.take
 intro i hi
 obtain ⟨k,j1,e1,k0,k7,hj1⟩:=mY hT hL hi (n:=7) (by omega) (by omega)
 try simp [tn,tsh,tl] at e1
 unfold Sm at hlv
 have hd1:¬((dep:Int)+1<1):=by omega
 have hd2:(dep:Int)+1-1=dep:=by omega
 have leafCase:∀h1:k<3,∀h2:¬lv=[],∃(t:Ty) (j:Nat),(aQ AP).i 27 [.bu tm 0,.pv (.aJ (ds.map Dt.pv)),.pv (.aJ (lv.map Ty.pv)),.pv (vI ((dep+1:Nat):Int))] (TP i) []=some ([t.av],TP j,[])∧gM (·∈ds) lv (dep+1) t∧j≤L.length:=by
   intro h1 h2
   have hp:0<lv.length:=List.length_pos_iff.2 h2
   obtain ⟨r,j2,e2,r0,r1,hj2⟩:=mY hT hL hj1 (n:=lv.length) (by omega) (by omega)
   obtain ⟨m,rfl,hm⟩:=mT r0 r1
   obtain ⟨x,hx⟩:=bO hm
   try simp [tn,tsh,tl] at e2
   refine ⟨x,j2,?_,.leaf (bz hx),hj2⟩
   rw [aT (af:=g27) rfl (by simp [tn,tsh,tl,g27])]
   simp [tn,tsh,tl,-getElem?_pos,g27,e1,h1,hp,e2,hx]
 by_cases h1:k<3∧¬lv=[]
 · exact leafCase h1.1 h1.2
 · have h1':¬k<3∨lv=[]:=by
     by_cases h:k<3
     · right;by_cases h':lv=[]
       · exact h'
       · exact absurd ⟨h,h'⟩ h1
     · exact .inl h
   by_cases h2:k<4
   · refine ⟨bA,j1,?_,.int,hj1⟩
     have c:=c34
     try simp [tn,tsh,tl] at c
     rw [aT (af:=g27) rfl (by simp [tn,tsh,tl,g27])]
     rcases h1' with h | h
     · simp [tn,tsh,tl,-getElem?_pos,g27,e1,h,h2,c,bA]
     · subst h
       simp [tn,tsh,tl,-getElem?_pos,g27,e1,h2,c,bA]
   · have h3:¬k<3:=by omega
     by_cases h4:(k=4∨k=5)∧¬ds=[]
     · obtain ⟨h4,h5⟩:=h4
       have hp:0<ds.length:=List.length_pos_iff.2 h5
       obtain ⟨r,j2,e2,r0,r1,hj2⟩:=mY hT hL hj1 (n:=ds.length) (by omega) (by omega)
       obtain ⟨m,rfl,hm⟩:=mT r0 r1
       obtain ⟨d,hx⟩:=bO hm
       try simp [tn,tsh,tl] at e2
       have hdm:=bz hx
       have hps:Sm d.params:=by
         unfold Sm
         have:=hda d hdm
         omega
       obtain ⟨as,j3,e3,ha,hm3,hj3⟩:=OQ hT hdep hg hps d.params.length 0 rfl (by omega) [] j2 rfl (by simp) hj2
       rw [g27L0e] at e3
       try simp [tn,tsh,tl] at e3
       have hsa:Sm as:=by unfold Sm at hps ⊢;omega
       have c:=c62 (s:=d.name) (l:=as) hsa
       try simp [tn,tsh,tl] at c
       refine ⟨⟨4,d.name,0,0,as⟩,j3,?_,.iR hdm ha hm3,hj3⟩
       rw [aT (af:=g27) rfl (by simp [tn,tsh,tl,g27])]
       rcases h4 with rfl | rfl
       · simp [tn,tsh,tl,-getElem?_pos,g27,e1,hp,hd1,e2,hx,g27L0e,e3,c]
       · simp [tn,tsh,tl,-getElem?_pos,g27,e1,hp,hd1,e2,hx,g27L0e,e3,c]
     · obtain ⟨a,j2,ea,ma,hj2⟩:=hg j1 hj1
       obtain ⟨b,j3,eb,mb,hj3⟩:=hg j2 hj2
       try simp [tn,tsh,tl] at ea eb
       have c:=c69 (a:=a) (b:=b)
       try simp [tn,tsh,tl] at c
       refine ⟨⟨4,[45,62],0,0,[a,b]⟩,j3,?_,.arrow ma mb,hj3⟩
       rw [aT (af:=g27) rfl (by simp [tn,tsh,tl,g27])]
       by_cases h5:ds=[]
       · subst h5
         try simp [tn,tsh,tl] at ea eb
         simp (disch:=omega) [tn,tsh,tl,-getElem?_pos,g27,e1,h2,h3,hd1,hd2,aA,ea,eb,c]
       · have h6:¬k=4∧¬k=5:=by
           constructor
           · intro h;exact h4 ⟨.inl h,h5⟩
           · intro h;exact h4 ⟨.inr h,h5⟩
         simp (disch:=omega) [tn,tsh,tl,-getElem?_pos,g27,e1,h2,h3,h6.1,h6.2,hd1,hd2,aA,ea,eb,c]
theorem MB {L:List Int} {tm:Nat} {TP:Int→Sh} (hT:Tape L tm TP) (hL:Sm L) {ds:List Dt} (hds:ds.length≤20) (hda:∀d∈ds,d.params.length≤8) {lv:List Ty} (hlv:Sm lv):∀dep:Nat,dep<1000→nV L tm TP ds lv dep
 | 0,_=>OR hT hL hlv
 | dep+1,h=>OS hT hL hds hda hlv (by omega) (MB hT hL hds hda hlv dep (by omega))
def qp (L:List Int) (tm:Nat) (TP:Int→Sh) (ds:List Dt) (dep:Nat):Prop:=∀i:Nat,i≤L.length→∃(e:Ex) (fk fa fg:Bool) (j:Nat),
 (aQ AP).i 247 [.bu tm 0,.pv (.aJ (ds.map Dt.pv)),.pv (vI dep)] (TP i) []=some ([.agg (ej fk fa fg e)],TP j,[])∧gg ds dep e∧j≤L.length
theorem um {L:List Int} {tm:Nat} {TP:Int→Sh} (hT:Tape L tm TP) (hL:Sm L) {ds:List Dt} (hds:ds.length≤8) (hD:∀d∈ds,D8 d) {dep:Nat} {i j1:Nat} {k:Int} (hj1:j1≤L.length)
   (e1:(aQ AP).i 68 [.bu tm 0,.pv (vI 14)] (TP i) []=some ([.pv (vI k)],TP j1,[])) (k0:0≤k) (hk:if dep=0 then True else k<5) :
   ∃(e:Ex) (fk fa fg:Bool) (j:Nat),(aQ AP).i 247 [.bu tm 0,.pv (.aJ (ds.map Dt.pv)),.pv (vI dep)] (TP i) []=some ([.agg (ej fk fa fg e)],TP j,[])∧gg ds dep e∧j≤L.length:=by
 have tn:=hT.norm
 have tsh:=hT.shift
 have tl:=hT.take
 try simp [tn,tsh,tl] at e1
 obtain ⟨r,hr,hr0,hr1⟩:∃r:Int,(if dep=0 then k.tmod 5 else k)=r∧0≤r∧r<5:=by
   by_cases h:dep=0
   · refine ⟨k.tmod 5,by simp [tn,tsh,tl,h],?_,?_⟩
     · exact Int.tmod_nonneg 5 k0
     · exact Int.tmod_lt_of_pos k (by omega)
   · simp [tn,tsh,tl,h] at hk
     exact ⟨k,by simp [tn,tsh,tl,h],k0,hk⟩
 have hcase:r=0∨r=1∨r=2∨r=3∨r=4:=by omega
 have hd:dep=0∧k.tmod 5=r∨¬((dep:Int)<1)∧k=r:=by
   by_cases h:dep=0
   · simp [tn,tsh,tl,h] at hr;exact .inl ⟨h,hr⟩
   · simp [tn,tsh,tl,h] at hr;exact .inr ⟨by omega,hr⟩
 clear hr
 have hvar:r=0∨r=1→∃(e:Ex) (fk fa fg:Bool) (j:Nat),(aQ AP).i 247 [.bu tm 0,.pv (.aJ (ds.map Dt.pv)),.pv (vI dep)] (TP i) []=some ([.agg (ej fk fa fg e)],TP j,[])∧gg ds dep e∧j≤L.length:=by
   intro h
   obtain ⟨s,j,e2,hs,hj⟩:=FB hT hL hj1
   try simp [tn,tsh,tl] at e2
   refine ⟨⟨1,0,s,0,[],[],bW⟩,true,true,true,j,?_,.var hs,hj⟩
   rw [aT (af:=g247) rfl (by simp [tn,tsh,tl,g247])]
   rcases h with rfl | rfl<;>rcases hd with ⟨rfl,h2⟩ | ⟨h1,rfl⟩
   · simp [tn,tsh,tl,g247,e1,h2,e2,ej,gE,bW]
   · simp [tn,tsh,tl,g247,e1,h1,e2,ej,gE,bW]
   · simp [tn,tsh,tl,g247,e1,h2,e2,ej,gE,bW]
   · simp [tn,tsh,tl,g247,e1,h1,e2,ej,gE,bW]
 rcases hcase with rfl | rfl | rfl | rfl | rfl
 · exact hvar (.inl rfl)
 · exact hvar (.inr rfl)
 · obtain ⟨m,j,e2,m0,m4,hj⟩:=mY hT hL hj1 (n:=4) (by omega) (by omega)
   try simp [tn,tsh,tl] at e2
   refine ⟨⟨3,0,[],m,[],[],bW⟩,true,true,true,j,?_,.int m0 m4,hj⟩
   rw [aT (af:=g247) rfl (by simp [tn,tsh,tl,g247])]
   rcases hd with ⟨rfl,h2⟩ | ⟨h1,rfl⟩
   · simp [tn,tsh,tl,g247,e1,h2,e2,ej,gE,bW]
   · simp [tn,tsh,tl,g247,e1,h1,e2,ej,gE,bW]
 · by_cases h0:ds=[]
   · subst h0
     refine ⟨⟨2,0,[71,111,110,101],0,[],[],bW⟩,true,true,true,j1,?_,.gone,hj1⟩
     rw [aT (af:=g247) rfl (by simp [tn,tsh,tl,g247])]
     rcases hd with ⟨rfl,h2⟩ | ⟨h1,rfl⟩
     · simp [tn,tsh,tl,g247,e1,h2,ej,gE,bW]
     · simp [tn,tsh,tl,g247,e1,h1,ej,gE,bW]
   · have hp:0<ds.length:=List.length_pos_iff.2 h0
     obtain ⟨n,j2,e2,n0,n1,hj2⟩:=mY hT hL hj1 (n:=ds.length) (by omega) (by omega)
     obtain ⟨m,rfl,hm⟩:=mT n0 n1
     obtain ⟨d,hx⟩:=bO hm
     obtain ⟨_,hc0,hc8,_⟩:=hD d (bz hx)
     obtain ⟨n',j3,e3,n0',n1',hj3⟩:=mY hT hL hj2 (n:=d.cons.length) (by omega) (by omega)
     obtain ⟨m',rfl,hm'⟩:=mT n0' n1'
     obtain ⟨c,hy⟩:=bO hm'
     try simp [tn,tsh,tl] at e2 e3
     refine ⟨⟨2,0,c.name,0,[],[],bW⟩,true,true,true,j3,?_,.iR (bz hx) (bz hy),hj3⟩
     rw [aT (af:=g247) rfl (by simp [tn,tsh,tl,g247])]
     rcases hd with ⟨rfl,h2⟩ | ⟨h1,rfl⟩
     · simp [tn,tsh,tl,-getElem?_pos,g247,e1,h2,e2,e3,hp,hx,hy,ej,gE,bW]
     · simp [tn,tsh,tl,-getElem?_pos,g247,e1,h1,e2,e3,hp,hx,hy,ej,gE,bW]
 · refine ⟨⟨10,0,[],0,[],[],bW⟩,true,true,true,j1,?_,.hole,hj1⟩
   rw [aT (af:=g247) rfl (by simp [tn,tsh,tl,g247])]
   rcases hd with ⟨rfl,h2⟩ | ⟨h1,rfl⟩
   · simp [tn,tsh,tl,g247,e1,h2,ej,gE,bW]
   · simp [tn,tsh,tl,g247,e1,h1,ej,gE,bW]
theorem FC {L:List Int} {tm:Nat} {TP:Int→Sh} (hT:Tape L tm TP) (hL:Sm L) {ds:List Dt} (hds:ds.length≤8) (hD:∀d∈ds,D8 d) {dep:Nat} (hdep:dep<1000) (hg:qp L tm TP ds dep) {i j1:Nat} {k:Int} (hj1:j1≤L.length)
   (e1:(aQ AP).i 68 [.bu tm 0,.pv (vI 14)] (TP i) []=some ([.pv (vI k)],TP j1,[])) (k5:5≤k) (k12:k≤12) :
   ∃(e:Ex) (fk fa fg:Bool) (j:Nat),(aQ AP).i 247 [.bu tm 0,.pv (.aJ (ds.map Dt.pv)),.pv (vI (dep+1:Nat))] (TP i) []=some ([.agg (ej fk fa fg e)],TP j,[])∧gg ds (dep+1) e∧j≤L.length:=by
 have tn:=hT.norm
 have tsh:=hT.shift
 have tl:=hT.take
 try simp [tn,tsh,tl] at e1
 have h1:¬((dep:Int)+1<1):=by omega
 have h2:(dep:Int)+1-1=dep:=by omega
 have hc:k=5∨k=6∨k=7∨k=8∨k=9∨k=10∨k=11∨k=12:=by omega
 have hlam:k=5∨k=6→∃(e:Ex) (fk fa fg:Bool) (j:Nat),(aQ AP).i 247 [.bu tm 0,.pv (.aJ (ds.map Dt.pv)),.pv (vI (dep+1:Nat))] (TP i) []=some ([.agg (ej fk fa fg e)],TP j,[])∧gg ds (dep+1) e∧j≤L.length:=by
   intro h
   obtain ⟨s,j2,e2,hs,hj2⟩:=FB hT hL hj1
   obtain ⟨a,f1,f2,f3,j3,e3,ha,hj3⟩:=hg j2 hj2
   have hA:=eh f1 f2 f3 a
   generalize ej f1 f2 f3 a=A at e3 hA
   try simp [tn,tsh,tl] at e2 e3
   refine ⟨⟨4,0,s,0,[a],[],bW⟩,true,true,true,j3,?_,.lam hs ha,hj3⟩
   rw [aT (af:=g247) rfl (by simp [tn,tsh,tl,g247])]
   have ac:=Ex.bS a
   rcases h with rfl | rfl<;>simp (disch:=omega) [tn,tsh,tl,g247,e1,h1,h2,aA,e2,e3,hA.dO,hA.flat,hA.iy,hA.len,hA.leaf,ac,ej,gE,bW]
 have happ:k=7∨k=8∨k=9→∃(e:Ex) (fk fa fg:Bool) (j:Nat),(aQ AP).i 247 [.bu tm 0,.pv (.aJ (ds.map Dt.pv)),.pv (vI (dep+1:Nat))] (TP i) []=some ([.agg (ej fk fa fg e)],TP j,[])∧gg ds (dep+1) e∧j≤L.length:=by
   intro h
   obtain ⟨a,f1,f2,f3,j2,e2,ha,hj2⟩:=hg j1 hj1
   obtain ⟨b,f4,f5,f6,j3,e3,hb,hj3⟩:=hg j2 hj2
   have hA:=eh f1 f2 f3 a
   generalize ej f1 f2 f3 a=A at e2 hA
   have hB:=eh f4 f5 f6 b
   generalize ej f4 f5 f6 b=B at e3 hB
   try simp [tn,tsh,tl] at e2 e3
   refine ⟨⟨5,0,[],0,[a,b],[],bW⟩,true,true,true,j3,?_,.app ha hb,hj3⟩
   rw [aT (af:=g247) rfl (by simp [tn,tsh,tl,g247])]
   have ac:=Ex.bS a
   have bc:=Ex.bS b
   have tA:A.take 11=A:=List.take_of_length_le (by rw [hA.len];omega)
   rcases h with rfl | rfl | rfl<;>simp (disch:=omega) [tn,tsh,tl,g247,e1,h1,h2,aA,e2,e3,hA.dO,hA.flat,hA.iy,hA.len,hA.leaf,hB.dO,hB.flat,hB.iy,hB.len,hB.leaf,tA,ac,bc,aK,ej,gE,bW]
 rcases hc with h | h | h | h | h | rfl | rfl | rfl
 · exact hlam (.inl h)
 · exact hlam (.inr h)
 · exact happ (.inl h)
 · exact happ (.inr (.inl h))
 · exact happ (.inr (.inr h))
 · obtain ⟨r,j2,e2,r0,r1,hj2⟩:=mY hT hL hj1 (n:=2) (by omega) (by omega)
   obtain ⟨s,j3,e3,hs,hj3⟩:=FB hT hL hj2
   obtain ⟨a,f1,f2,f3,j4,e4,ha,hj4⟩:=hg j3 hj3
   obtain ⟨b,f4,f5,f6,j5,e5,hb,hj5⟩:=hg j4 hj4
   have hA:=eh f1 f2 f3 a
   generalize ej f1 f2 f3 a=A at e4 hA
   have hB:=eh f4 f5 f6 b
   generalize ej f4 f5 f6 b=B at e5 hB
   try simp [tn,tsh,tl] at e2 e3 e4 e5
   have ac:=Ex.bS a
   have bc:=Ex.bS b
   have tA:A.take 11=A:=List.take_of_length_le (by rw [hA.len];omega)
   have hk:6+r=6∨6+r=7:=by omega
   refine ⟨⟨6+r,0,s,0,[a,b],[],bW⟩,true,true,true,j5,?_,.yB hk hs ha hb,hj5⟩
   rw [aT (af:=g247) rfl (by simp [tn,tsh,tl,g247])]
   simp (disch:=omega) [tn,tsh,tl,g247,e1,h1,h2,aA,e2,e3,e4,e5,hA.dO,hA.flat,hA.iy,hA.len,hA.leaf,hB.dO,hB.flat,hB.iy,hB.len,hB.leaf,tA,ac,bc,aK,ej,gE,bW]
 · obtain ⟨a,f1,f2,f3,j2,e2,ha,hj2⟩:=hg j1 hj1
   have hA:=eh f1 f2 f3 a
   generalize ej f1 f2 f3 a=A at e2 hA
   obtain ⟨t,j3,e3,ht,hj3⟩:=MB hT hL (ds:=ds) (by omega) (fun d hd=>(hD d hd).1) (lv:=[]) (by simp [tn,tsh,tl,Sm]) 2 (by omega) j2 hj2
   simp [tn,tsh,tl,Ty.av] at e2 e3
   have ac:=Ex.bS a
   refine ⟨⟨9,0,[],0,[a],[],t⟩,true,true,false,j3,?_,.KR ha ht,hj3⟩
   rw [aT (af:=g247) rfl (by simp [tn,tsh,tl,g247])]
   simp (disch:=omega) [tn,tsh,tl,g247,e1,h1,h2,aA,e2,e3,hA.dO,hA.flat,hA.iy,hA.len,hA.leaf,ac,ej,gE,bW]
 · obtain ⟨a,f1,f2,f3,j2,e2,ha,hj2⟩:=hg j1 hj1
   have hA:=eh f1 f2 f3 a
   generalize ej f1 f2 f3 a=A at e2 hA
   try simp [tn,tsh,tl] at e2
   have ac:=Ex.bS a
   refine ⟨⟨11,0,[],0,[a],[],bW⟩,true,true,true,j2,?_,.held ha,hj2⟩
   rw [aT (af:=g247) rfl (by simp [tn,tsh,tl,g247])]
   simp (disch:=omega) [tn,tsh,tl,g247,e1,h1,h2,aA,e2,hA.dO,hA.flat,hA.iy,hA.len,hA.leaf,ac,ej,gE,bW]
theorem Iv {L:List Int} {tm:Nat} {TP:Int→Sh} (hT:Tape L tm TP) (hL:Sm L) {ds:List Dt} {dep:Nat} {d:Dt} {a:Ex} {as:List Ar} {ci:Nat} {c:pH} (hc:d.cons[ci]?=some c) (h8:c.fields.length≤8):∀(n k:Nat),c.fields.length-k=n→k≤c.fields.length→∀(vs:List d4) (i:Nat),vs.length=k→(∀v∈vs,v∈mU)→i≤L.length →
   ∃(r:List d4) (j:Nat),cl AP g247L1 ⟨[(0,.bu tm 0),(1,.pv (.aJ (ds.map Dt.pv))),(2,.pv (vI (dep+1))),(6,.aG 6 0),(13,.aG 13 0),(14,.aG 14 0),(15,.pv (vI ci)),(16,.aG 16 0),(17,.pv (vI k))],
     [(6,m6),(13,qj d),(14,J4 a as),(16,Og c vs)],TP i,[0,0,0,1,as.length,0,vs.length,0,0,0]⟩ =
     some (.exit 3,⟨[(0,.bu tm 0),(1,.pv (.aJ (ds.map Dt.pv))),(2,.pv (vI (dep+1))),(6,.aG 6 0),(13,.aG 13 0),(14,.aG 14 0),(15,.pv (vI ci)),(16,.aG 16 0),(17,.pv (vI c.fields.length)),(179,.pv (.bool false))],
     [(6,m6),(13,qj d),(14,J4 a as),(16,Og c r)],TP j,[0,0,0,1,as.length,0,r.length,0,0,0]⟩) ∧
     r.length=c.fields.length∧(∀v∈r,v∈mU)∧j≤L.length
 | 0,k,hn,hk,vs,i,hv,hm,hi=>by
   have tn:=hT.norm
   have tsh:=hT.shift
   have tl:=hT.take
   have:k=c.fields.length:=by omega
   subst this
   refine ⟨vs,i,?_,hv,hm,hi⟩
   have hcl:=(List.getElem?_eq_some_iff.1 hc).1
   rw [g247L1e]
   simp [tn,tsh,tl,-getElem?_pos,g247B1,m6,qj,J4,Og,hc,hcl]
 | n+1,k,hn,hk,vs,i,hv,hm,hi=>by
   have tn:=hT.norm
   have tsh:=hT.shift
   have tl:=hT.take
   have hk:k<c.fields.length:=by omega
   have hcl:=(List.getElem?_eq_some_iff.1 hc).1
   have hb:(vs.length+1)*16≤140737488355328:=by omega
   obtain ⟨s,j,e,hs,hj⟩:=FB hT hL hi
   try simp [tn,tsh,tl] at e
   obtain ⟨r,j',e',hr,hm',hj'⟩:=Iv hT hL hc h8 (a:=a) (as:=as) (ds:=ds) (dep:=dep) n (k+1) (by omega) (by omega) (vs++[s]) j (by simp;omega) (by
     intro x hx;simp at hx;rcases hx with hx | rfl
     · exact hm x hx
     · exact hs) hj
   refine ⟨r,j',?_,hr,hm',hj'⟩
   simp [tn,tsh,tl,m6,qj,J4,Og] at e' ⊢
   rw [g247L1e]
   simp (disch:=omega) [tn,tsh,tl,-getElem?_pos,g247B1,hc,hcl,hk,aA,e,hb,aK]
   exact e'
theorem Iw {L:List Int} {tm:Nat} {TP:Int→Sh} (hT:Tape L tm TP) (hL:Sm L) {ds:List Dt} {dep:Nat} (hdep:dep<1000) (hg:qp L tm TP ds dep) {d:Dt} (hD:D8 d) {a:Ex}:∀(n k:Nat),d.cons.length-k=n→k≤d.cons.length→∀(as:List Ar) (i:Nat),as.length=k→BH ds dep d as→i≤L.length →
   ∃(r:List Ar) (j:Nat),cl AP g247L0 ⟨[(0,.bu tm 0),(1,.pv (.aJ (ds.map Dt.pv))),(2,.pv (vI (dep+1))),(6,.aG 6 0),(13,.aG 13 0),(14,.aG 14 0),(15,.pv (vI k))],
     [(6,m6),(13,qj d),(14,J4 a as)],TP i,[0,0,0,1,as.length,0]⟩ =
     some (.exit 1,⟨[(0,.bu tm 0),(1,.pv (.aJ (ds.map Dt.pv))),(2,.pv (vI (dep+1))),(6,.aG 6 0),(13,.aG 13 0),(14,.aG 14 0),(15,.pv (vI d.cons.length)),(161,.pv (.bool false))],
     [(6,m6),(13,qj d),(14,J4 a r)],TP j,[0,0,0,1,r.length,0]⟩) ∧
     r.length=d.cons.length∧BH ds dep d r∧j≤L.length
 | 0,k,hn,hk,as,i,ha,hm,hi=>by
   have tn:=hT.norm
   have tsh:=hT.shift
   have tl:=hT.take
   have:k=d.cons.length:=by omega
   subst this
   refine ⟨as,i,?_,ha,hm,hi⟩
   rw [g247L0e]
   simp [tn,tsh,tl,g247B0,m6,qj,J4]
 | n+1,k,hn,hk,as,i,ha,hm,hi=>by
   have tn:=hT.norm
   have tsh:=hT.shift
   have tl:=hT.take
   have hk:k<d.cons.length:=by omega
   obtain ⟨c,hc⟩:=bO hk
   obtain ⟨_,_,h8,hf⟩:=hD
   obtain ⟨vs,j,e,hv,hvm,hj⟩:=Iv hT hL (ds:=ds) (dep:=dep) (a:=a) (as:=as) hc (hf c (bz hc)) _ 0 rfl (by omega) [] i rfl (by simp) hi
   obtain ⟨b,f1,f2,f3,j2,e2,hb,hj2⟩:=hg j hj
   have hB:=eh f1 f2 f3 b
   generalize ej f1 f2 f3 b=B at e2 hB
   have bc:=Ex.bS b
   have tB:B.take 11=B:=List.take_of_length_le (by rw [hB.len];omega)
   have hbb:(as.length+1)*200≤140737488355328:=by omega
   have hm2:BH ds dep d (as++[⟨0,c.name,vs,b⟩]):=by
     refine ⟨?_,?_,?_⟩
     · intro x hx
       try simp [tn,tsh,tl] at hx
       rcases hx with hx | rfl
       · exact hm.1 x hx
       · exact hb
     · intro x hx
       try simp [tn,tsh,tl] at hx
       rcases hx with hx | rfl
       · exact hm.2.1 x hx
       · exact ⟨rfl,hvm⟩
     · intro i c' x h1 h2
       by_cases hlt:i<as.length
       · rw [List.getElem?_append_left hlt] at h2
         exact hm.2.2 i c' x h1 h2
       · rw [List.getElem?_append_right (by omega)] at h2
         have:i-as.length=0:=by
           have:=(List.getElem?_eq_some_iff.1 h2).1
           simpa using this
         have hik:i=k:=by omega
         subst hik
         rw [hc] at h1
         cases h1
         rw [this] at h2
         try simp [tn,tsh,tl] at h2
         subst h2
         exact ⟨rfl,hv⟩
   obtain ⟨r,j',e',hr,hm',hj'⟩:=Iw hT hL hdep hg ⟨by assumption,by assumption,h8,hf⟩ (a:=a) n (k+1) (by omega) (by omega) (as++[⟨0,c.name,vs,b⟩]) j2 (by simp;omega) hm2 hj2
   refine ⟨r,j',?_,hr,hm',hj'⟩
   have hd1:(dep:Int)+1-1=dep:=by omega
   rw [g247L1e] at e
   rw [g247L0e] at e'
   simp [tn,tsh,tl,m6,qj,J4,Og] at e e' e2 ⊢
   rw [g247L0e]
   simp (disch:=omega) [tn,tsh,tl,-getElem?_pos,g247B0,hc,hk,aA,hd1,g247L1e,e,e2,hbb,aK,hB.dO,hB.flat,hB.iy,hB.len,hB.leaf,tB,bc]
   rw [g247L0e]
   simp [tn,tsh,tl,e']
theorem FD {L:List Int} {tm:Nat} {TP:Int→Sh} (hT:Tape L tm TP) (hL:Sm L) {ds:List Dt} (hds:ds.length≤8) (hD:∀d∈ds,D8 d) {dep:Nat} (hdep:dep<1000) (hg:qp L tm TP ds dep) {i j1:Nat} {k:Int} (hj1:j1≤L.length)
   (e1:(aQ AP).i 68 [.bu tm 0,.pv (vI 14)] (TP i) []=some ([.pv (vI k)],TP j1,[])) (k13:k=13) :
   ∃(e:Ex) (fk fa fg:Bool) (j:Nat),(aQ AP).i 247 [.bu tm 0,.pv (.aJ (ds.map Dt.pv)),.pv (vI (dep+1:Nat))] (TP i) []=some ([.agg (ej fk fa fg e)],TP j,[])∧gg ds (dep+1) e∧j≤L.length:=by
 have tn:=hT.norm
 have tsh:=hT.shift
 have tl:=hT.take
 subst k13
 try simp [tn,tsh,tl] at e1
 have h1:¬((dep:Int)+1<1):=by omega
 have h2:(dep:Int)+1-1=dep:=by omega
 by_cases h0:ds=[]
 · subst h0
   obtain ⟨a,f1,f2,f3,j2,e2,ha,hj2⟩:=hg j1 hj1
   refine ⟨a,f1,f2,f3,j2,?_,.up ha,hj2⟩
   rw [aT (af:=g247) rfl (by simp [tn,tsh,tl,g247])]
   cases f1<;>cases f2<;>cases f3<;>simp [tn,tsh,tl,ej,gE] at e2<;>simp (disch:=omega) [tn,tsh,tl,g247,e1,h1,h2,aA,e2,ej,gE,aK]
 · have hp:0<ds.length:=List.length_pos_iff.2 h0
   obtain ⟨r,j2,e2,r0,r1,hj2⟩:=mY hT hL hj1 (n:=ds.length) (by omega) (by omega)
   obtain ⟨m,rfl,hm⟩:=mT r0 r1
   obtain ⟨d,hx⟩:=bO hm
   have hDd:=hD d (bz hx)
   obtain ⟨a,f1,f2,f3,j3,e3,ha,hj3⟩:=hg j2 hj2
   have hA:=eh f1 f2 f3 a
   generalize ej f1 f2 f3 a=A at e3 hA
   have ac:=Ex.bS a
   obtain ⟨as,j4,e4,JX,hao,hj4⟩:=Iw hT hL hdep hg hDd (a:=a) _ 0 rfl (by omega) [] j3 rfl ⟨by simp,by simp,by simp⟩ hj3
   try simp [tn,tsh,tl] at e2 e3
   refine ⟨⟨8,0,[],0,[a],as,bW⟩,false,false,false,j4,?_,.se (bz hx) ha JX hao.1 hao.2.1 hao.2.2,hj4⟩
   rw [aT (af:=g247) rfl (by simp [tn,tsh,tl,g247])]
   rw [g247L0e] at e4
   simp [tn,tsh,tl,m6,qj,J4] at e4
   simp (disch:=omega) [tn,tsh,tl,-getElem?_pos,g247,e1,h1,h2,h0,aA,e2,e3,hp,hx,hA.dO,hA.flat,hA.iy,hA.len,hA.leaf,ac,g247L0e,e4,aK,ej,gE,bW]
theorem OT {L:List Int} {tm:Nat} {TP:Int→Sh} (hT:Tape L tm TP) (hL:Sm L) {ds:List Dt} (hds:ds.length≤8) (hD:∀d∈ds,D8 d):∀dep:Nat,dep<1000→qp L tm TP ds dep
 | 0,_=>fun i hi=>by
   have tn:=hT.norm
   have tsh:=hT.shift
   have tl:=hT.take
   obtain ⟨k,j1,e1,k0,k14,hj1⟩:=mY hT hL hi (n:=14) (by omega) (by omega)
   exact um hT hL hds hD hj1 e1 k0 (by simp)
 | dep+1,h=>fun i hi=>by
   have tn:=hT.norm
   have tsh:=hT.shift
   have tl:=hT.take
   obtain ⟨k,j1,e1,k0,k14,hj1⟩:=mY hT hL hi (n:=14) (by omega) (by omega)
   have hg:=OT hT hL hds hD dep (by omega)
   by_cases h5:k<5
   · exact um hT hL hds hD hj1 e1 k0 (by simpa using h5)
   · by_cases h12:k≤12
     · exact FC hT hL hds hD (by omega) hg hj1 e1 (by omega) h12
     · exact FD hT hL hds hD (by omega) hg hj1 e1 (by omega)
end Go.Ab.Lw
namespace Go.Ab.Lw
open Ev
theorem iF:bW.Ok:=cZ rfl
end Go.Ab.Lw
namespace Go.Ab.Lw
open Ev
structure uo (n:Nat) (e:Ex):Prop where
 sc:yH e
 h:e.yG n
 w:e.sz≤wN n
 tx:l7 e
theorem jF {n m:Nat} {e:Ex} (h:e.yG n):n≤m→e.yG m:=by
 induction h generalizing m with
 | mk _ ih=>
   intro hm
   obtain ⟨k,rfl⟩:∃k,m=k+1:=⟨m-1,by omega⟩
   exact .mk fun x hx=>ih x hx (by omega)
theorem uo.up {n m:Nat} {e:Ex} (h:uo n e) (hm:n≤m):uo m e:=⟨h.sc,jF h.h hm,Nat.le_trans h.w (Od hm),h.tx⟩
theorem iG:bW.Cw:=⟨fun _=>rfl,by simp [bW]⟩
theorem yX {m:Nat} {l:List Ex} (hl:l.length≤10) (h:∀x∈l,x.sz≤50 ^ m):1+(l.map Ex.sz).sum≤50 ^ (m+1):=by
 have h1:=sb h
 have h2:l.length*50 ^ m≤10*50 ^ m:=Nat.mul_le_mul_right _ hl
 have h3:1≤50 ^ m:=Nat.one_le_pow m 50 (by decide)
 rw [Nat.pow_succ]
 generalize 50 ^ m=P at *
 omega
theorem fm {n:Nat} {k:Int} {s:d4} {m:Int} {l:List Ex} {t:Ty} (hk:k≠8) (hl:l.length≤10) (ht:t.Ok) (hc:t.Cw) (hx:∀x∈l,uo (12*n) x) (tx:l7 ⟨k,0,s,m,l,[],t⟩):uo (12*(n+1)) ⟨k,0,s,m,l,[],t⟩ where
 sc:=⟨.mk (by simp only;omega) (by simp) (by simp) ht (by simpa [Ex.ch] using fun x h=>(hx x h).sc.ok),.mk (fun h=>absurd h hk) (by simpa [Ex.ch] using fun x h=>(hx x h).sc.one),.mk hc (by simpa [Ex.ch] using fun x h=>(hx x h).sc.cw)⟩
 h:=jF (n:=12*n+1) (.mk (by simpa [Ex.ch] using fun x h=>(hx x h).h)) (by omega)
 w:=by
   rw [sf,Ex.pI]
   have e:(⟨k,0,s,m,l,[],t⟩:Ex).ch=l:=by simp [Ex.ch]
   rw [e]
   exact yX hl fun x h=>by have:=(hx x h).w;rwa [sf] at this
 tx:=tx
theorem ez {k:Int} {s:d4} {m:Int} (hk:(k=1∨k=2)∧s.length≤100∨k=3∧0≤m∧m<4∨k=10):uo 12 ⟨k,0,s,m,[],[],bW⟩:=fm (n:=0) (by omega) (by simp) iF iG (by simp) (.leaf hk rfl rfl)
theorem Kk {n r:Nat} (hr:r<11) {k:Int} {s:d4} {m:Int} {ks:List Ex} {y:Ex} (hf:uo (12*n+r) ⟨k,0,s,m,ks,[],bW⟩) (hy:uo (12*n) y):uo (12*n+r+1) ⟨5,0,[],0,[⟨k,0,s,m,ks,[],bW⟩,y],[],bW⟩ where
 sc:=⟨.mk (by simp) (by simp) (by simp) iF (by simpa [Ex.ch] using ⟨hf.sc.ok,hy.sc.ok⟩),.mk (fun h=>absurd (show (5:Int)=8 from h) (by decide)) (by simpa [Ex.ch] using ⟨hf.sc.one,hy.sc.one⟩),.mk iG (by simpa [Ex.ch] using ⟨hf.sc.cw,hy.sc.cw⟩)⟩
 h:=.mk (by simpa [Ex.ch] using ⟨hf.h,jF hy.h (by omega)⟩)
 w:=by
   have h1:=hf.w
   have h2:=hy.w
   rw [sf] at h2
   have h3:1≤50 ^ n:=Nat.one_le_pow n 50 (by decide)
   rw [Ex.pI]
   have e:(⟨5,0,[],0,[⟨k,0,s,m,ks,[],bW⟩,y],[],bW⟩:Ex).ch=[⟨k,0,s,m,ks,[],bW⟩,y]:=by simp [Ex.ch]
   rw [e]
   simp only [List.map_cons,List.map_nil,List.sum_cons,List.sum_nil]
   unfold wN at h1 ⊢
   have e1:(12*n+r) / 12=n:=by omega
   have e2:(12*n+r) % 12=r:=by omega
   have e3:(12*n+r+1) / 12=n:=by omega
   have e4:(12*n+r+1) % 12=r+1:=by omega
   rw [e1,e2] at h1
   rw [e3,e4]
   have e5:50 ^ n*(2*(r+1)+1)=50 ^ n*(2*r+1)+2*50 ^ n:=by rw [show 2*(r+1)+1=(2*r+1)+2 from by omega,Nat.mul_add];omega
   rw [e5]
   omega
 tx:=.app rfl rfl rfl hf.tx hy.tx
theorem MC {L:List Int} {tm:Nat} {TP:Int→Sh} (hT:Tape L tm TP) {I:Nat} {g:Ty} (hg:cv g) {E:List En} (hE:E.length≤10000) (hc:∀x∈E,kP x.sc) (hnm:∀x∈E,x.name.length≤100):∀(n i:Nat),E.length-i=n→i≤E.length→∀acc:List d4,acc.length≤i→(∀s∈acc,s.length≤100) →
   ∃fs:List d4,fs.length≤E.length∧(∀s∈fs,s.length≤100)∧cl AP g348L0 ⟨[(0,.bu tm 0),(7,.aG 7 0),(8,.aG 8 0),(9,.own (acc.map .str) 0),(10,.pv (.aJ (E.map En.pv))),(11,.pv (vI i))],[(7,tC g),(8,nO 1)],TP I,[acc.length,0,0,0]⟩ =
     some (.exit 0,⟨[(0,.bu tm 0),(7,.aG 7 0),(8,.aG 8 0),(9,.own (fs.map .str) 0),(10,.pv (.aJ (E.map En.pv))),(11,.pv (vI E.length)),(19,.pv (.bool false))],[(7,tC g),(8,nO 1)],TP I,[fs.length,0,0,0]⟩)
 | 0,i,hn,hi,acc,ha,hsn=>by
   have tn:=hT.norm
   have tsh:=hT.shift
   have tl:=hT.take
   have:i=E.length:=by omega
   subst this
   refine ⟨acc,ha,hsn,?_⟩
   rw [g348L0e]
   simp [tn,tsh,tl,g348B0,tC,nO]
 | n+1,i,hn,hi,acc,ha,hsn=>by
   have tn:=hT.norm
   have tsh:=hT.shift
   have tl:=hT.take
   have hi:i<E.length:=by omega
   obtain ⟨x,hx⟩:=bO hi
   obtain ⟨K,q1,q2,q3⟩:=(hc x (bz hx)).OP
   have k:=c238 (N:=K) (by omega) (p:=x.sc.ty) hg.ok q3
   have hb:(acc.length+1)*16≤140737488355328:=by omega
   cases hI:Ip K x.sc.ty g with
   | none=>
     obtain ⟨fs,h1,h1n,e'⟩:=MC hT (L:=L) (I:=I) hg hE hc hnm n (i+1) (by omega) (by omega) acc (by omega) hsn
     refine ⟨fs,h1,h1n,?_⟩
     rw [hI] at k
     rw [g348L0e] at e' ⊢
     simp [tn,tsh,tl,tC,nO] at e'
     simp [tn,tsh,tl,rI] at k
     simp (disch:=omega) [tn,tsh,tl,-getElem?_pos,g348B0,tC,nO,hx,hi,q1,k,aA]
     rw [g348L0e]
     simp [tn,tsh,tl,e']
   | some l=>
     obtain ⟨fs,h1,h1n,e'⟩:=MC hT (L:=L) (I:=I) hg hE hc hnm n (i+1) (by omega) (by omega) (acc++[x.name]) (by simp;omega) (by
       intro s hs;simp only [List.mem_append,List.mem_singleton] at hs;rcases hs with hs | rfl
       · exact hsn s hs
       · exact hnm x (bz hx))
     refine ⟨fs,h1,h1n,?_⟩
     rw [hI] at k
     rw [g348L0e] at e' ⊢
     simp [tn,tsh,tl,tC,nO] at e'
     simp [tn,tsh,tl,rI] at k
     simp (disch:=omega) [tn,tsh,tl,-getElem?_pos,g348B0,tC,nO,hx,hi,q1,k,hb,aA]
     rw [g348L0e]
     simp [tn,tsh,tl,e']
def mc (L:List Int) (tm:Nat) (TP:Int→Sh) (n:Nat) (r:Option (List AV×Sh×aN)):Prop:=∃(e:Ex) (fk fa fg:Bool) (j:Nat),r=some ([.agg (ej fk fa fg e)],TP j,[])∧uo n e∧j≤L.length
structure Ctx (n:Nat) (l:List En):Prop where
 len:l.length≤n
 OU:∀x∈l,kP x.sc
 nm:∀x∈l,x.name.length≤100
theorem c348 {L:List Int} {tm:Nat} {TP:Int→Sh} (hT:Tape L tm TP) (hL:Sm L) {ds:List Dt} {l:List En} (hl:Ctx 10000 l) {g:Ty} (hg:cv g) {i:Nat} (hi:i≤L.length) :
   mc L tm TP 12 ((aQ AP).i 348 [.bu tm 0,.pv (.aJ (ds.map Dt.pv)),.pv (.aJ (l.map En.pv)),.pv g.pv] (TP i) []):=by
 have tn:=hT.norm
 have tsh:=hT.shift
 have tl:=hT.take
 have hsl:=rY l
 have hll:=hl.len
 have k1:=c201 (l:=l) (by unfold Sm;omega)
 obtain ⟨fs,hf,hfn,e⟩:=MC hT (L:=L) (I:=i) hg (E:=dJ l) (by omega) (fun x hx=>hl.OU x (lD l x hx)) (fun x hx=>hl.nm x (lD l x hx)) _ 0 rfl (by omega) [] (by simp) (by simp)
 generalize dJ l=E at *
 have k2:=c20 (a:=g) (b:=bA) hg.ok
 have k3:=c34
 rw [g348L0e] at e
 simp [tn,tsh,tl,tC,nO] at e k1 k3
 have tail:∀j,j≤L.length→(g=bA∧∃r j1,0≤r∧j1≤L.length∧(aQ AP).i 68 [.bu tm 0,.pv (vI 4)] (TP j) []=some ([.pv (vI r)],TP j1,[]))∨¬g=bA:=by
   intro j hj
   by_cases q:g=bA
   · obtain ⟨r,j1,e1,r0,_,hj1⟩:=mY hT hL hj (n:=4) (by omega) (by omega)
     exact .inl ⟨q,r,j1,r0,hj1,e1⟩
   · exact .inr q
 by_cases NQ:fs=[]
 · subst NQ
   try simp [tn,tsh,tl] at e
   rcases tail i hi with ⟨q,r,j1,r0,hj1,e1⟩ | q
   · rw [decide_eq_true q] at k2
     subst q
     try simp [tn,tsh,tl] at k2 e1
     by_cases hr:0<r
     · obtain ⟨m,j2,e2,m0,m1,hj2⟩:=mY hT hL hj1 (n:=3) (by omega) (by omega)
       refine ⟨⟨3,0,[],m,[],[],bW⟩,true,true,true,j2,?_,ez (.inr (.inl ⟨rfl,m0,by omega⟩)),hj2⟩
       try simp [tn,tsh,tl] at e2
       simp [tn,tsh,tl,bA] at k2 k3 e
       rw [aT (af:=g348) rfl (by simp [tn,tsh,tl,g348])]
       simp [tn,tsh,tl,g348,k1,g348L0e,e,k3,k2,e1,hr,e2,ej,gE,bW,bA]
     · refine ⟨⟨10,0,[],0,[],[],bW⟩,true,true,true,j1,?_,ez (.inr (.inr rfl)),hj1⟩
       simp [tn,tsh,tl,bA] at k2 k3 e
       rw [aT (af:=g348) rfl (by simp [tn,tsh,tl,g348])]
       simp [tn,tsh,tl,g348,k1,g348L0e,e,k3,k2,e1,hr,ej,gE,bW,bA]
   · rw [decide_eq_false q] at k2
     refine ⟨⟨10,0,[],0,[],[],bW⟩,true,true,true,i,?_,ez (.inr (.inr rfl)),hi⟩
     simp [tn,tsh,tl,bA] at k2 k3
     rw [aT (af:=g348) rfl (by simp [tn,tsh,tl,g348])]
     simp [tn,tsh,tl,g348,k1,g348L0e,e,k3,k2,ej,gE,bW,bA]
 · have hp:0<fs.length:=List.length_pos_iff.2 NQ
   obtain ⟨r6,j6,e6,r60,_,hj6⟩:=mY hT hL hi (n:=6) (by omega) (by omega)
   try simp [tn,tsh,tl] at e6
   by_cases h6:0<r6
   · obtain ⟨m,j7,e7,m0,m1,hj7⟩:=mY hT hL hj6 (n:=fs.length) (by omega) (by omega)
     obtain ⟨m,rfl,hm⟩:=mT m0 m1
     obtain ⟨s,hs⟩:=bO hm
     refine ⟨⟨1,0,s,0,[],[],bW⟩,true,true,true,j7,?_,ez (.inl ⟨.inl rfl,hfn s (bz hs)⟩),hj7⟩
     try simp [tn,tsh,tl] at e7
     rw [aT (af:=g348) rfl (by simp [tn,tsh,tl,g348])]
     simp [tn,tsh,tl,-getElem?_pos,g348,k1,g348L0e,e,hp,e6,h6,e7,hs,ej,gE,bW]
   · rcases tail j6 hj6 with ⟨q,r,j1,r0,hj1,e1⟩ | q
     · rw [decide_eq_true q] at k2
       subst q
       try simp [tn,tsh,tl] at k2 e1
       by_cases hr:0<r
       · obtain ⟨m,j2,e2,m0,m1,hj2⟩:=mY hT hL hj1 (n:=3) (by omega) (by omega)
         refine ⟨⟨3,0,[],m,[],[],bW⟩,true,true,true,j2,?_,ez (.inr (.inl ⟨rfl,m0,by omega⟩)),hj2⟩
         try simp [tn,tsh,tl] at e2
         simp [tn,tsh,tl,bA] at k2 k3 e
         rw [aT (af:=g348) rfl (by simp [tn,tsh,tl,g348])]
         simp [tn,tsh,tl,g348,k1,g348L0e,e,hp,e6,h6,k3,k2,e1,hr,e2,ej,gE,bW,bA]
       · refine ⟨⟨10,0,[],0,[],[],bW⟩,true,true,true,j1,?_,ez (.inr (.inr rfl)),hj1⟩
         simp [tn,tsh,tl,bA] at k2 k3 e
         rw [aT (af:=g348) rfl (by simp [tn,tsh,tl,g348])]
         simp [tn,tsh,tl,g348,k1,g348L0e,e,hp,e6,h6,k3,k2,e1,hr,ej,gE,bW,bA]
     · rw [decide_eq_false q] at k2
       refine ⟨⟨10,0,[],0,[],[],bW⟩,true,true,true,j6,?_,ez (.inr (.inr rfl)),hj6⟩
       simp [tn,tsh,tl,bA] at k2 k3
       rw [aT (af:=g348) rfl (by simp [tn,tsh,tl,g348])]
       simp [tn,tsh,tl,g348,k1,g348L0e,e,hp,e6,h6,k3,k2,ej,gE,bW,bA]
end Go.Ab.Lw
namespace Go.Ab.Lw
open Ev
def jG (L:List Int) (tm:Nat) (TP:Int→Sh) (ds:List Dt) (dep:Nat):Prop:=∀(i:Nat) (l:List En) (g:Ty),i≤L.length→Ctx (1000-20*dep) l→cv g→g.nodes.length≤6000-20*dep →
 mc L tm TP (12*(dep+1)) ((aQ AP).i 326 [.bu tm 0,.pv (.aJ (ds.map Dt.pv)),.pv (.aJ (l.map En.pv)),.pv g.pv,.pv (vI dep)] (TP i) [])
theorem Ctx.push {n m:Nat} {l:List En} (h:Ctx n l) {s:d4} {c:Sc} (hc:kP c) (hs:s.length≤100) (hm:n+1≤m):Ctx m (l++[⟨s,c⟩]):=⟨by have:=h.len;simp;omega,by
 intro x hx;simp at hx;rcases hx with hx | rfl
 · exact h.OU x hx
 · exact hc,by
 intro x hx;simp at hx;rcases hx with hx | rfl
 · exact h.nm x hx
 · exact hs⟩
theorem Ctx.gR {n m:Nat} {l:List En} (h:Ctx n l) (hm:n≤m):Ctx m l:=⟨by have:=h.len;omega,h.OU,h.nm⟩
theorem kB {D:Dt→Prop} (hD:∀d,D d→d.params.length≤8) (hN:∀d,D d→d.name.length≤100) {lv:List Ty} (h:∀t∈lv,t.args=[]∧t.kind=3∧t.name=[]) {n:Nat} {t:Ty} (m:gM D lv n t):cv t:=by
 refine ⟨m.ok hD (fun t ht=>(h t ht).1),?_⟩
 induction m with
 | leaf hl=>exact .bare (h _ hl).1 (fun _=>by rw [(h _ hl).2.1];simp) (by rw [(h _ hl).2.2];simp)
 | int=>exact .bare rfl (by simp [bA]) (by simp [bA])
 | iR hd _ _ ih=>exact .mk (by simp) (hN _ hd) ih
 | arrow _ _ iha ihb=>exact .mk (by simp) (by simp) (by intro x hx;simp at hx;rcases hx with rfl | rfl<;>assumption)
theorem cv.arrow {a b:Ty} (ha:cv a) (hb:cv b):cv ⟨4,[45,62],0,0,[a,b]⟩:=⟨⟨by simp [Sm],by intro x hx;simp at hx;rcases hx with rfl | rfl;exact ha.ok;exact hb.ok⟩,.mk (by simp) (by simp) (by intro x hx;simp at hx;rcases hx with rfl | rfl;exact ha.kn;exact hb.kn)⟩
theorem fy:∀s∈varNames,s.length≤100:=by
 intro s hs
 simp only [varNames,List.mem_cons,List.not_mem_nil,or_false] at hs
 rcases hs with rfl | rfl | rfl | rfl | rfl | rfl | rfl | rfl<;>simp
theorem OV {g:Ty} (hg:cv g) (h:g.jE 3=false):g.Kn KT:=by
 have hk:=hg.kn
 clear hg
 induction hk with
 | @mk t hh hn _ ih=>
   rw [Ty.CC,Bool.or_eq_false_iff,List.any_eq_false] at h
   refine .mk (fun q=>?_) hn fun x hx=>ih x hx (by simpa using h.2 x hx)
   obtain ⟨a,b⟩:=hh q
   refine ⟨?_,b⟩
   have:=h.1
   simp at a this ⊢
   omega
variable {L: List Int}  {tm:Nat} {TP:Int→Sh} {ds:List Dt} {dep:Nat} {l:List En} {g:Ty} {i:Nat}
def sA (L:List Int) (tm:Nat) (TP:Int→Sh) (ds:List Dt) (dep:Nat) (l:List En) (g:Ty) (i:Nat):Prop:=
 mc L tm TP (12*(dep+1)) ((aQ AP).i 326 [.bu tm 0,.pv (.aJ (ds.map Dt.pv)),.pv (.aJ (l.map En.pv)),.pv g.pv,.pv (vI dep)] (TP i) [])
theorem Ix (hT:Tape L tm TP) (hL:Sm L) (hl:Ctx 10000 l) (hg:cv g) (hi:i≤L.length):sA L tm TP ds 0 l g i:=by
 have tn:=hT.norm
 have tsh:=hT.shift
 have tl:=hT.take
 obtain ⟨e,f1,f2,f3,j,k,ht,hj⟩:=c348 hT hL (ds:=ds) hl hg hi
 refine ⟨e,f1,f2,f3,j,?_,ht.up (by omega),hj⟩
 rw [aT (af:=g326) rfl (by simp [tn,tsh,tl,g326])]
 cases f1<;>cases f2<;>cases f3<;>simp [tn,tsh,tl,ej,gE] at k<;>simp [tn,tsh,tl,g326,k,ej,gE,aK]
theorem Kl (hT:Tape L tm TP) (hL:Sm L) (hdep:dep<100) (hl:Ctx 10000 l) (hg:cv g) {j9:Nat} (hj9:j9≤L.length) (e9:(aQ AP).i 68 [.bu tm 0,.pv (vI 9)] (TP i) []=some ([.pv (vI 0)],TP j9,[])):sA L tm TP ds (dep+1) l g i:=by
 have tn:=hT.norm
 have tsh:=hT.shift
 have tl:=hT.take
 obtain ⟨e,f1,f2,f3,j,k,ht,hj⟩:=c348 hT hL (ds:=ds) hl hg hj9
 refine ⟨e,f1,f2,f3,j,?_,ht.up (by omega),hj⟩
 have h1:¬((dep:Int)+1<1):=by omega
 try simp [tn,tsh,tl] at e9
 rw [aT (af:=g326) rfl (by simp [tn,tsh,tl,g326])]
 cases f1<;>cases f2<;>cases f3<;>simp [tn,tsh,tl,ej,gE] at k<;>simp [tn,tsh,tl,g326,h1,e9,k,ej,gE,aK]
structure Iy (L:List Int) (tm:Nat) (TP:Int→Sh) (g:Ty) (i:Nat) (a b:Ty) (ar:Bool) (k r9:Int) (j9 j:Nat):Prop where
 nz:¬r9=0
 e9:(aQ AP).i 68 [.bu tm 0,.pv (vI 9)] (TP i) []=some ([.pv (vI r9)],TP j9,[])
 arr:(aQ AP).p 194 [g.pv]=some [a.pv,b.pv,.bool ar]
 sB:(aQ AP).i 68 [.bu tm 0,.pv (vI 10)] (TP j9) []=some ([.pv (vI k)],TP j,[])
 hj:j≤L.length
theorem MD (hT:Tape L tm TP) (hL:Sm L) (hdep:dep<10) (hG:jG L tm TP ds dep) (hl:Ctx (1000-20*(dep+1)) l) {a b:Ty} {k r9:Int} {j9 j:Nat} (P:Iy L tm TP g i a b true k r9 j9 j) (hk:k<7) (ha:cv a) (hb:cv b) (hbn:b.nodes.length≤6000-20*dep):sA L tm TP ds (dep+1) l g i:=by
 have tn:=hT.norm
 have tsh:=hT.shift
 have tl:=hT.take
 obtain ⟨nz,e9,arr,sB,hj⟩:=P
 obtain ⟨s,j1,e1,hs,hj1⟩:=FB hT hL hj
 have hll:=hl.len
 have k1:=c176 (t:=a)
 have k2:=c179 (l:=l) (by unfold Sm;omega) (n:=s) (c:=⟨0,a⟩)
 obtain ⟨e,f1,f2,f3,j2,e2,he,hj2⟩:=hG j1 (l++[⟨s,⟨0,a⟩⟩]) b hj1 (hl.push ha.mono (fy _ hs) (by omega)) hb hbn
 have hA:=eh f1 f2 f3 e
 generalize ej f1 f2 f3 e=A at e2 hA
 have ac:=Ex.bS e
 refine ⟨⟨4,0,s,0,[e],[],bW⟩,true,true,true,j2,?_,(fm (by decide) (by simp) iF iG (by simpa using he) (.lam rfl (fy _ hs) rfl rfl he.tx)).up (by omega),hj2⟩
 have h1:¬((dep:Int)+1<1):=by omega
 have h2:(dep:Int)+1-1=dep:=by omega
 try simp [tn,tsh,tl] at e9 arr sB e1 k1 k2 e2
 rw [aT (af:=g326) rfl (by simp [tn,tsh,tl,g326])]
 simp (disch:=omega) [tn,tsh,tl,g326,h1,h2,nz,e9,arr,sB,hk,e1,k1,k2,e2,aA,hA.dO,hA.flat,hA.iy,hA.len,hA.leaf,ac,ej,gE,bW]
theorem ME (hT:Tape L tm TP) (hL:Sm L) (hdep:dep<10) (hds:ds.length≤20) (hda:∀d∈ds,d.params.length≤8) (hdn:∀d∈ds,d.name.length≤100) (hG:jG L tm TP ds dep) (hl:Ctx (1000-20*(dep+1)) l) (hg:cv g) (hgn:g.nodes.length≤6000-20*(dep+1)) {a b:Ty} {k r9:Int} {j9 j:Nat} (P:Iy L tm TP g i a b false k r9 j9 j) (hk:k<2):sA L tm TP ds (dep+1) l g i:=by
 have tn:=hT.norm
 have tsh:=hT.shift
 have tl:=hT.take
 obtain ⟨nz,e9,arr,sB,hj⟩:=P
 obtain ⟨t,j1,e1,mt,hj1⟩:=MB hT hL hds hda (lv:=[]) (by simp [tn,tsh,tl,Sm]) 1 (by omega) j hj
 have gt:cv t:=kB hda hdn (by simp) mt
 have tn9:=mt.small hda (by simp)
 have k1:=c69 (a:=t) (b:=g)
 have hl':Ctx (1000-20*dep) l:=hl.gR (by omega)
 obtain ⟨x,f1,f2,f3,j2,e2,hx,hj2⟩:=hG j1 l _ hj1 hl' (gt.arrow hg) (by rw [Ty.bg];simp;omega)
 obtain ⟨y,f4,f5,f6,j3,e3,hy,hj3⟩:=hG j2 l _ hj2 hl' gt (by omega)
 have hA:=eh f1 f2 f3 x
 generalize ej f1 f2 f3 x=A at e2 hA
 have hB:=eh f4 f5 f6 y
 generalize ej f4 f5 f6 y=B at e3 hB
 have ac:=Ex.bS x
 have bc:=Ex.bS y
 have tA:A.take 11=A:=List.take_of_length_le (by rw [hA.len];omega)
 refine ⟨⟨5,0,[],0,[x,y],[],bW⟩,true,true,true,j3,?_,(fm (by decide) (by simp) iF iG (by simpa using ⟨hx,hy⟩) (.app rfl rfl rfl hx.tx hy.tx)).up (by omega),hj3⟩
 have h1:¬((dep:Int)+1<1):=by omega
 have h2:(dep:Int)+1-1=dep:=by omega
 simp [tn,tsh,tl,Ty.av] at e9 arr sB e1 k1 e2 e3
 rw [aT (af:=g326) rfl (by simp [tn,tsh,tl,g326])]
 simp (disch:=omega) [tn,tsh,tl,g326,h1,h2,nz,e9,arr,sB,hk,e1,k1,e2,e3,aA,hA.dO,hA.flat,hA.iy,hA.len,hA.leaf,hB.dO,hB.flat,hB.iy,hB.len,hB.leaf,tA,ac,bc,aK,ej,gE,bW]
theorem MF (hT:Tape L tm TP) (hL:Sm L) (hdep:dep<10) (hG:jG L tm TP ds dep) (hl:Ctx (1000-20*(dep+1)) l) (hg:cv g) (hgn:g.nodes.length≤6000-20*(dep+1)) {a b:Ty} {r9:Int} {j9 j:Nat} (P:Iy L tm TP g i a b false 4 r9 j9 j) (h3:g.jE 3=false) (h4:g.jE 1=false):sA L tm TP ds (dep+1) l g i:=by
 have tn:=hT.norm
 have tsh:=hT.shift
 have tl:=hT.take
 obtain ⟨nz,e9,arr,sB,hj⟩:=P
 have k1:=c351 (k:=3) hg.ok
 have k2:=c351 (k:=1) hg.ok
 rw [h3] at k1
 rw [h4] at k2
 have hl':Ctx (1000-20*dep) l:=hl.gR (by omega)
 obtain ⟨x,f1,f2,f3,j2,e2,hx,hj2⟩:=hG j l _ hj hl' hg (by omega)
 have hA:=eh f1 f2 f3 x
 generalize ej f1 f2 f3 x=A at e2 hA
 have ac:=Ex.bS x
 refine ⟨⟨9,0,[],0,[x],[],g⟩,true,true,false,j2,?_,(fm (by decide) (by simp) hg.ok hg.kn.cw (by simpa using hx) (.KR rfl rfl rfl (OV hg h3) (by simp only;omega) hx.tx)).up (by omega),hj2⟩
 have h1:¬((dep:Int)+1<1):=by omega
 have h2:(dep:Int)+1-1=dep:=by omega
 try simp [tn,tsh,tl] at e9 arr sB k1 k2 e2
 rw [aT (af:=g326) rfl (by simp [tn,tsh,tl,g326])]
 simp (disch:=omega) [tn,tsh,tl,g326,h1,h2,nz,e9,arr,sB,k1,k2,e2,aA,hA.dO,hA.flat,hA.iy,hA.len,hA.leaf,ac,ej,gE,bW]
theorem Km (hT:Tape L tm TP) (hL:Sm L) (hdep:dep<10) (hG:jG L tm TP ds dep) (hl:Ctx (1000-20*(dep+1)) l) (hg:cv g) (hgn:g.nodes.length≤6000-20*(dep+1)) {a b:Ty} {r9:Int} {j9 j:Nat} (P:Iy L tm TP g i a b false 5 r9 j9 j):sA L tm TP ds (dep+1) l g i:=by
 have tn:=hT.norm
 have tsh:=hT.shift
 have tl:=hT.take
 obtain ⟨nz,e9,arr,sB,hj⟩:=P
 have hl':Ctx (1000-20*dep) l:=hl.gR (by omega)
 obtain ⟨x,f1,f2,f3,j2,e2,hx,hj2⟩:=hG j l _ hj hl' hg (by omega)
 have hA:=eh f1 f2 f3 x
 generalize ej f1 f2 f3 x=A at e2 hA
 have ac:=Ex.bS x
 refine ⟨⟨11,0,[],0,[x],[],bW⟩,true,true,true,j2,?_,(fm (by decide) (by simp) iF iG (by simpa using hx) (.held rfl rfl rfl hx.tx)).up (by omega),hj2⟩
 have h1:¬((dep:Int)+1<1):=by omega
 have h2:(dep:Int)+1-1=dep:=by omega
 try simp [tn,tsh,tl] at e9 arr sB e2
 rw [aT (af:=g326) rfl (by simp [tn,tsh,tl,g326])]
 simp (disch:=omega) [tn,tsh,tl,g326,h1,h2,nz,e9,arr,sB,e2,aA,hA.dO,hA.flat,hA.iy,hA.len,hA.leaf,ac,ej,gE,bW]
end Go.Ab.Lw
namespace Go.Ab.Lw
open Ev
structure P1 (x u:Ty):Prop where
 ok:u.Ok
 kn:u.Kn KS
 vr:∀y∈u.nodes,y.kind=1→∃z∈x.nodes,z.kind=3∧z.home=99∧y.id=IntKind.i64.wrap (900+z.id)
 n:u.nodes.length≤x.nodes.length
structure OW (x u:Ty):Prop where
 ok:u.Ok
 kn:u.Kn KS
 vr:∀y∈u.nodes,y.kind=1→∃z∈x.nodes,z.kind=3∧z.home=99∧y.id=IntKind.i64.wrap (900+z.id)
theorem Lo {x:Ty} (hx:x.Ok) (IH:∀a∈x.args,∃u:Ty,(aQ AP).p 375 [a.pv]=some [u.pv]∧P1 a u):∀(k i:Nat),x.args.length-i=k→i≤x.args.length→∀acc:List Ty,acc.length=i→(∀u∈acc,OW x u)→(acc.flatMap Ty.nodes).length≤((x.args.take i).flatMap Ty.nodes).length→∃us:List Ty,
   cl AP g375L0 ⟨[(1,.aG 1 0),(2,.aG 2 0),(3,.aG 3 0),(4,.pv (vI i))],[(1,tC x),(2,zC 0),(3,uC x acc 1)],[],[0,acc.length]⟩ =
     some (.exit 0,⟨[(1,.aG 1 0),(2,.aG 2 0),(3,.aG 3 0),(4,.pv (vI x.args.length)),(23,.pv (.bool false))],[(1,tC x),(2,zC 0),(3,uC x us 1)],[],[0,us.length]⟩)∧us.length=x.args.length∧(∀u∈us,OW x u)∧(us.flatMap Ty.nodes).length≤(x.args.flatMap Ty.nodes).length
 | 0,i,hk,hi,acc,ha,hu,hc=>by
   have:i=x.args.length:=by omega
   subst this
   refine ⟨acc,?_,ha,hu,by simpa using hc⟩
   rw [g375L0e]
   simp [g375B0,tC,zC,uC]
 | k+1,i,hk,hi,acc,ha,hu,hc=>by
   have hi:i<x.args.length:=by omega
   obtain ⟨a,hax⟩:=bO hi
   have hsm:=hx.sm
   unfold Sm at hsm
   obtain ⟨u,e,hO⟩:=IH a (bz hax)
   have hnn:=hO.n
   obtain ⟨us,e',h1,h2,h3⟩:=Lo hx IH k (i+1) (by omega) (by omega) (acc++[u]) (by simp;omega) (by
     intro y hy;simp at hy;rcases hy with hy | rfl
     · exact hu y hy
     · exact ⟨hO.ok,hO.kn,fun z hz q=>by obtain ⟨w,hw,hr⟩:=hO.vr z hz q;exact ⟨w,Fz a (bz hax) w hw,hr⟩⟩) (by rw [List.take_add_one,hax,List.flatMap_append,List.length_append,List.flatMap_append,List.length_append];simp only [Option.toList_some,List.flatMap_cons,List.flatMap_nil,List.append_nil];omega)
   refine ⟨us,?_,h1,h2,h3⟩
   have hb:(acc.length+1)*64≤140737488355328:=by omega
   rw [g375L0e] at e' ⊢
   simp at e
   simp [tC,zC,uC] at e'
   simp (disch:=omega) [-getElem?_pos,g375B0,tC,zC,uC,hi,hax,aA,e,hb]
   rw [g375L0e]
   simp [e']
theorem c375x {t:Ty} (hG:cv t):∃u:Ty,(aQ AP).p 375 [t.pv]=some [u.pv]∧P1 t u:=by
 revert hG
 refine Ty.eP (p:=fun t=>cv t→∃u:Ty,(aQ AP).p 375 [t.pv]=some [u.pv]∧P1 t u) ?_ t
 intro t ih hG
 have hself:t∈t.nodes:=by rw [Ty.bg];simp
 have hpos:1≤t.nodes.length:=by rw [Ty.bg];simp
 by_cases q:t.kind=3∧t.home=99
 · have k:=c63 (n:=IntKind.i64.wrap (900+t.id))
   refine ⟨⟨1,[],IntKind.i64.wrap (900+t.id),0,[]⟩,?_,⟨cZ rfl,.bare rfl (by simp) (by simp),?_,by rw [Ty.bg];simpa using hpos⟩⟩
   · simp at k
     rw [aw (af:=g375) rfl rfl (by decide)]
     simp [g375,q.1,q.2,k]
   · intro y hy _
     rw [Ty.bg] at hy
     simp at hy
     subst hy
     exact ⟨t,hself,q.1,q.2,rfl⟩
 · obtain ⟨us,e,h1,h2,h3⟩:=Lo hG.ok (fun a ha=>ih a ha (hG.gV a ha)) _ 0 rfl (by omega) [] rfl (by simp) (by simp)
   refine ⟨⟨t.kind,t.name,t.id,t.home,us⟩,?_,⟨⟨by have:=hG.ok.sm;unfold Sm at *;simp only;omega,fun y hy=>(h2 y hy).ok⟩,.mk (fun r=>?_) hG.kn.nm fun y hy=>(h2 y hy).kn,?_,by rw [Ty.bg,Ty.bg t];simp only [List.length_cons];omega⟩⟩
   · rw [aw (af:=g375) rfl rfl (by decide)]
     rw [g375L0e] at e
     simp [tC,zC,uC] at e
     by_cases q1:t.kind=3
     · have q2:¬t.home=99:=fun h=>q ⟨q1,h⟩
       simp [q1] at e
       simp [g375,q1,q2,g375L0e,e]
     · simp [g375,q1,g375L0e,e]
   · have:=hG.kn.hd r
     refine ⟨KQ _ this.1,?_⟩
     rw [this.2] at h1
     exact List.length_eq_zero_iff.1 h1
   · intro y hy hk
     rw [Ty.bg] at hy
     simp only [List.mem_cons,List.mem_flatMap] at hy
     rcases hy with rfl | ⟨u,hu,hy⟩
     · have:=(hG.kn.hd (by change t.kind=1 at hk;rw [hk];decide)).1
       change t.kind=1 at hk
       rw [hk] at this
       simp at this
     · exact (h2 u hu).vr y hy hk
theorem Iz {l:List Ty}:∀{out:List Ty} {y:Ty},y∈out∨y∈l→y∈l.foldl gP out:=by
 induction l with
 | nil=>intro out y h;simpa using h
 | cons a r ih=>
   intro out y h
   rw [List.foldl_cons]
   refine ih ?_
   rcases h with h | h
   · left;unfold gP;split
     · exact h
     · simp [h]
   · simp only [List.mem_cons] at h
     rcases h with rfl | h
     · left;unfold gP;split
       · assumption
       · simp
     · exact .inr h
theorem c59x {u:Ty} (hu:u.Ok) (hn:u.nodes.length≤4000):∃r:List Ty,(aQ AP).p 59 [.aJ [u.pv]]=some [.aJ (r.map Ty.pv)]∧Sm r∧∀y∈u.eY 3,y∈r:=by
 have hl:=nP (k:=3) (t:=u)
 have c0:gf (u.eY 3) []:=⟨by simp,by simp,by omega,fun x hx=>cZ (lJ x hx)⟩
 have hk:∀x∈[u].flatMap (Ty.eY 3),x∈u.eY 3:=by simp
 have h:=PO (S:=u.eY 3) (l:=[u]) (by simp [Sm]) (by simpa using hu) hk _ 0 rfl (by omega) [] c0
 have hc:=c0.fold hk
 refine ⟨_,?_,hc.len,fun y hy=>Iz (.inr (by simpa using hy))⟩
 rw [aw (af:=g59) rfl rfl (by decide)]
 rw [g59L0e] at h
 simp at h
 simp [g59,g59L0e,h]
theorem IA {k:Int} {t:Ty}:∀y∈t.nodes,y.kind=k→y.args=[]→y∈t.eY k:=by
 refine Ty.eP (p:=fun t=>∀y∈t.nodes,y.kind=k→y.args=[]→y∈t.eY k) ?_ t
 intro t ih y hy hk ha
 rw [Ty.bg] at hy
 rw [Ty.lC]
 simp only [List.mem_cons,List.mem_flatMap] at hy
 rcases hy with rfl | ⟨a,ham,hy⟩
 · rw [if_pos ⟨hk,by rw [ha];rfl⟩];simp
 · have:¬(t.kind=k∧t.args.length=0):=by
     rintro ⟨_,h⟩
     rw [List.length_eq_zero_iff.1 h] at ham
     cases ham
   rw [if_neg this]
   simp only [List.mem_flatMap]
   exact ⟨a,ham,ih a ham y hy hk ha⟩
theorem IB {r:List Ty} (hr:Sm r) {t:Ty}:∀(n i:Nat),r.length-i=n→i≤r.length→∀acc:List Int,acc.length≤i→∃ids:List Int,ids.length≤r.length∧(∀v∈acc,v∈ids)∧(∀z∈r.drop i,z.home=99→IntKind.i64.wrap (900+z.id)∈ids) ∧
   cl AP g361L0 ⟨[(1,.aG 1 0),(2,.aG 2 0),(3,.own (acc.map vI) 0),(4,.pv (.aJ (r.map Ty.pv))),(5,.pv (vI i))],[(1,tC t),(2,gz 1)],[],[acc.length,0]⟩ =
     some (.exit 0,⟨[(1,.aG 1 0),(2,.aG 2 0),(3,.own (ids.map vI) 0),(4,.pv (.aJ (r.map Ty.pv))),(5,.pv (vI r.length)),(12,.pv (.bool false))],[(1,tC t),(2,gz 1)],[],[ids.length,0]⟩)
 | 0,i,hn,hi,acc,ha=>by
   have:i=r.length:=by omega
   subst this
   refine ⟨acc,ha,fun _ h=>h,by simp,?_⟩
   rw [g361L0e]
   simp [g361B0,tC,gz]
 | n+1,i,hn,hi,acc,ha=>by
   have hi:i<r.length:=by omega
   obtain ⟨x,hx⟩:=bO hi
   have hr':=hr
   unfold Sm at hr
   have hb:(acc.length+1)*8≤140737488355328:=by omega
   have hh:bC 1 (acc.map vI)=true:=kt.head acc
   rw [cY hx]
   by_cases q:x.home=99
   · obtain ⟨ids,h1,h2,h3,e⟩:=IB (t:=t) hr' n (i+1) (by omega) (by omega) (acc++[IntKind.i64.wrap (900+x.id)]) (by simp;omega)
     refine ⟨ids,h1,fun v hv=>h2 v (by simp [hv]),?_,?_⟩
     · intro z hz hh
       simp only [List.mem_cons] at hz
       rcases hz with rfl | hz
       · exact h2 _ (by simp)
       · exact h3 z hz hh
     · rw [g361L0e] at e ⊢
       simp [tC,gz] at e
       simp (disch:=omega) [-getElem?_pos,g361B0,tC,gz,hx,hi,q,hb,hh]
       rw [g361L0e]
       have w1:IntKind.i64.wrap ((i:Int)+1)=(i:Int)+1:=aA (by omega) (by omega)
       simp [w1,e]
   · obtain ⟨ids,h1,h2,h3,e⟩:=IB (t:=t) hr' n (i+1) (by omega) (by omega) acc (by omega)
     refine ⟨ids,h1,h2,?_,?_⟩
     · intro z hz hh
       simp only [List.mem_cons] at hz
       rcases hz with rfl | hz
       · exact absurd hh q
       · exact h3 z hz hh
     · rw [g361L0e] at e ⊢
       simp [tC,gz] at e
       simp (disch:=omega) [-getElem?_pos,g361B0,tC,gz,hx,hi,q,aA]
       rw [g361L0e]
       simp [e]
theorem mZ {ids:List Int}:∀(vs:List Int) (acc:List As),(∀a∈acc,∃k:Nat,k<acc.length∧a.ty=cQ k)→(∀a∈da ids vs acc,∃k:Nat,k<(da ids vs acc).length∧a.ty=cQ k)∧(da ids vs acc).length≤acc.length+vs.length∧(∀v,(∃x,kr acc v=some x)→∃x,kr (da ids vs acc) v=some x)∧∀v∈vs,v∈ids→∃x,kr (da ids vs acc) v=some x
 | [],acc,h=>⟨h,by simp [da],fun _ h=>h,by simp⟩
 | v::r,acc,h=>by
   simp only [da]
   by_cases q:v∈ids
   · rw [if_pos q]
     obtain ⟨h1,h2,h3,h4⟩:=mZ (ids:=ids) r (acc++[⟨v,cQ acc.length⟩]) (by
       intro a ha
       simp at ha
       rcases ha with ha | rfl
       · obtain ⟨k,hk,e⟩:=h a ha;exact ⟨k,by simp;omega,e⟩
       · exact ⟨acc.length,by simp,rfl⟩)
     refine ⟨h1,by simp at h2 ⊢;omega,?_,?_⟩
     · rintro w ⟨x,hx⟩
       exact h3 w ⟨x,by rw [vK,hx];rfl⟩
     · intro w hw hi
       simp only [List.mem_cons] at hw
       rcases hw with rfl | hw
       · refine h3 w ?_
         rw [vK]
         cases kr acc w with
         | some x=>exact ⟨x,rfl⟩
         | none=>exact ⟨cQ acc.length,by simp [kr]⟩
       · exact h4 w hw hi
   · rw [if_neg q]
     obtain ⟨h1,h2,h3,h4⟩:=mZ (ids:=ids) r acc h
     refine ⟨h1,by simp;omega,h3,?_⟩
     intro w hw hi
     simp only [List.mem_cons] at hw
     rcases hw with rfl | hw
     · exact absurd hi q
     · exact h4 w hw hi
theorem FE {s:List As} {t:Ty}:∀y∈(t.sub s).nodes,(∃i x,kr s i=some x∧y∈x.nodes)∨∃z∈t.nodes,y.kind=z.kind:=by
 refine Ty.eP (p:=fun t=>∀y∈(t.sub s).nodes,(∃i x,kr s i=some x∧y∈x.nodes)∨∃z∈t.nodes,y.kind=z.kind) ?_ t
 intro t ih y hy
 have gV:∀a∈t.args,y∈(a.sub s).nodes→(∃i x,kr s i=some x∧y∈x.nodes)∨∃z∈t.nodes,y.kind=z.kind:=by
   intro a ha h
   rcases ih a ha y h with h | ⟨z,hz,h⟩
   · exact .inl h
   · exact .inr ⟨z,Fz a ha z hz,h⟩
 have hself:t∈t.nodes:=by rw [Ty.bg];simp
 rw [Ty.sub_eq] at hy
 split at hy
 · cases e:kr s t.id with
   | some x=>rw [e] at hy;exact .inl ⟨_,x,e,hy⟩
   | none=>rw [e] at hy;exact .inr ⟨y,by simpa using hy,rfl⟩
 · rw [Ty.bg] at hy
   simp only [List.mem_cons,List.mem_flatMap,List.mem_map] at hy
   rcases hy with rfl | ⟨b,⟨a,ha,rfl⟩,hy⟩
   · exact .inr ⟨t,hself,rfl⟩
   · exact gV a ha hy
theorem uq:∀{l:List Ty} {out:List Int},(l.foldl eC out).length≤out.length+l.length
 | [],out=>by simp
 | a::r,out=>by
   have h:=uq (l:=r) (out:=eC out a)
   have:(eC out a).length≤out.length+1:=by unfold eC;split<;>simp
   simp only [List.foldl_cons,List.length_cons]
   omega
theorem Ko {u:Ty}:(vars [u]).length≤u.nodes.length:=by
 have:=uq (l:=[u].flatMap Ty.nodes) (out:=[])
 simpa [vars] using this
theorem ur {l:List Ty}:∀{out:List Int} {y:Ty},y∈l→y.kind=1→y.id∈l.foldl eC out:=by
 have bq:∀(l:List Ty) (out:List Int) (v:Int),v∈out→v∈l.foldl eC out:=by
   intro l
   induction l with
   | nil=>intro out v h;exact h
   | cons a r ih=>intro out v h;rw [List.foldl_cons];refine ih _ v ?_;unfold eC;split<;>simp [h]
 induction l with
 | nil=>intro out y h;simp at h
 | cons a r ih=>
   intro out y h hk
   rw [List.foldl_cons]
   simp only [List.mem_cons] at h
   rcases h with rfl | h
   · refine bq r _ _ ?_
     unfold eC
     by_cases q:y.id∈out<;>simp [q,hk]
   · exact ih h hk
theorem c361x {x:Ty} (hG:cv x) (hn:x.nodes.length≤90):∃c:Sc,(aQ AP).p 361 [x.pv]=some [c.pv]∧kP c:=by
 obtain ⟨r,k1,hr,hl3⟩:=c59x hG.ok (by omega)
 obtain ⟨u,k2,T⟩:=c375x hG
 obtain ⟨ids,hi,_,hin,h⟩:=IB (t:=x) hr _ 0 rfl (by omega) [] (by simp)
 have hl:=nP (k:=1) (t:=u)
 have hun:=T.n
 have k3:=c208 (t:=u) ⟨T.ok,T.kn.wf,u.eY 1,by omega,fun y hy=>cZ (lJ y hy),fun y hy=>hy⟩ (ids:=ids) (by unfold Sm at *;omega)
 have hv:=Ko (u:=u)
 obtain ⟨c1,c2,_,c4⟩:=mZ (ids:=ids) (vars [u]) [] (by simp)
 have hall:∀y∈u.nodes,y.kind=1→∃z,kr (da ids (vars [u]) []) y.id=some z:=by
   intro y hy hk
   refine c4 _ (ur (by simpa using hy) hk) ?_
   obtain ⟨z,hz,z3,z99,e⟩:=T.vr y hy hk
   rw [e]
   refine hin z (by
     rw [List.drop_zero]
     refine hl3 z ?_
     have hb:=(hG.kn.nodes z hz (by rw [z3];decide)).2
     exact IA z hz z3 hb) z99
 refine ⟨nM ids u (vars [u]),?_,⟨BC T.ok,?_,(da ids (vars [u]) []).length,rfl,by simp at c2;omega,?_⟩⟩
 · generalize nM ids u (vars [u])=c at *
   rw [g361L0e] at h
   simp [tC,gz] at h
   simp at k1 k2 k3
   rw [aw (af:=g361) rfl rfl (by decide)]
   simp [g361,k1,k2,k3,g361L0e,h]
 · refine BG (K:=KS) T.kn (by simp only [KS,KC];omega) ?_ (.inr hall)
   intro i z hz
   obtain ⟨a,ha,rfl⟩:=l0 hz
   obtain ⟨k,_,e⟩:=c1 a ha
   rw [e]
   exact .bare rfl (by simp [cQ]) (by simp [cQ])
 · intro y hy hk
   rcases FE y hy with ⟨i,z,hz,hy⟩ | ⟨z,hz,e⟩
   · obtain ⟨a,ha,rfl⟩:=l0 hz
     obtain ⟨k,hk2,e⟩:=c1 a ha
     rw [e,Ty.bg] at hy
     simp [cQ] at hy
     subst hy
     simp only
     omega
   · have:=(T.kn.nodes z hz (by rw [←e,hk];decide)).1
     rw [←e,hk] at this
     simp at this
end Go.Ab.Lw
namespace Go.Ab.Lw
open Ev
def IC:List Ty:=[⟨3,[],0,99,[]⟩,⟨3,[],1,99,[]⟩]
theorem c349 {L:List Int} {tm:Nat} {TP:Int→Sh} (hT:Tape L tm TP) {ds:List Dt} {dep:Nat} {l:List En} {g:Ty} {i:Nat} (hL:Sm L) (hdep:dep<10) (hds:ds.length≤20) (hda:∀d∈ds,d.params.length≤8) (hdn:∀d∈ds,d.name.length≤100) (hG:jG L tm TP ds dep) (hl:Ctx (1000-20*(dep+1)) l) (hg:cv g) (hgn:g.nodes.length≤6000-20*(dep+1)) (hi:i≤L.length) :
   mc L tm TP (12*(dep+2)) ((aQ AP).i 349 [.bu tm 0,.pv (.aJ (ds.map Dt.pv)),.pv (.aJ (l.map En.pv)),.pv g.pv,.pv (vI (dep+1:Nat))] (TP i) []):=by
 have tn:=hT.norm
 have tsh:=hT.shift
 have tl:=hT.take
 obtain ⟨r,j1,e1,r0,r1,hj1⟩:=mY hT hL hi (n:=2) (by omega) (by omega)
 obtain ⟨s,j2,e2,hs,hj2⟩:=FB hT hL hj1
 obtain ⟨p,j3,e3,p0,p1,hj3⟩:=mY hT hL hj2 (n:=2) (by omega) (by omega)
 have hlv:∀t∈(if p=0 then IC else []),t.args=[]∧t.kind=3∧t.name=[]:=by
   intro t ht
   split at ht
   · simp [tn,tsh,tl,IC] at ht;rcases ht with rfl | rfl<;>exact ⟨rfl,rfl,rfl⟩
   · cases ht
 obtain ⟨x,j4,e4,mx,hj4⟩:=MB hT hL hds hda (lv:=if p=0 then IC else []) (by unfold Sm;split<;>simp [tn,tsh,tl,IC]) 2 (by omega) j3 hj3
 have gx:cv x:=kB hda hdn hlv mx
 have hxn:=mx.small hda (fun t ht=>(hlv t ht).1)
 obtain ⟨c,kc,sc⟩:=c361x gx (by omega)
 have hll:=hl.len
 have k1:=c176 (t:=x)
 have k2:=c179 (l:=l) (by unfold Sm;omega) (n:=s) (c:=⟨0,x⟩)
 have hl':Ctx (1000-20*dep) l:=hl.gR (by omega)
 have hlx:Ctx (1000-20*dep) (if r=1 then l++[⟨s,⟨0,x⟩⟩] else l):=by
   split
   · exact hl.push gx.mono (fy _ hs) (by omega)
   · exact hl'
 obtain ⟨a,f1,f2,f3,j5,e5,ha,hj5⟩:=hG j4 _ x hj4 hlx gx (by omega)
 obtain ⟨b10,k3⟩:=c307 ha.sc.ok 10
 obtain ⟨b11,k4⟩:=c307 ha.sc.ok 11
 have k5:=c34
 have k6:=c176 (t:=bA)
 obtain ⟨c',hc',Lp⟩:∃c':Sc,c'=(if b10=true∨b11=true then ⟨0,bA⟩ else c)∧kP c':=by
   refine ⟨_,rfl,?_⟩
   split
   · exact qo.mono
   · exact sc
 have k7:=c179 (l:=l) (by unfold Sm;omega) (n:=s) (c:=c')
 obtain ⟨b,f4,f5,f6,j6,e6,hb,hj6⟩:=hG j5 _ g hj5 (hl.push (s:=s) Lp (fy _ hs) (by omega)) hg (by omega)
 have hA:=eh f1 f2 f3 a
 generalize ej f1 f2 f3 a=A at e5 hA
 have hB:=eh f4 f5 f6 b
 generalize ej f4 f5 f6 b=B at e6 hB
 have ac:=Ex.bS a
 have bc:=Ex.bS b
 have tA:A.take 11=A:=List.take_of_length_le (by rw [hA.len];omega)
 have hk:6+r≠8:=by omega
 refine ⟨⟨6+r,0,s,0,[a,b],[],bW⟩,true,true,true,j6,?_,(fm hk (by simp) iF iG (by simpa using ⟨ha,hb⟩) (.yB (by simp only;omega) (fy _ hs) rfl rfl ha.tx hb.tx)).up (by omega),hj6⟩
 have h2:(dep:Int)+1-1=dep:=by omega
 have q1:=c71 (n:=99) (m:=0)
 have q2:=c71 (n:=99) (m:=1)
 have hr:r=0∨r=1:=by omega
 simp [tn,tsh,tl,Ty.av] at e1 e2 e3 e4 kc k1 k2 k3 k4 e5
 rw [aT (af:=g349) rfl (by simp [tn,tsh,tl,g349])]
 rcases hr with rfl | rfl<;>by_cases hp:p=0<;>cases b10<;>cases b11<;>subst hc'<;>simp [tn,tsh,tl,bA] at k5 k6 k7 e6<;>simp [tn,tsh,tl,hp,IC] at e4 e5 q1 q2 <;>
 simp (disch:=omega) [tn,tsh,tl,g349,h2,e1,e2,e3,hp,e4,kc,k1,k2,k3,k4,k5,k6,k7,e5,e6,q1,q2,aA,hA.dO,hA.flat,hA.iy,hA.len,hA.leaf,hB.dO,hB.flat,hB.iy,hB.len,hB.leaf,tA,ac,bc,aK,ej,gE,bW]
end Go.Ab.Lw
namespace Go.Ab.Lw
open Ev
theorem FF {vs:List Int} {x:Ty} {v:Int} (h:v∈vs):kr (vs.map fun v=>As.mk v x) v=some x:=by
 induction vs with
 | nil=>simp at h
 | cons a r ih=>
   simp only [List.map_cons,kr]
   by_cases e:a=v
   · simp [e]
   · simp only [List.mem_cons] at h
     rcases h with h | h
     · exact absurd h.symm e
     · simp [e,ih h]
theorem sD {vs:List Int} {x y:Ty} {v:Int} (h:kr (vs.map fun v=>As.mk v x) v=some y):y=x:=by
 obtain ⟨a,ha,rfl⟩:=l0 h
 simp only [List.mem_map] at ha
 obtain ⟨w,_,rfl⟩:=ha
 rfl
theorem Kq {s:List As} (hs:∀i x,kr s i=some x→x.nodes.length≤1) (t:Ty):(t.sub s).nodes.length≤t.nodes.length:=by
 refine Ty.eP (p:=fun t=>(t.sub s).nodes.length≤t.nodes.length) ?_ t
 intro t ih
 rw [Ty.sub_eq]
 split
 · cases e:kr s t.id with
   | some x=>
     have:=hs _ _ e
     rw [Ty.bg t]
     simp only [Option.getD_some,List.length_cons]
     omega
   | none=>exact Nat.le_refl _
 · rw [Ty.bg,Ty.bg t]
   simp only [List.length_cons,List.length_flatMap,List.map_map]
   have:(t.args.map ((fun x=>x.nodes.length) ∘ Ty.sub s)).sum≤(t.args.map fun x=>x.nodes.length).sum:=by
     generalize t.args=l at ih
     induction l with
     | nil=>simp
     | cons a r ih2=>
       have h1:=ih a (by simp)
       have h2:=ih2 fun x hx=>ih x (by simp [hx])
       simp only [List.map_cons,List.sum_cons,Function.comp_apply]
       omega
   omega
theorem c363x {t:Ty} (h:Fx t):∃u:Ty,(aQ AP).p 363 [t.pv]=some [u.pv]∧cv u∧u.nodes.length≤4000:=by
 have hl:=nP (k:=1) (t:=t)
 have hn:=h.2
 refine ⟨_,c363 (S:=t.eY 1) (by omega) (fun x hx=>cZ (lJ x hx)) (t:=t) ⟨h.1.1,h.1.2.wf,fun x hx=>hx⟩,⟨?_,?_⟩,Nat.le_trans (Kq (fun i x hx=>by rw [sD hx,Ty.bg];simp [bA]) t) h.2⟩
 · refine BB ?_ h.1.1
   intro a ha
   simp only [List.mem_map] at ha
   obtain ⟨w,_,rfl⟩:=ha
   exact qo.ok
 · refine BG (K:=KS) h.1.2 (by simp only [KS,KG];omega) ?_ (.inr ?_)
   · intro i x hx
     rw [sD hx]
     exact qo.kn
   · intro y hy hk
     exact ⟨bA,FF (ur (by simpa using hy) hk)⟩
def M8 (h:Hd):List AV:=[.pv (.str h.name),.pv (.bool h.iR),.pv (.aJ (h.args.map Ty.pv)),.pv (.aJ (h.types.map Ty.pv))]
def M9 (k:Int) (s:d4) (ks:List Ex):List AV:=[.pv (vI k),.pv (vI 0),.pv (.str s),.pv (vI 0),.own (ks.map Ex.pv) 3,.own [] 4,.pv (vI 0),.pv (.str []),.pv (vI 0),.pv (vI 0),.own [] 5]
theorem OX {L:List Int} {tm:Nat} {TP:Int→Sh} (hT:Tape L tm TP) {ds:List Dt} {dep:Nat} {l:List En} (hdep:dep<10) (hG:jG L tm TP ds dep) (hl:Ctx (1000-20*dep) l) {h:Hd} (hh:sv h):∀(n i:Nat),h.args.length-i=n→i≤h.args.length→∀(k:Int) (s:d4) (ks:List Ex) (I N:Nat),uo N ⟨k,0,s,0,ks,[],bW⟩→12*(dep+1)≤N→N+n≤12*(dep+1)+11→I≤L.length→∃(k':Int) (s':d4) (ks':List Ex) (J:Nat),uo (N+n) ⟨k',0,s',0,ks',[],bW⟩∧J≤L.length ∧
   cl AP g352L0 ⟨[(0,.bu tm 0),(1,.pv (.aJ (ds.map Dt.pv))),(2,.pv (.aJ (l.map En.pv))),(4,.pv (vI (dep+1))),(10,.aG 10 0),(12,.aG 12 0),(13,.aG 13 0),(14,.pv (vI i))],[(10,nO 0),(12,M8 h),(13,M9 k s ks)],TP I,[0,0,0,ks.length,0,0]⟩ =
     some (.exit 0,⟨[(0,.bu tm 0),(1,.pv (.aJ (ds.map Dt.pv))),(2,.pv (.aJ (l.map En.pv))),(4,.pv (vI (dep+1))),(10,.aG 10 0),(12,.aG 12 0),(13,.aG 13 0),(14,.pv (vI h.args.length)),(45,.pv (.bool false))],[(10,nO 0),(12,M8 h),(13,M9 k' s' ks')],TP J,[0,0,0,ks'.length,0,0]⟩)
 | 0,i,hn,hi,k,s,ks,I,N,hY,hN,hN2,hI=>by
   have tn:=hT.norm
   have tsh:=hT.shift
   have tl:=hT.take
   have:i=h.args.length:=by omega
   subst this
   refine ⟨k,s,ks,I,hY,hI,?_⟩
   rw [g352L0e]
   simp [tn,tsh,tl,g352B0,nO,M8,M9]
 | n+1,i,hn,hi,k,s,ks,I,N,hY,hN,hN2,hI=>by
   have tn:=hT.norm
   have tsh:=hT.shift
   have tl:=hT.take
   have hi:i<h.args.length:=by omega
   obtain ⟨t,ht⟩:=bO hi
   obtain ⟨u,k1,gu,gn⟩:=c363x (hh.2.1 t (bz ht))
   obtain ⟨y,f1,f2,f3,j,k2,hy,hj⟩:=hG I l u hI hl gu (by omega)
   have hY2:uo (N+1) ⟨5,0,[],0,[⟨k,0,s,0,ks,[],bW⟩,y],[],bW⟩:=by
     obtain ⟨r,rfl⟩:∃r,N=12*(dep+1)+r:=⟨N-12*(dep+1),by omega⟩
     exact Kk (by omega) hY hy
   obtain ⟨k',s',ks',J,q1,q2,e'⟩:=OX hT hdep hG hl hh n (i+1) (by omega) (by omega) 5 [] [⟨k,0,s,0,ks,[],bW⟩,y] j (N+1) hY2 (by omega) (by omega) hj
   refine ⟨k',s',ks',J,q1.up (by omega),q2,?_⟩
   have hA:=eh f1 f2 f3 y
   generalize ej f1 f2 f3 y=A at k2 hA
   have ac:=Ex.bS y
   have tA:A.take 11=A:=List.take_of_length_le (by rw [hA.len];omega)
   have h2:(dep:Int)+1-1=dep:=by omega
   have ha:=hh.1
   rw [g352L0e] at e' ⊢
   simp [tn,tsh,tl,nO,M8,M9,bW] at e'
   try simp [tn,tsh,tl] at k1 k2
   simp (disch:=omega) [tn,tsh,tl,-getElem?_pos,g352B0,nO,M8,M9,ht,hi,h2,k1,k2,aA,hA.dO,hA.flat,hA.iy,hA.len,hA.leaf,tA,ac,aK]
   rw [g352L0e]
   simp [tn,tsh,tl,e']
theorem c352 {L:List Int} {tm:Nat} {TP:Int→Sh} (hT:Tape L tm TP) {ds:List Dt} {dep:Nat} {l:List En} {g:Ty} {i:Nat} (hL:Sm L) (hdep:dep<10) (hD:s_ ds) (hG:jG L tm TP ds dep) (hl:Ctx (1000-20*(dep+1)) l) (hg:cv g) (hi:i≤L.length) :
   mc L tm TP (12*(dep+2)) ((aQ AP).i 352 [.bu tm 0,.pv (.aJ (ds.map Dt.pv)),.pv (.aJ (l.map En.pv)),.pv g.pv,.pv (vI (dep+1:Nat))] (TP i) []):=by
 have tn:=hT.norm
 have tsh:=hT.shift
 have tl:=hT.take
 have hll:=hl.len
 obtain ⟨hs,n1,hO,k1⟩:=c362 hg hD (l:=l) (by omega) hl.OU hl.nm
 by_cases z:hs=[]
 · subst z
   obtain ⟨e,f1,f2,f3,j,k,ht,hj⟩:=c348 hT hL (ds:=ds) (hl.gR (by omega)) hg hi
   refine ⟨e,f1,f2,f3,j,?_,ht.up (by omega),hj⟩
   try simp [tn,tsh,tl] at k1
   rw [aT (af:=g352) rfl (by simp [tn,tsh,tl,g352])]
   cases f1<;>cases f2<;>cases f3<;>simp [tn,tsh,tl,ej,gE] at k<;>simp [tn,tsh,tl,g352,k1,k,ej,gE,aK]
 · have hp:0<hs.length:=List.length_pos_iff.2 z
   obtain ⟨m,j,e1,m0,m1,hj⟩:=mY hT hL hi (n:=hs.length) (by omega) (by omega)
   obtain ⟨m,rfl,hm⟩:=mT m0 m1
   obtain ⟨h,hx⟩:=bO hm
   have hhO:=hO h (bz hx)
   have ha:=hhO.1
   obtain ⟨k',s',ks',J,q1,q2,e2⟩:=OX hT (L:=L) (l:=l) hdep hG (hl.gR (by omega)) hhO _ 0 rfl (by omega) (if h.iR=true then 2 else 1) h.name [] j (12*(dep+1)) ((ez (.inl ⟨by split<;>simp,hhO.2.2⟩)).up (by omega)) (by omega) (by omega) hj
   refine ⟨⟨k',0,s',0,ks',[],bW⟩,false,false,false,J,?_,q1.up (by omega),q2⟩
   rw [g352L0e] at e2
   try simp [tn,tsh,tl] at k1 e1
   rw [aT (af:=g352) rfl (by simp [tn,tsh,tl,g352])]
   cases hc:h.iR<;>simp [tn,tsh,tl,nO,M8,M9,hc] at e2<;>simp [tn,tsh,tl,-getElem?_pos,g352,k1,z,e1,hx,hc,g352L0e,e2,ej,gE,bW,aK]
end Go.Ab.Lw
namespace Go.Ab.Lw
open Ev
theorem Kr:∀d∈cH,d.params.length≤100∧∀c∈d.cons,∀f∈c.fields,Kh ⟨d.params.length,f.lK d.params⟩=true:=by decide +kernel
theorem yY {K:Nat} {t:Ty} (h:kP ⟨K,t⟩) {as:List Ty} (ha:as.length=K) (hg:∀a∈as,cv a):cv (t.l6 as):=by
 obtain ⟨K',h1,_,h3⟩:=h.OP
 have:K'=K:=by simp at h1;omega
 subst this
 exact ⟨H5 (fun a h=>(hg a h).ok) h.ok,H6 h.kn (by simp only [KC,KG];omega) (fun a h=>(hg a h).kn) (fun y hy hk=>by have:=h3 y hy hk;omega)⟩
theorem yZ {ds:List Dt} (hD:s_ ds) {s:d4} {as:List Ty} (hg:∀a∈as,cv a):((fieldsOf ds s as).getD []).length≤8∧∀f∈(fieldsOf ds s as).getD [],cv f:=by
 cases e:fieldsOf ds s as with
 | none=>simp
 | some fs=>
   simp only [fieldsOf,Option.bind_eq_some_iff] at e
   obtain ⟨q,_,d,hd,c,hc,e⟩:=e
   split at e
   · rename_i hl
     cases e
     have dA:=hD.all d (bz hd)
     obtain ⟨_,_,h8⟩:=ee d dA
     obtain ⟨hb,hb2⟩:=Kr d dA
     refine ⟨by simpa using (h8 c (bz hc)).1,?_⟩
     intro f hf
     simp only [Option.getD_some,List.mem_map] at hf
     obtain ⟨x,hx,rfl⟩:=hf
     exact yY (CF rfl hb (hb2 c (bz hc) x hx)) hl hg
   · cases e
theorem s_.small {ds:List Dt} (h:s_ ds):Small ds where
 num:=by have:=h.len;unfold Sm;omega
 iR:=fun d hd=>by have:=(ee d (h.all d hd)).2.1;unfold Sm;omega
 Qo:=by have:=h.len;have:=J7 (b:=8) fun d hd=>(ee d (h.all d hd)).2.1;unfold Sm;omega
 par:=fun d hd=>by have:=(ee d (h.all d hd)).1;unfold Sm;omega
 Qb:=fun d hd c hc=>by
   obtain ⟨a,b,c2⟩:=CG (h.all d hd) c hc
   exact ⟨a,b,fun x hx=>(c2 x hx).cw⟩
theorem Lq {L:List Int} {tm:Nat} {TP:Int→Sh} (hT:Tape L tm TP) (hL:Sm L) {ds:List Dt} (hds:ds.length≤20) (hda:∀d∈ds,d.params.length≤8) (hdn:∀d∈ds,d.name.length≤100) {p2:PV} {p4:PV} {g:Ty} {d:Dt} (hd8:d.params.length≤8):∀(n k:Nat),d.params.length-k=n→k≤d.params.length→∀(acc:List Ty) (i:Nat),acc.length=k→(∀x∈acc,cv x∧x.nodes.length≤9)→i≤L.length →
   ∃(r:List Ty) (j:Nat),r.length=d.params.length∧(∀x∈r,cv x∧x.nodes.length≤9)∧j≤L.length ∧
   cl AP g350L0 ⟨[(0,.bu tm 0),(1,.pv (.aJ (ds.map Dt.pv))),(2,.pv p2),(4,.pv p4),(8,.aG 8 0),(10,.aG 10 0),(11,.aG 11 0),(12,.own (acc.map Ty.pv) 0),(13,.pv (vI k))],[(8,tC g),(10,nO 1),(11,qj d)],TP i,[acc.length,0,0,0]⟩ =
     some (.exit 0,⟨[(0,.bu tm 0),(1,.pv (.aJ (ds.map Dt.pv))),(2,.pv p2),(4,.pv p4),(8,.aG 8 0),(10,.aG 10 0),(11,.aG 11 0),(12,.own (r.map Ty.pv) 0),(13,.pv (vI d.params.length)),(41,.pv (.bool false))],[(8,tC g),(10,nO 1),(11,qj d)],TP j,[r.length,0,0,0]⟩)
 | 0,k,hn,hk,acc,i,ha,hm,hi=>by
   have tn:=hT.norm
   have tsh:=hT.shift
   have tl:=hT.take
   have:k=d.params.length:=by omega
   subst this
   refine ⟨acc,i,ha,hm,hi,?_⟩
   rw [g350L0e]
   simp [tn,tsh,tl,g350B0,tC,nO,qj]
 | n+1,k,hn,hk,acc,i,ha,hm,hi=>by
   have tn:=hT.norm
   have tsh:=hT.shift
   have tl:=hT.take
   have hk:k<d.params.length:=by omega
   obtain ⟨t,j1,e1,mt,hj1⟩:=MB hT hL hds hda (lv:=[]) (by simp [tn,tsh,tl,Sm]) 1 (by omega) i hi
   have gt:cv t:=kB hda hdn (by simp) mt
   have gn:=mt.small hda (by simp)
   obtain ⟨r,j,h1,h2,h3,e'⟩:=Lq hT hL hds hda hdn (p2:=p2) (p4:=p4) (g:=g) hd8 n (k+1) (by omega) (by omega) (acc++[t]) j1 (by simp;omega) (by
     intro x hx;simp at hx;rcases hx with hx | rfl
     · exact hm x hx
     · exact ⟨gt,by omega⟩) hj1
   refine ⟨r,j,h1,h2,h3,?_⟩
   have hb:(acc.length+1)*64≤140737488355328:=by omega
   rw [g350L0e] at e' ⊢
   simp [tn,tsh,tl,tC,nO,qj] at e'
   simp [tn,tsh,tl,Ty.av] at e1
   simp (disch:=omega) [tn,tsh,tl,-getElem?_pos,g350B0,tC,nO,qj,hk,e1,hb,aA]
   rw [g350L0e]
   simp [tn,tsh,tl,e']
def IM (x:Ex) (as:List Ar):List AV:=[.pv (vI 8),.pv (vI 0),.pv (.str []),.pv (vI 0),.own [x.pv] 4,.own (as.map Ar.pv) 5,.pv (vI 0),.pv (.str []),.pv (vI 0),.pv (vI 0),.own [] 6]
def M_ (c:pH) (vs:List d4):List AV:=[.pv (vI 0),.pv (.str c.name),.own (vs.map .str) 7,.pv (vI 0),.pv (vI 0),.pv (.str []),.pv (vI 0),.own [] 8,.own [] 9,.pv (vI 0),.pv (.str []),.pv (vI 0),.pv (vI 0),.own [] 10]
def OY:List d4:=[[120],[121],[122],[119]]
theorem CJ:∀s∈OY,s.length≤100:=by
 intro s hs
 simp only [OY,List.mem_cons,List.not_mem_nil,or_false] at hs
 rcases hs with rfl | rfl | rfl | rfl<;>simp
theorem Lr {L:List Int} {tm:Nat} {TP:Int→Sh} (hT:Tape L tm TP) {I:Nat} {p1 p2 p4:PV} {g:Ty} {d:Dt} {as:List Ty} {x:Ex} {ar:List Ar} {C:Nat} {c:pH} {f:List Ty} (hf8:f.length≤8) (hf:∀t∈f,cv t) {N:Nat} (hN:N≤10000):∀(n k:Nat),f.length-k=n→k≤f.length→∀(vs:List d4) (l:List En),vs.length=k→(∀v∈vs,v.length≤100)→Ctx (N+k) l →
   ∃(r:List d4) (l':List En),r.length=f.length∧(∀v∈r,v.length≤100)∧Ctx (N+f.length) l' ∧
   cl AP g350L2 ⟨[(0,.bu tm 0),(1,.pv p1),(2,.pv p2),(4,.pv p4),(8,.aG 8 0),(10,.aG 10 0),(11,.aG 11 0),(12,.own (as.map Ty.pv) 0),(14,.aG 14 0),(15,.pv (vI C)),(16,.pv (.aJ (f.map Ty.pv))),(18,.aG 18 0),(19,.pv (.aJ (l.map En.pv))),(20,.pv (vI k))],
     [(8,tC g),(10,nO 1),(11,qj d),(14,IM x ar),(18,M_ c vs)],TP I,[as.length,0,0,0,1,ar.length,0,vs.length,0,0,0]⟩ =
     some (.exit 4,⟨[(0,.bu tm 0),(1,.pv p1),(2,.pv p2),(4,.pv p4),(8,.aG 8 0),(10,.aG 10 0),(11,.aG 11 0),(12,.own (as.map Ty.pv) 0),(14,.aG 14 0),(15,.pv (vI C)),(16,.pv (.aJ (f.map Ty.pv))),(18,.aG 18 0),(19,.pv (.aJ (l'.map En.pv))),(20,.pv (vI f.length)),(92,.pv (.bool false))],
     [(8,tC g),(10,nO 1),(11,qj d),(14,IM x ar),(18,M_ c r)],TP I,[as.length,0,0,0,1,ar.length,0,r.length,0,0,0]⟩)
 | 0,k,hn,hk,vs,l,hv,hvn,hl=>by
   have tn:=hT.norm
   have tsh:=hT.shift
   have tl:=hT.take
   have:k=f.length:=by omega
   subst this
   refine ⟨vs,l,hv,hvn,hl,?_⟩
   rw [g350L2e]
   simp [tn,tsh,tl,g350B2,tC,nO,qj,IM,M_]
 | n+1,k,hn,hk,vs,l,hv,hvn,hl=>by
   have tn:=hT.norm
   have tsh:=hT.shift
   have tl:=hT.take
   have hk:k<f.length:=by omega
   obtain ⟨t,ht⟩:=bO hk
   have hll:=hl.len
   obtain ⟨q,hrem,hq⟩:∃q:Nat,(k:Int).tmod 4=q∧q<4:=⟨((k:Int) % 4).toNat,by rw [Int.tmod_eq_emod_of_nonneg (by omega)];omega,by omega⟩
   obtain ⟨s,hs⟩:=bO (l:=OY) (i:=q) (by simpa [OY] using hq)
   have k1:=c176 (t:=t)
   have k2:=c179 (l:=l) (by unfold Sm;omega) (n:=s) (c:=⟨0,t⟩)
   obtain ⟨r,l',h1,h1n,h2,e'⟩:=Lr hT (L:=L) (I:=I) (p1:=p1) (p2:=p2) (p4:=p4) (g:=g) (d:=d) (as:=as) (x:=x) (ar:=ar) (C:=C) (c:=c) hf8 hf hN n (k+1) (by omega) (by omega) (vs++[s]) (l++[⟨s,⟨0,t⟩⟩]) (by simp;omega) (by
     intro v hv;simp only [List.mem_append,List.mem_singleton] at hv;rcases hv with hv | rfl
     · exact hvn v hv
     · exact CJ _ (bz hs)) (hl.push (hf t (bz ht)).mono (CJ _ (bz hs)) (by omega))
   refine ⟨r,l',h1,h1n,h2,?_⟩
   have hb:(vs.length+1)*16≤140737488355328:=by omega
   have hs':([PV.str [120],.str [121],.str [122],.str [119]]:List PV)[q]?=some (.str s):=by
     have:([PV.str [120],.str [121],.str [122],.str [119]]:List PV)=OY.map PV.str:=rfl
     rw [this];simp [tn,tsh,tl,hs]
   rw [g350L2e] at e' ⊢
   simp [tn,tsh,tl,tC,nO,qj,IM,M_] at e'
   try simp [tn,tsh,tl] at k1 k2
   simp (disch:=omega) [tn,tsh,tl,-getElem?_pos,g350B2,tC,nO,qj,IM,M_,hk,ht,hrem,hs',k1,k2,hb,aA,aK]
   rw [g350L2e]
   simp [tn,tsh,tl,e']
end Go.Ab.Lw
namespace Go.Ab.Lw
open Ev
def MG (n:Nat) (a:Ar):Prop:=(a.iR.length≤100∧a.vars.length≤10∧∀v∈a.vars,v.length≤100)∧uo n a.body
theorem y1 {n:Nat} {x:Ex} {as:List Ar} (hx:uo (12*n) x) (ha:as.length≤9) (h:∀a∈as,MG (12*n) a):uo (12*(n+1)) ⟨8,0,[],0,[x],as,bW⟩:=by
 have hc:∀y∈(⟨8,0,[],0,[x],as,bW⟩:Ex).ch,uo (12*n) y:=by
   intro y hy
   simp [Ex.ch] at hy
   rcases hy with rfl | ⟨a,ha,rfl⟩
   · exact hx
   · exact (h a ha).2
 refine ⟨⟨.mk (by simp) (by simp only;omega) (fun a hm=>by have:=(h a hm).1.2.1;omega) iF fun y hy=>(hc y hy).sc.ok,.mk (fun _=>rfl) fun y hy=>(hc y hy).sc.one,.mk iG fun y hy=>(hc y hy).sc.cw⟩,jF (n:=12*n+1) (.mk fun y hy=>(hc y hy).h) (by omega),?_,.se rfl rfl hx.tx (by simp only;omega) (fun a hm=>(h a hm).1) (fun a hm=>(h a hm).2.tx)⟩
 rw [sf,Ex.pI]
 exact yX (by rw [Ex.jD];simp only [List.length_singleton];omega) fun y hy=>by have:=(hc y hy).w;rwa [sf] at this
theorem Ls {L:List Int} {tm:Nat} {TP:Int→Sh} (hT:Tape L tm TP) {ds:List Dt} {dep:Nat} {l:List En} {g:Ty} (hdep:dep<10) (hD:s_ ds) (hG:jG L tm TP ds dep) (hl:Ctx (1000-20*(dep+1)) l) (hg:cv g) (hgn:g.nodes.length≤6000-20*(dep+1)) {d:Dt} (hdm:d∈ds) {as:List Ty} (has:as.length≤8) (hga:∀a∈as,cv a) {x:Ex}:∀(n k:Nat),d.cons.length-k=n→k≤d.cons.length→∀(ar:List Ar) (i:Nat),ar.length=k→(∀a∈ar,MG (12*(dep+1)) a)→i≤L.length →
   ∃(r:List Ar) (j:Nat),r.length=d.cons.length∧(∀a∈r,MG (12*(dep+1)) a)∧j≤L.length ∧
   cl AP g350L1 ⟨[(0,.bu tm 0),(1,.pv (.aJ (ds.map Dt.pv))),(2,.pv (.aJ (l.map En.pv))),(4,.pv (vI (dep+1))),(8,.aG 8 0),(10,.aG 10 0),(11,.aG 11 0),(12,.own (as.map Ty.pv) 0),(14,.aG 14 0),(15,.pv (vI k))],
     [(8,tC g),(10,nO 1),(11,qj d),(14,IM x ar)],TP i,[as.length,0,0,0,1,ar.length,0]⟩ =
     some (.exit 2,⟨[(0,.bu tm 0),(1,.pv (.aJ (ds.map Dt.pv))),(2,.pv (.aJ (l.map En.pv))),(4,.pv (vI (dep+1))),(8,.aG 8 0),(10,.aG 10 0),(11,.aG 11 0),(12,.own (as.map Ty.pv) 0),(14,.aG 14 0),(15,.pv (vI d.cons.length)),(66,.pv (.bool false))],
     [(8,tC g),(10,nO 1),(11,qj d),(14,IM x r)],TP j,[as.length,0,0,0,1,r.length,0]⟩)
 | 0,k,hn,hk,ar,i,ha,hm,hi=>by
   have tn:=hT.norm
   have tsh:=hT.shift
   have tl:=hT.take
   have:k=d.cons.length:=by omega
   subst this
   refine ⟨ar,i,ha,hm,hi,?_⟩
   rw [g350L1e]
   simp [tn,tsh,tl,g350B1,tC,nO,qj,IM]
 | n+1,k,hn,hk,ar,i,ha,hm,hi=>by
   have tn:=hT.norm
   have tsh:=hT.shift
   have tl:=hT.take
   have hk:k<d.cons.length:=by omega
   obtain ⟨c,hc⟩:=bO hk
   have hc8:=(ee d (hD.all d hdm)).2.1
   have k1:=c207 hD.small (as:=as) (by unfold Sm;omega) (s:=c.name)
   obtain ⟨hf8,hf⟩:=yZ hD (s:=c.name) hga
   generalize hff:fieldsOf ds c.name as=F at *
   generalize hfe:F.getD []=f at *
   obtain ⟨vs,l',hv,hvn,hl',e1⟩:=Lr hT (L:=L) (I:=i) (p1:=.aJ (ds.map Dt.pv)) (p2:=.aJ (l.map En.pv)) (p4:=vI (dep+1)) (g:=g) (d:=d) (as:=as) (x:=x) (ar:=ar) (C:=k) (c:=c) hf8 hf (N:=1000-20*(dep+1)) (by omega) _ 0 rfl (by omega) [] l rfl (by simp) (hl.gR (by omega))
   obtain ⟨b,f1,f2,f3,j2,e2,hb,hj2⟩:=hG i l' g hi (hl'.gR (by omega)) hg (by omega)
   obtain ⟨r,j,q1,q2,q3,e'⟩:=Ls hT hdep hD hG hl hg hgn hdm has hga (x:=x) n (k+1) (by omega) (by omega) (ar++[⟨0,c.name,vs,b⟩]) j2 (by simp;omega) (by
     intro a h;simp at h;rcases h with h | rfl
     · exact hm a h
     · exact ⟨⟨(kA d (hD.all d hdm)).2 c (bz hc),by simp only;omega,hvn⟩,hb⟩) hj2
   refine ⟨r,j,q1,q2,q3,?_⟩
   have hB:=eh f1 f2 f3 b
   generalize ej f1 f2 f3 b=B at e2 hB
   have bc:=Ex.bS b
   have tB:B.take 11=B:=List.take_of_length_le (by rw [hB.len];omega)
   have hbb:(ar.length+1)*200≤140737488355328:=by omega
   have hd1:(dep:Int)+1-1=dep:=by omega
   rw [g350L2e] at e1
   rw [g350L1e] at e'
   simp [tn,tsh,tl,tC,nO,qj,IM,M_] at e1 e' e2 ⊢
   simp [tn,tsh,tl,OD,hfe] at k1
   rw [g350L1e]
   simp (disch:=omega) [tn,tsh,tl,-getElem?_pos,g350B1,hc,hk,k1,aA,hd1,g350L2e,e1,e2,hbb,aK,hB.dO,hB.flat,hB.iy,hB.len,hB.leaf,tB,bc]
   rw [g350L1e]
   simp [tn,tsh,tl,e']
theorem c350 {L:List Int} {tm:Nat} {TP:Int→Sh} (hT:Tape L tm TP) {ds:List Dt} {dep:Nat} {l:List En} {g:Ty} {i:Nat} (hL:Sm L) (hdep:dep<10) (hD:s_ ds) (hG:jG L tm TP ds dep) (hl:Ctx (1000-20*(dep+1)) l) (hg:cv g) (hgn:g.nodes.length≤6000-20*(dep+1)) (hi:i≤L.length) :
   mc L tm TP (12*(dep+2)) ((aQ AP).i 350 [.bu tm 0,.pv (.aJ (ds.map Dt.pv)),.pv (.aJ (l.map En.pv)),.pv g.pv,.pv (vI (dep+1:Nat))] (TP i) []):=by
 have tn:=hT.norm
 have tsh:=hT.shift
 have tl:=hT.take
 have hll:=hl.len
 by_cases z:ds=[]
 · subst z
   obtain ⟨e,f1,f2,f3,j,k,ht,hj⟩:=c348 hT hL (ds:=[]) (hl.gR (by omega)) hg hi
   refine ⟨e,f1,f2,f3,j,?_,ht.up (by omega),hj⟩
   rw [aT (af:=g350) rfl (by simp [tn,tsh,tl,g350])]
   cases f1<;>cases f2<;>cases f3<;>simp [tn,tsh,tl,ej,gE] at k<;>simp [tn,tsh,tl,g350,k,ej,gE,aK]
 · have hp:0<ds.length:=List.length_pos_iff.2 z
   have hdl:=hD.len
   have hda:∀d∈ds,d.params.length≤8:=fun d hd=>(ee d (hD.all d hd)).1
   obtain ⟨m,j1,e1,m0,m1,hj1⟩:=mY hT hL hi (n:=ds.length) (by omega) (by omega)
   obtain ⟨m,rfl,hm⟩:=mT m0 m1
   obtain ⟨d,hd⟩:=bO hm
   have hdm:=bz hd
   obtain ⟨as,j2,a1,a2,hj2,e2⟩:=Lq hT hL (by omega) hda (fun d hd=>(kA d (hD.all d hd)).1) (p2:=.aJ (l.map En.pv)) (p4:=vI (dep+1)) (g:=g) (hda d hdm) _ 0 rfl (by omega) [] j1 rfl (by simp) hj1
   have hd8:=hda d hdm
   have hd10:=(ee d (hD.all d hdm)).2.1
   have k1:=c62 (s:=d.name) (l:=as) (by unfold Sm;omega)
   have gt:cv ⟨4,d.name,0,0,as⟩:=⟨⟨by unfold Sm;simp only;omega,fun x hx=>(a2 x hx).1.ok⟩,.mk (by simp) (kA d (hD.all d hdm)).1 fun x hx=>(a2 x hx).1.kn⟩
   have gtn:(⟨4,d.name,0,0,as⟩:Ty).nodes.length≤100:=by
     rw [Ty.bg]
     simp only [List.length_cons,List.length_flatMap]
     have:=sb (f:=fun x:Ty=>x.nodes.length) fun x hx=>(a2 x hx).2
     omega
   obtain ⟨x,f1,f2,f3,j3,e3,hx,hj3⟩:=hG j2 l _ hj2 (hl.gR (by omega)) gt (by omega)
   obtain ⟨r,j4,b1,b2,hj4,e4⟩:=Ls hT hdep hD hG hl hg hgn hdm (by omega) (fun a ha=>(a2 a ha).1) (x:=x) _ 0 rfl (by omega) [] j3 rfl (by simp) hj3
   refine ⟨⟨8,0,[],0,[x],r,bW⟩,false,false,false,j4,?_,(y1 hx (by omega) b2).up (by omega),hj4⟩
   have hA:=eh f1 f2 f3 x
   generalize ej f1 f2 f3 x=A at e3 hA
   have ac:=Ex.bS x
   have hd1:(dep:Int)+1-1=dep:=by omega
   rw [g350L0e] at e2
   rw [g350L1e] at e4
   simp [tn,tsh,tl,tC,nO,qj,IM] at e1 e2 e3 e4 k1
   rw [aT (af:=g350) rfl (by simp [tn,tsh,tl,g350])]
   simp (disch:=omega) [tn,tsh,tl,-getElem?_pos,g350,z,hd1,aA,e1,hd,g350L0e,e2,k1,e3,hA.dO,hA.flat,hA.iy,hA.len,hA.leaf,ac,g350L1e,e4,aK,ej,gE,bW]
theorem c326 {L:List Int} {tm:Nat} {TP:Int→Sh} (hT:Tape L tm TP) {ds:List Dt} (hL:Sm L) (hD:s_ ds):∀dep:Nat,dep≤10→jG L tm TP ds dep
 | 0,_=>fun i l g hi hl hg _=>Ix hT hL (hl.gR (by omega)) hg hi
 | dep+1,hdep=>fun i l g hi hl hg hgn=>by
   have tn:=hT.norm
   have tsh:=hT.shift
   have tl:=hT.take
   have hG:=c326 hT hL hD dep (by omega)
   have hdl:=hD.len
   have hda:∀d∈ds,d.params.length≤8:=fun d hd=>(ee d (hD.all d hd)).1
   have hdn:∀d∈ds,d.name.length≤100:=fun d hd=>(kA d (hD.all d hd)).1
   obtain ⟨r9,j9,e9,r0,r1,hj9⟩:=mY hT hL hi (n:=9) (by omega) (by omega)
   by_cases nz:r9=0
   · subst nz
     exact Kl hT hL (by omega) (hl.gR (by omega)) hg hj9 e9
   · obtain ⟨a,b,ar,arr,_,_,hab⟩:=c194g hg.ok
     obtain ⟨k,j,sB,k0,k1,hj⟩:=mY hT hL hj9 (n:=10) (by omega) (by omega)
     have P:Iy L tm TP g i a b ar k r9 j9 j:=⟨nz,e9,arr,sB,hj⟩
     have h1:¬((dep:Int)+1<1):=by omega
     have headed:(ar=true→7≤k)→(ar=false→¬k<2∧k≠2∧k≠3∧k≠5∧(k=4→¬(g.jE 3=false∧g.jE 1=false)))→sA L tm TP ds (dep+1) l g i:=by
       intro H1 H2
       obtain ⟨e,f1,f2,f3,j',kk,ht,hj'⟩:=c352 hT hL (by omega) hD hG hl hg hj
       refine ⟨e,f1,f2,f3,j',?_,ht,hj'⟩
       have c3:=c351 (k:=3) hg.ok
       have c1:=c351 (k:=1) hg.ok
       try simp [tn,tsh,tl] at e9 arr sB c3 c1
       rw [aT (af:=g326) rfl (by simp [tn,tsh,tl,g326])]
       cases ar with
       | true=>
         have q:=H1 rfl
         have q7:¬k<7:=by omega
         have q2:¬k<2:=by omega
         have q3:¬k=2:=by omega
         have q4:¬k=3:=by omega
         have q5:¬k=4:=by omega
         have q6:¬k=5:=by omega
         cases f1<;>cases f2<;>cases f3<;>simp [tn,tsh,tl,ej,gE] at kk<;>simp [tn,tsh,tl,g326,h1,nz,e9,arr,sB,q7,q2,q3,q4,q5,q6,kk,ej,gE,aK]
       | false=>
         obtain ⟨q2,q3,q4,q6,q5⟩:=H2 rfl
         by_cases h4:k=4
         · have:=q5 h4
           subst h4
           cases g3:g.jE 3 with
           | true=>
             rw [g3] at c3
             cases f1<;>cases f2<;>cases f3<;>simp [tn,tsh,tl,ej,gE] at kk<;>simp [tn,tsh,tl,g326,h1,nz,e9,arr,sB,c3,kk,ej,gE,aK]
           | false=>
             rw [g3] at c3
             have g1:g.jE 1=true:=by
               cases g1:g.jE 1 with
               | true=>rfl
               | false=>exact absurd ⟨g3,g1⟩ this
             rw [g1] at c1
             cases f1<;>cases f2<;>cases f3<;>simp [tn,tsh,tl,ej,gE] at kk<;>simp [tn,tsh,tl,g326,h1,nz,e9,arr,sB,c3,c1,kk,ej,gE,aK]
         · cases f1<;>cases f2<;>cases f3<;>simp [tn,tsh,tl,ej,gE] at kk<;>simp [tn,tsh,tl,g326,h1,nz,e9,arr,sB,q2,q3,q4,h4,q6,kk,ej,gE,aK]
     cases ar with
     | true=>
       have hq:=hab rfl
       by_cases h7:k<7
       · exact MD hT hL (by omega) hG hl P h7 (hg.gV a (by rw [hq];simp)) (hg.gV b (by rw [hq];simp)) (by
           have:=sd (f:=fun x:Ty=>x.nodes.length) (l:=g.args) (x:=b) (by rw [hq];simp)
           rw [Ty.bg] at hgn
           simp only [List.length_cons,List.length_flatMap] at hgn
           omega)
       · exact headed (fun _=>by omega) (by simp)
     | false=>
       by_cases h2:k<2
       · exact ME hT hL (by omega) (by omega) hda hdn hG hl hg hgn P h2
       · by_cases h3:k=2
         · subst h3
           obtain ⟨e,f1,f2,f3,j',kk,ht,hj'⟩:=c349 hT hL (by omega) (by omega) hda hdn hG hl hg hgn hj
           refine ⟨e,f1,f2,f3,j',?_,ht,hj'⟩
           try simp [tn,tsh,tl] at e9 arr sB
           rw [aT (af:=g326) rfl (by simp [tn,tsh,tl,g326])]
           cases f1<;>cases f2<;>cases f3<;>simp [tn,tsh,tl,ej,gE] at kk<;>simp [tn,tsh,tl,g326,h1,nz,e9,arr,sB,kk,ej,gE,aK]
         · by_cases h4:k=3
           · subst h4
             obtain ⟨e,f1,f2,f3,j',kk,ht,hj'⟩:=c350 hT hL (by omega) hD hG hl hg hgn hj
             refine ⟨e,f1,f2,f3,j',?_,ht,hj'⟩
             try simp [tn,tsh,tl] at e9 arr sB
             rw [aT (af:=g326) rfl (by simp [tn,tsh,tl,g326])]
             cases f1<;>cases f2<;>cases f3<;>simp [tn,tsh,tl,ej,gE] at kk<;>simp [tn,tsh,tl,g326,h1,nz,e9,arr,sB,kk,ej,gE,aK]
           · by_cases h5:k=5
             · subst h5
               exact Km hT hL (by omega) hG hl hg hgn P
             · by_cases h6:k=4∧g.jE 3=false∧g.jE 1=false
               · obtain ⟨rfl,q1,q2⟩:=h6
                 exact MF hT hL (by omega) hG hl hg hgn P q1 q2
               · exact headed (by simp) (fun _=>⟨h2,h3,h4,h5,fun q=>fun w=>h6 ⟨q,w⟩⟩)
end Go.Ab.Lw
namespace Go.Ab.Lw
open Ev
theorem Ks {s:List d4} {y:d4} (h:y∈s):0≤nN s y∧nN s y<s.length:=by
 unfold nN
 cases e:gp (fun x=>decide (x=y)) s with
 | none=>have:=l3.1 e y h;simp at this
 | some k=>
   have:k<s.length:=by
     clear h
     induction s generalizing k with
     | nil=>simp [gp] at e
     | cons a r ih=>
       simp only [gp] at e
       split at e
       · cases e;simp
       · simp only [Option.map_eq_some_iff] at e
         obtain ⟨j,hj,rfl⟩:=e
         have:=ih j hj
         simp;omega
   simp [Fl];omega
theorem y3:∀{l out:List d4} {y:d4},y∈l→y∈l.foldl eT out
 | a::r,out,y,h=>by
   rw [List.foldl_cons]
   simp only [List.mem_cons] at h
   rcases h with rfl | h
   · refine uf ?_
     unfold eT;split
     · assumption
     · simp
   · exact y3 h
theorem uu:∀{l out:List d4},(l.foldl eT out).length≤out.length+l.length
 | [],out=>by simp
 | a::r,out=>by
   have h:=uu (l:=r) (out:=eT out a)
   have:(eT out a).length≤out.length+1:=by unfold eT;split<;>simp
   simp only [List.foldl_cons,List.length_cons]
   omega
theorem BP {t:Ty}:t.gh.length≤t.nodes.length∧∀z∈t.nodes,z.kind=5→z.name∈t.gh:=by
 refine Ty.eP (p:=fun t=>t.gh.length≤t.nodes.length∧∀z∈t.nodes,z.kind=5→z.name∈t.gh) ?_ t
 intro t ih
 have key:∀l:List Ty,(∀a∈l,a.gh.length≤a.nodes.length)→(l.flatMap Ty.gh).length≤(l.flatMap Ty.nodes).length:=by
   intro l
   induction l with
   | nil=>intro _;simp
   | cons a r ihr=>
     intro h
     have h1:=h a (by simp)
     have h2:=ihr fun b hb=>h b (by simp [hb])
     simp only [List.flatMap_cons,List.length_append]
     omega
 rw [Ty.CB,Ty.bg]
 refine ⟨?_,?_⟩
 · have:=key t.args fun a ha=>(ih a ha).1
   have h1:(if t.kind=5 then [t.name] else []).length≤1:=by split<;>simp
   simp only [List.length_append,List.length_cons]
   omega
 · intro z hz hk
   simp only [List.mem_cons,List.mem_flatMap] at hz
   rcases hz with rfl | ⟨a,ha,hz⟩
   · rw [if_pos hk];simp
   · refine List.mem_append_right _ ?_
     simp only [List.mem_flatMap]
     exact ⟨a,ha,(ih a ha).2 z hz hk⟩
theorem Kt {l:List d4} {t:Ty} (h:t.Kn (·=5)) (hl:∀z∈t.nodes,z.kind=5→z.name∈l):(t.lK l).Kn KC∧Ke l.length (t.lK l):=by
 induction h with
 | @mk t hh hnn _ ih=>
   have hself:t∈t.nodes:=by rw [Ty.bg];simp
   rw [Ty.vT]
   by_cases k:t.kind=5
   · have hp:=Ks (hl t hself k)
     rw [if_pos ⟨k,hp.1⟩]
     refine ⟨.bare rfl (by simp [cQ]) (by simp [cQ]),?_⟩
     intro y hy _
     rw [Ty.bg] at hy
     simp [cQ] at hy
     subst hy
     exact hp
   · rw [if_neg (fun q=>k q.1)]
     have hk4:t.kind=4:=by
       by_cases q:t.kind=4
       · exact q
       · exact absurd (hh q).1 k
     refine ⟨.mk (fun q=>absurd hk4 q) hnn ?_,?_⟩
     · intro x hx
       simp only [List.mem_map] at hx
       obtain ⟨a,ha,rfl⟩:=hx
       exact (ih a ha fun z hz=>hl z (Fz a ha z hz)).1
     · intro y hy hy2
       rw [Ty.bg] at hy
       simp only [List.mem_cons,List.mem_flatMap,List.mem_map] at hy
       rcases hy with rfl | ⟨b,⟨a,ha,rfl⟩,hy⟩
       · simp only at hy2;omega
       · exact (ih a ha fun z hz=>hl z (Fz a ha z hz)).2 y hy hy2
theorem pL {D:Dt→Prop} (hN:∀d,D d→d.name.length≤100) {lv:List Ty} (h:∀t∈lv,t.args=[]∧t.kind=5∧t.name.length≤100) {n:Nat} {t:Ty} (m:gM D lv n t):t.Kn (·=5):=by
 induction m with
 | leaf hl=>exact .bare (h _ hl).1 (fun _=>(h _ hl).2.1) (h _ hl).2.2
 | int=>exact .bare rfl (by simp [bA]) (by simp [bA])
 | iR hd _ _ ih=>exact .mk (by simp) (hN _ hd) ih
 | arrow _ _ iha ihb=>exact .mk (by simp) (by simp) (by intro x hx;simp at hx;rcases hx with rfl | rfl<;>assumption)
theorem sE {h:Int}:∀{n:Nat} {x:Ty},x∈ky h n→∃i:Nat,x=kq h i
 | 0,x,hx=>by simp [ky] at hx
 | n+1,x,hx=>by
   simp [ky] at hx
   rcases hx with hx | rfl
   · exact sE hx
   · exact ⟨n,rfl⟩
theorem uv {f:Ty→Ty} {l:List Ty} (h:∀x∈l,(f x).nodes.length≤x.nodes.length):((l.map f).flatMap Ty.nodes).length≤(l.flatMap Ty.nodes).length:=by
 induction l with
 | nil=>simp
 | cons a r ih=>
   have h1:=h a (by simp)
   have h2:=ih fun x hx=>h x (by simp [hx])
   simp only [List.map_cons,List.flatMap_cons,List.length_append]
   omega
theorem Ku {l:List d4} (t:Ty):(t.lK l).nodes.length≤t.nodes.length:=by
 refine Ty.eP (p:=fun t=>(t.lK l).nodes.length≤t.nodes.length) ?_ t
 intro t ih
 rw [Ty.vT]
 split
 · rw [Ty.bg,Ty.bg t];simp [cQ]
 · rw [Ty.bg,Ty.bg t]
   have:=uv (f:=Ty.lK l) ih
   simp only [List.length_cons]
   omega
theorem Kv {l:List Ty} (hl:∀x∈l,x.nodes.length≤1) (t:Ty):(t.l6 l).nodes.length≤t.nodes.length:=by
 refine Ty.eP (p:=fun t=>(t.l6 l).nodes.length≤t.nodes.length) ?_ t
 intro t ih
 rw [Ty.lF]
 cases e:H3 l t with
 | some x=>
   obtain ⟨_,_,_,hx⟩:=lE e
   have:=hl x (bz hx)
   rw [Ty.bg t]
   simp only [Option.getD_some,List.length_cons]
   omega
 | none=>
   simp only [Option.getD_none]
   rw [Ty.bg,Ty.bg t]
   have:=uv (f:=Ty.l6 l) ih
   simp only [List.length_cons]
   omega
structure FG (t:Ty):Prop where
 ok:t.Ok
 kn:t.Kn (·=5)
 n:t.nodes.length≤90
theorem FG.both {t:Ty} (h:FG t):∃(u:Ty) (c:Sc),(aQ AP).p 325 [t.pv]=some [u.pv]∧(aQ AP).p 327 [t.pv,vI 98]=some [u.pv,c.pv]∧cv u∧kP c∧u.nodes.length≤90:=by
 obtain ⟨s1,s2⟩:=BP (t:=t)
 have hn:=h.n
 have k1:=c325 (S:=t.gh) (by omega) h.ok h.kn.cw (fun y hy=>hy)
 have k2:=c327 (S:=t.gh) (by omega) h.ok h.kn.cw (fun y hy=>hy) (h:=98)
 have hl:(d7 t).length≤90:=by
   have:=uu (l:=t.gh) (out:=[])
   simp at this
   unfold d7;omega
 obtain ⟨b1,b2⟩:=Kt (l:=d7 t) h.kn (fun z hz hk=>y3 (s2 z hz hk))
 have sc:kP ⟨(d7 t).length,t.lK (d7 t)⟩:=⟨BL h.ok,b1,(d7 t).length,rfl,by omega,b2⟩
 refine ⟨_,_,k1,k2,?_,sc,Nat.le_trans (Kv (fun x hx=>by obtain ⟨i,rfl⟩:=sE hx;rw [Ty.bg];simp [kq]) _) (Nat.le_trans (Ku t) hn)⟩
 refine yY sc (by rw [lL]) ?_
 intro a ha
 obtain ⟨i,rfl⟩:=sE ha
 exact ⟨cZ rfl,.bare rfl (by simp [kq]) (by simp [kq])⟩
end Go.Ab.Lw
namespace Go.Ab.Lw
open Ev
structure Bd where
 pos:Int
 rc:Bool
 name:d4
 sg:Bool
 sig:Ty
 body:Ex
def Bd.cells (b:Bd):List PV:=[vI b.pos,.bool b.rc,.str b.name,.bool b.sg,vI b.sig.kind,.str b.sig.name,vI b.sig.id,vI b.sig.home,.aJ (b.sig.args.map Ty.pv)]++b.body.cells
def Bd.pv (b:Bd):PV:=.agg b.cells
@[simp] theorem Bd.lz (b:Bd):b.pv=.agg [vI b.pos,.bool b.rc,.str b.name,.bool b.sg,vI b.sig.kind,.str b.sig.name,vI b.sig.id,vI b.sig.home,.aJ (b.sig.args.map Ty.pv),.int .i64 b.body.kind,.int .i64 b.body.pos,.str b.body.name,.int .i64 b.body.num,.aJ (b.body.kids.map Ex.pv),.aJ (b.body.bw.map Ar.pv),.int .i64 b.body.ty.kind,.str b.body.ty.name,.int .i64 b.body.ty.id,.int .i64 b.body.ty.home,.aJ (b.body.ty.args.map Ty.pv)]:=by
 rw [Bd.pv,Bd.cells,Ex.bS];rfl
theorem lN:Row Bd.cells 20:=⟨by omega,fun b=>by rw [Bd.cells,Ex.bS];rfl⟩
theorem OZ:El Bd.pv 20 true:=⟨fun b=>by simp,fun b=>by simp⟩
@[simp] theorem Na {l:List Bd}:bC 20 (l.map Bd.pv)=true:=OZ.head l
theorem BQ {l:List Bd}:((fE (bY Bd.cells l)).bind (fF 20 true l.length)).map PV.aJ=some (.aJ (l.map Bd.pv)):=qh lN
theorem MH {l:List Bd}:((l.map Bd.pv).flatMap br).map AV.pv=bY Bd.cells l:=qi lN
structure oO (N:Nat) (b:Bd):Prop where
 sc:yH b.body
 h:b.body.yG N
 so:b.sig.Ok
 sw:b.sig.Cw
 sn:b.sig.nodes.length≤90
 nm:b.name.length≤100
 st:b.sig.Kn KT
 w:b.body.sz≤70000*N
 tx:l7 b.body
def qq (L:List Int) (k:Nat) (bs:List Bd) (j:Int):Sh:=[]++[some [.pv (.aJ (L.map vI)),.pv (vI j)]]++(nn k++[some (bY Bd.cells bs)])
theorem jh {L:List Int} {k:Nat} {bs:List Bd}:Tape L 0 (qq L k bs):=CI (A:=[]) (by intro cs h;simp at h) ((eJ k).app (bP.one cI))
theorem CL {L:List Int} {k:Nat} {bs:List Bd} {j:Int}:(qq L k bs j)[1+k]?=some (some (bY Bd.cells bs)):=by
 simp [qq,List.getElem?_append_right,Nat.add_comm,nn]
theorem Kx {L:List Int} {k:Nat} {bs:List Bd} {j:Int} {F:List AV}:(qq L k bs j).set (1+k) none++[some F]=[]++[some [.pv (.aJ (L.map vI)),.pv (vI j)]]++(nn (k+1)++[some F]):=by
 simp [qq,nn,Nat.add_comm 1 k,List.set_append,List.replicate_succ']
theorem Ky {L:List Int} {k:Nat} {bs:List Bd} {j:Int}:(qq L k bs j).length=1+k+1:=by simp [qq,nn];omega
def Nb:List d4:=[[112],[113],[114],[115]]
theorem Kz {i:Nat} {s:d4} (h:Nb[i]?=some s):([PV.str [112],.str [113],.str [114],.str [115]]:List PV)[i]?=some (.str s):=by
 have:([PV.str [112],.str [113],.str [114],.str [115]]:List PV)=Nb.map PV.str:=rfl
 rw [this];simp [h]
end Go.Ab.Lw
namespace Go.Ab.Lw
open Ev
structure It (L:List Int) (tm:Nat) (TP:Int→Sh) (ds:List Dt) (l:List En) (nm:d4) (i:Nat) (r4 r3 r2:Int) (x1 x u:Ty) (sc c':Sc) (e:Ex) (A:List AV) (b10 b11:Bool) (j1 j2 j3 j4 j5 j6:Nat):Prop where
 e1:(aQ AP).i 68 [.bu tm 0,.pv (vI 4)] (TP i) []=some ([.pv (vI r4)],TP j1,[])
 k0:(aQ AP).p 67 []=some [.aJ (lB.map Ty.pv)]
 e2:(aQ AP).i 27 [.bu tm 0,.pv (.aJ (ds.map Dt.pv)),.pv (.aJ (lB.map Ty.pv)),.pv (vI 2)] (TP j1) []=some ([x1.av],TP j2,[])
 e3:(aQ AP).i 68 [.bu tm 0,.pv (vI 3)] (TP j2) []=some ([.pv (vI r3)],TP j3,[])
 e4:if r3=0 then (aQ AP).i 27 [.bu tm 0,.pv (.aJ (ds.map Dt.pv)),.pv (.aJ []),.pv (vI 2)] (TP j3) []=some ([x.av],TP j4,[]) else x=x1∧j4=j3
 e5:(aQ AP).i 68 [.bu tm 0,.pv (vI 2)] (TP j4) []=some ([.pv (vI r2)],TP j5,[])
 k1:(aQ AP).p 325 [x.pv]=some [u.pv]
 k2:(aQ AP).p 327 [x.pv,vI 98]=some [u.pv,sc.pv]
 k3:(aQ AP).p 176 [u.pv]=some [(As.mk 0 u).pv]
 k4:(aQ AP).p 179 [.aJ (l.map En.pv),.str nm,(As.mk 0 u).pv]=some [.aJ ((l++[En.mk nm ⟨0,u⟩]).map En.pv)]
 e6:(aQ AP).i 326 [.bu tm 0,.pv (.aJ (ds.map Dt.pv)),.pv (.aJ ((if r4=1 then l++[⟨nm,⟨0,u⟩⟩] else l).map En.pv)),.pv u.pv,.pv (vI 3)] (TP j5) []=some ([.agg A],TP j6,[])
 hA:Qa e A
 k5:(aQ AP).p 307 [e.pv,vI 10]=some [.bool b10]
 k6:(aQ AP).p 307 [e.pv,vI 11]=some [.bool b11]
 k7:(aQ AP).p 34 []=some [bA.pv]
 k8:(aQ AP).p 176 [bA.pv]=some [(As.mk 0 bA).pv]
 hc:c'=if ¬r2=0∧(b10=true∨b11=true) then ⟨0,bA⟩ else sc
 k9:(aQ AP).p 179 [.aJ (l.map En.pv),.str nm,c'.pv]=some [.aJ ((l++[En.mk nm c']).map En.pv)]
 Lp:kP c'
 ty:uo 48 e
 sx:FG x
 hj:j6≤L.length
theorem O0 {L:List Int} {tm:Nat} {TP:Int→Sh} (hT:Tape L tm TP) (hL:Sm L) {ds:List Dt} (hD:s_ ds) {l:List En} (hl:Ctx 900 l) {i:Nat} (hi:i≤L.length) (nm:d4) (hnm:nm.length≤100) :
   ∃r4 r3 r2 x1 x u sc c' e A b10 b11 j1 j2 j3 j4 j5 j6,It L tm TP ds l nm i r4 r3 r2 x1 x u sc c' e A b10 b11 j1 j2 j3 j4 j5 j6:=by
 have hdl:=hD.len
 have hda:∀d∈ds,d.params.length≤8:=fun d hd=>(ee d (hD.all d hd)).1
 have hdn:∀d∈ds,d.name.length≤100:=fun d hd=>(kA d (hD.all d hd)).1
 have hll:=hl.len
 have nL:∀t∈lB,t.args=[]∧t.kind=5∧t.name.length≤100:=by
   intro t ht
   simp [lB] at ht
   rcases ht with rfl | rfl | rfl<;>exact ⟨rfl,rfl,by decide⟩
 have sig:∀{lv:List Ty} {x:Ty},(∀t∈lv,t.args=[]∧t.kind=5∧t.name.length≤100)→gM (·∈ds) lv 2 x→FG x:=fun h m=>⟨m.ok hda (fun t ht=>(h t ht).1),pL hdn h m,by have:=m.small hda (fun t ht=>(h t ht).1);omega⟩
 obtain ⟨r4,j1,e1,_,_,hj1⟩:=mY hT hL hi (n:=4) (by omega) (by omega)
 obtain ⟨x1,j2,e2,m1,hj2⟩:=MB hT hL (ds:=ds) (by omega) hda (lv:=lB) (by simp [Sm,lB]) 2 (by omega) j1 hj1
 obtain ⟨r3,j3,e3,_,_,hj3⟩:=mY hT hL hj2 (n:=3) (by omega) (by omega)
 obtain ⟨x,j4,e4,sx,hj4⟩:∃(x:Ty) (j4:Nat),(if r3=0 then (aQ AP).i 27 [.bu tm 0,.pv (.aJ (ds.map Dt.pv)),.pv (.aJ []),.pv (vI 2)] (TP j3) []=some ([x.av],TP j4,[]) else x=x1∧j4=j3)∧FG x∧j4≤L.length:=by
   by_cases h:r3=0
   · obtain ⟨x,j4,e4,m,hj4⟩:=MB hT hL (ds:=ds) (by omega) hda (lv:=[]) (by simp [Sm]) 2 (by omega) j3 hj3
     exact ⟨x,j4,by rw [if_pos h];exact e4,sig (by simp) m,hj4⟩
   · exact ⟨x1,j3,by rw [if_neg h];exact ⟨rfl,rfl⟩,sig nL m1,hj3⟩
 obtain ⟨r2,j5,e5,_,_,hj5⟩:=mY hT hL hj4 (n:=2) (by omega) (by omega)
 obtain ⟨u,sc,k1,k2,gu,hsc,un⟩:=sx.both
 have k3:=c176 (t:=u)
 have k4:=c179 (l:=l) (by unfold Sm;omega) (n:=nm) (c:=⟨0,u⟩)
 have hli:Ctx (1000-20*3) (if r4=1 then l++[⟨nm,⟨0,u⟩⟩] else l):=by
   split
   · exact hl.push gu.mono hnm (by omega)
   · exact hl.gR (by omega)
 obtain ⟨e,f1,f2,f3,j6,e6,he,hj6⟩:=c326 hT hL hD 3 (by omega) j5 _ u hj5 hli gu (by omega)
 obtain ⟨b10,k5⟩:=c307 he.sc.ok 10
 obtain ⟨b11,k6⟩:=c307 he.sc.ok 11
 have Lp:kP (if ¬r2=0∧(b10=true∨b11=true) then ⟨0,bA⟩ else sc):=by
   split
   · exact qo.mono
   · exact hsc
 exact ⟨r4,r3,r2,x1,x,u,sc,_,e,_,b10,b11,j1,j2,j3,j4,j5,j6,e1,c67,e2,e3,e4,e5,k1,k2,k3,k4,e6,eh f1 f2 f3 e,k5,k6,c34,c176,rfl,c179 (by unfold Sm;omega),Lp,he,sx,hj6⟩
theorem vY:∀s∈Nb,s.length≤100:=by
 intro s hs
 simp only [Nb,List.mem_cons,List.not_mem_nil,or_false] at hs
 rcases hs with rfl | rfl | rfl | rfl<;>simp
def kQ (nm:d4) (r4 r2:Int) (x:Ty) (e:Ex):Bd:=⟨0,decide (r4=1),nm,decide (r2=0),if r2=0 then x else bW,e⟩
theorem CM {nm:d4} {r4 r2:Int} {x:Ty} {e:Ex} (hnm:nm.length≤100) (sx:FG x) (ty:uo 48 e):oO 100 (kQ nm r4 r2 x e):=by
 refine ⟨ty.sc,jF ty.h (by omega),?_,?_,?_,hnm,?_,by have:=ty.w;rw [show (48:Nat)=12*4 from rfl,sf] at this;simp only [kQ];omega,ty.tx⟩<;>simp only [kQ]<;>split
 · exact sx.ok
 · exact iF
 · exact sx.kn.cw
 · exact iG
 · exact sx.n
 · rw [Ty.bg];simp [bW]
 · exact sx.kn.imp (fun k hk=>.inr hk)
 · exact .bare rfl (by simp [bW]) (by simp [bW])
theorem O1 {L:List Int} (hL:Sm L) {ds:List Dt} (hD:s_ ds) {l:List En} (hl:Ctx 900 l) {N i k:Nat} (hi4:i<N) (hN:N≤4) {bs:List Bd} (hb0:bs.length=i) {j:Nat} (hj:j≤L.length):∃(b:Bd) (l':List En) (j':Nat),oO 100 b∧Ctx (l.length+1) l'∧j'≤L.length ∧
   cl AP g306L0 ⟨[(4,.aG 4 0),(5,.bu 0 0),(6,.aG 6 0),(7,.pv (.aJ (l.map En.pv))),(8,.pv (vI N)),(9,.pv (vI i))],[(4,[.own [] 0,.own [] 1]),(6,[.pv (.aJ (ds.map Dt.pv)),.bI (1+k) 20 bs.length true])],qq L k bs j,[0,0]⟩ =
   cl AP g306L0 ⟨[(4,.aG 4 0),(5,.bu 0 0),(6,.aG 6 0),(7,.pv (.aJ (l'.map En.pv))),(8,.pv (vI N)),(9,.pv (vI (i+1:Nat)))],[(4,[.own [] 0,.own [] 1]),(6,[.pv (.aJ (ds.map Dt.pv)),.bI (1+k+1) 20 (bs++[b]).length true])],qq L (k+1) (bs++[b]) j',[0,0]⟩:=by
 obtain ⟨nm,hnm⟩:=bO (l:=Nb) (i:=i) (by simp [Nb];omega)
 have hnm':=Kz hnm
 have hT:=jh (L:=L) (k:=k) (bs:=bs)
 obtain ⟨r4,r3,r2,x1,x,u,sc,c',e,A,b10,b11,j1,j2,j3,j4,j5,j6,I⟩:=O0 hT hL hD hl hj nm (vY nm (bz hnm))
 obtain ⟨e1,k0,e2,e3,e4,e5,k1,k2,k3,k4,e6,hA,k5,k6,k7,k8,hc,k9,Lp,ty,sx,hj6⟩:=I
 refine ⟨kQ nm r4 r2 x e,l++[⟨nm,c'⟩],j6,CM (vY nm (bz hnm)) sx ty,⟨by simp,by
   intro y hy;simp at hy;rcases hy with hy | rfl
   · exact hl.OU y hy
   · exact Lp,by
   intro y hy;simp at hy;rcases hy with hy | rfl
   · exact hl.nm y hy
   · exact vY nm (bz hnm)⟩,hj6,?_⟩
 have tn:=hT.norm
 have tsh:=hT.shift
 have tl:=hT.take
 have g1:=CL (L:=L) (k:=k) (bs:=bs) (j:=j6)
 have g2:=Kx (L:=L) (k:=k) (bs:=bs) (j:=j6) (F:=bY Bd.cells (bs++[kQ nm r4 r2 x e]))
 have g3:=Ky (L:=L) (k:=k) (bs:=bs) (j:=j6)
 have hfl:bY Bd.cells (bs++[kQ nm r4 r2 x e])=bY Bd.cells bs++(kQ nm r4 r2 x e).cells.map .pv:=by rw [qe];simp [bY]
 have ec:=Ex.bS e
 have bc:(kQ nm r4 r2 x e).cells=[vI 0,.bool (decide (r4=1)),.str nm,.bool (decide (r2=0)),vI (if r2=0 then x else bW).kind,.str (if r2=0 then x else bW).name,vI (if r2=0 then x else bW).id,vI (if r2=0 then x else bW).home,.aJ ((if r2=0 then x else bW).args.map Ty.pv)]++e.cells:=rfl
 have r1:(bY Bd.cells bs).length=bs.length*20:=d3 lN
 have r2':dC (bY Bd.cells bs)=false:=eu cI
 have r3':(bY Bd.cells bs).take (bs.length*20)=bY Bd.cells bs:=List.take_of_length_le (by omega)
 have hb2:(bs.length+1)*256≤140737488355328:=by omega
 have hi':(i:Int)<N:=by omega
 have hq:bP (qq L (k+1) (bs++[kQ nm r4 r2 x e]) j6):=(jh (L:=L) (k:=k+1) (bs:=bs++[kQ nm r4 r2 x e])).quiet j6
 have tn2:=hq.norm
 have sheq:qq L (k+1) (bs++[kQ nm r4 r2 x e]) j6=(qq L k bs j6).set (1+k) none++[some (bY Bd.cells bs++(kQ nm r4 r2 x e).cells.map .pv)]:=by rw [←hfl,g2];rfl
 rw [sheq] at tn2 ⊢
 rw [bc] at tn2 ⊢
 generalize bY Bd.cells bs=F at *
 have tA:A.take 11=A:=List.take_of_length_le (by rw [hA.len];omega)
 generalize hTP:qq L k bs=TP at *
 clear g2 hfl sheq
 generalize hS1:(TP j6).set (1+k) none=S1 at *
 rw [ec]
 rw [ec] at tn2
 simp [Ty.av] at e1 k0 e2 e3 e5 k1 k2 k3 k4 e6 k5 k6 k7 k8 k9
 by_cases h4:r4=1
 · by_cases h3:r3=0
   · simp [h3,Ty.av] at e4 e3
     by_cases h2:r2=0
     · simp [h4,h2,bW] at e1 e5 e6 hc tn2
       subst hc
       try simp at k9
       conv=>lhs;rw [g306L0e]
       simp (disch:=omega) [-getElem?_pos,g306B0,hi',hnm',e1,k0,e2,e3,e4,e5,k1,k2,k3,k4,e6,k5,k6,k7,k8,k9,h4,h3,h2,tn,tsh,tl,g1,g3,r1,r2',r3',hb2,tn2,aA,aK,hA.dO,hA.flat,hA.iy,hA.len,hA.leaf,tA,ec,hS1,bW]
     · have h2b:(r2 == 0)=false:=by simpa using h2
       simp [h4,h2,bW] at e1 e5 e6 hc tn2
       cases b10
       · cases b11
         · simp at hc
           subst hc
           try simp at k9
           conv=>lhs;rw [g306L0e]
           simp (disch:=omega) [-getElem?_pos,g306B0,hi',hnm',e1,k0,e2,e3,e4,e5,k1,k2,k3,k4,e6,k5,k6,k7,k8,k9,h4,h3,h2,h2b,tn,tsh,tl,g1,g3,r1,r2',r3',hb2,tn2,aA,aK,hA.dO,hA.flat,hA.iy,hA.len,hA.leaf,tA,ec,hS1,bW]
         · simp at hc
           subst hc
           simp [bA] at k7 k8 k9
           conv=>lhs;rw [g306L0e]
           simp (disch:=omega) [-getElem?_pos,g306B0,hi',hnm',e1,k0,e2,e3,e4,e5,k1,k2,k3,k4,e6,k5,k6,k7,k8,k9,h4,h3,h2,h2b,tn,tsh,tl,g1,g3,r1,r2',r3',hb2,tn2,aA,aK,hA.dO,hA.flat,hA.iy,hA.len,hA.leaf,tA,ec,hS1,bW,bA]
       · simp at hc
         subst hc
         simp [bA] at k7 k8 k9
         conv=>lhs;rw [g306L0e]
         simp (disch:=omega) [-getElem?_pos,g306B0,hi',hnm',e1,k0,e2,e3,e4,e5,k1,k2,k3,k4,e6,k5,k6,k7,k8,k9,h4,h3,h2,h2b,tn,tsh,tl,g1,g3,r1,r2',r3',hb2,tn2,aA,aK,hA.dO,hA.flat,hA.iy,hA.len,hA.leaf,tA,ec,hS1,bW,bA]
   · simp [h3] at e4
     obtain ⟨rfl,rfl⟩:=e4
     by_cases h2:r2=0
     · simp [h4,h2,bW] at e1 e5 e6 hc tn2
       subst hc
       try simp at k9
       conv=>lhs;rw [g306L0e]
       simp (disch:=omega) [-getElem?_pos,g306B0,hi',hnm',e1,k0,e2,e3,e5,k1,k2,k3,k4,e6,k5,k6,k7,k8,k9,h4,h3,h2,tn,tsh,tl,g1,g3,r1,r2',r3',hb2,tn2,aA,aK,hA.dO,hA.flat,hA.iy,hA.len,hA.leaf,tA,ec,hS1,bW]
     · have h2b:(r2 == 0)=false:=by simpa using h2
       simp [h4,h2,bW] at e1 e5 e6 hc tn2
       cases b10
       · cases b11
         · simp at hc
           subst hc
           try simp at k9
           conv=>lhs;rw [g306L0e]
           simp (disch:=omega) [-getElem?_pos,g306B0,hi',hnm',e1,k0,e2,e3,e5,k1,k2,k3,k4,e6,k5,k6,k7,k8,k9,h4,h3,h2,h2b,tn,tsh,tl,g1,g3,r1,r2',r3',hb2,tn2,aA,aK,hA.dO,hA.flat,hA.iy,hA.len,hA.leaf,tA,ec,hS1,bW]
         · simp at hc
           subst hc
           simp [bA] at k7 k8 k9
           conv=>lhs;rw [g306L0e]
           simp (disch:=omega) [-getElem?_pos,g306B0,hi',hnm',e1,k0,e2,e3,e5,k1,k2,k3,k4,e6,k5,k6,k7,k8,k9,h4,h3,h2,h2b,tn,tsh,tl,g1,g3,r1,r2',r3',hb2,tn2,aA,aK,hA.dO,hA.flat,hA.iy,hA.len,hA.leaf,tA,ec,hS1,bW,bA]
       · simp at hc
         subst hc
         simp [bA] at k7 k8 k9
         conv=>lhs;rw [g306L0e]
         simp (disch:=omega) [-getElem?_pos,g306B0,hi',hnm',e1,k0,e2,e3,e5,k1,k2,k3,k4,e6,k5,k6,k7,k8,k9,h4,h3,h2,h2b,tn,tsh,tl,g1,g3,r1,r2',r3',hb2,tn2,aA,aK,hA.dO,hA.flat,hA.iy,hA.len,hA.leaf,tA,ec,hS1,bW,bA]
 · have h4b:(r4 == 1)=false:=by simpa using h4
   by_cases h3:r3=0
   · simp [h3,Ty.av] at e4 e3
     by_cases h2:r2=0
     · simp [h4,h2,bW] at e1 e5 e6 hc tn2
       subst hc
       try simp at k9
       conv=>lhs;rw [g306L0e]
       simp (disch:=omega) [-getElem?_pos,g306B0,hi',hnm',e1,k0,e2,e3,e4,e5,k1,k2,k3,k4,e6,k5,k6,k7,k8,k9,h4,h3,h2,h4b,tn,tsh,tl,g1,g3,r1,r2',r3',hb2,tn2,aA,aK,hA.dO,hA.flat,hA.iy,hA.len,hA.leaf,tA,ec,hS1,bW]
     · have h2b:(r2 == 0)=false:=by simpa using h2
       simp [h4,h2,bW] at e1 e5 e6 hc tn2
       cases b10
       · cases b11
         · simp at hc
           subst hc
           try simp at k9
           conv=>lhs;rw [g306L0e]
           simp (disch:=omega) [-getElem?_pos,g306B0,hi',hnm',e1,k0,e2,e3,e4,e5,k1,k2,k3,k4,e6,k5,k6,k7,k8,k9,h4,h3,h2,h2b,h4b,tn,tsh,tl,g1,g3,r1,r2',r3',hb2,tn2,aA,aK,hA.dO,hA.flat,hA.iy,hA.len,hA.leaf,tA,ec,hS1,bW]
         · simp at hc
           subst hc
           simp [bA] at k7 k8 k9
           conv=>lhs;rw [g306L0e]
           simp (disch:=omega) [-getElem?_pos,g306B0,hi',hnm',e1,k0,e2,e3,e4,e5,k1,k2,k3,k4,e6,k5,k6,k7,k8,k9,h4,h3,h2,h2b,h4b,tn,tsh,tl,g1,g3,r1,r2',r3',hb2,tn2,aA,aK,hA.dO,hA.flat,hA.iy,hA.len,hA.leaf,tA,ec,hS1,bW,bA]
       · simp at hc
         subst hc
         simp [bA] at k7 k8 k9
         conv=>lhs;rw [g306L0e]
         simp (disch:=omega) [-getElem?_pos,g306B0,hi',hnm',e1,k0,e2,e3,e4,e5,k1,k2,k3,k4,e6,k5,k6,k7,k8,k9,h4,h3,h2,h2b,h4b,tn,tsh,tl,g1,g3,r1,r2',r3',hb2,tn2,aA,aK,hA.dO,hA.flat,hA.iy,hA.len,hA.leaf,tA,ec,hS1,bW,bA]
   · simp [h3] at e4
     obtain ⟨rfl,rfl⟩:=e4
     by_cases h2:r2=0
     · simp [h4,h2,bW] at e1 e5 e6 hc tn2
       subst hc
       try simp at k9
       conv=>lhs;rw [g306L0e]
       simp (disch:=omega) [-getElem?_pos,g306B0,hi',hnm',e1,k0,e2,e3,e5,k1,k2,k3,k4,e6,k5,k6,k7,k8,k9,h4,h3,h2,h4b,tn,tsh,tl,g1,g3,r1,r2',r3',hb2,tn2,aA,aK,hA.dO,hA.flat,hA.iy,hA.len,hA.leaf,tA,ec,hS1,bW]
     · have h2b:(r2 == 0)=false:=by simpa using h2
       simp [h4,h2,bW] at e1 e5 e6 hc tn2
       cases b10
       · cases b11
         · simp at hc
           subst hc
           try simp at k9
           conv=>lhs;rw [g306L0e]
           simp (disch:=omega) [-getElem?_pos,g306B0,hi',hnm',e1,k0,e2,e3,e5,k1,k2,k3,k4,e6,k5,k6,k7,k8,k9,h4,h3,h2,h2b,h4b,tn,tsh,tl,g1,g3,r1,r2',r3',hb2,tn2,aA,aK,hA.dO,hA.flat,hA.iy,hA.len,hA.leaf,tA,ec,hS1,bW]
         · simp at hc
           subst hc
           simp [bA] at k7 k8 k9
           conv=>lhs;rw [g306L0e]
           simp (disch:=omega) [-getElem?_pos,g306B0,hi',hnm',e1,k0,e2,e3,e5,k1,k2,k3,k4,e6,k5,k6,k7,k8,k9,h4,h3,h2,h2b,h4b,tn,tsh,tl,g1,g3,r1,r2',r3',hb2,tn2,aA,aK,hA.dO,hA.flat,hA.iy,hA.len,hA.leaf,tA,ec,hS1,bW,bA]
       · simp at hc
         subst hc
         simp [bA] at k7 k8 k9
         conv=>lhs;rw [g306L0e]
         simp (disch:=omega) [-getElem?_pos,g306B0,hi',hnm',e1,k0,e2,e3,e5,k1,k2,k3,k4,e6,k5,k6,k7,k8,k9,h4,h3,h2,h2b,h4b,tn,tsh,tl,g1,g3,r1,r2',r3',hb2,tn2,aA,aK,hA.dO,hA.flat,hA.iy,hA.len,hA.leaf,tA,ec,hS1,bW,bA]
end Go.Ab.Lw
namespace Go.Ab.Lw
open Ev
theorem CN {L:List Int}:Tape L 0 (tp L) where
 get:=fun i=>by simp
 set:=fun i j=>by simp
 quiet:=fun i=>bP.one (by intro v hv;simp at hv;rcases hv with rfl | rfl<;>exact ⟨_,rfl⟩)
theorem O2 {L:List Int} (hL:Sm L) {ds:List Dt} (hD:s_ ds) {N:Nat} (h0:0<N) (hN:N≤4) {j:Nat} (hj:j≤L.length):∃(b:Bd) (l':List En) (j':Nat),oO 100 b∧Ctx 1 l'∧j'≤L.length ∧
   cl AP g306L0 ⟨[(4,.aG 4 0),(5,.bu 0 0),(6,.aG 6 0),(7,.own [] 0),(8,.pv (vI N)),(9,.pv (vI 0))],[(4,[.own [] 1,.own [] 2]),(6,[.pv (.aJ (ds.map Dt.pv)),.own [] 3])],tp L j,[0,0,0,0]⟩ =
   cl AP g306L0 ⟨[(4,.aG 4 0),(5,.bu 0 0),(6,.aG 6 0),(7,.pv (.aJ (l'.map En.pv))),(8,.pv (vI N)),(9,.pv (vI 1))],[(4,[.own [] 0,.own [] 1]),(6,[.pv (.aJ (ds.map Dt.pv)),.bI 1 20 1 true])],qq L 0 [b] j',[0,0]⟩:=by
 have hT:=CN (L:=L)
 obtain ⟨r4,r3,r2,x1,x,u,sc,c',e,A,b10,b11,j1,j2,j3,j4,j5,j6,I⟩:=O0 hT hL hD (l:=[]) ⟨by simp,by simp,by simp⟩ hj [112] (by simp)
 obtain ⟨e1,k0,e2,e3,e4,e5,k1,k2,k3,k4,e6,hA,k5,k6,k7,k8,hc,k9,Lp,ty,sx,hj6⟩:=I
 refine ⟨kQ [112] r4 r2 x e,[⟨[112],c'⟩],j6,CM (by simp) sx ty,⟨by simp,by
   intro y hy;simp at hy;subst hy
   exact Lp,by
   intro y hy;simp at hy;subst hy
   simp⟩,hj6,?_⟩
 have tn:=hT.norm
 have tsh:=hT.shift
 have tl:=hT.take
 have g3:∀i,(tp L i).length=1:=fun i=>rfl
 have ec:=Ex.bS e
 have hi':=h0
 have hz:N≠0:=by omega
 have hq:bP (qq L 0 [kQ [112] r4 r2 x e] j6):=(jh (L:=L) (k:=0) (bs:=[kQ [112] r4 r2 x e])).quiet j6
 have tn2:=hq.norm
 have bc:(kQ [112] r4 r2 x e).cells=[vI 0,.bool (decide (r4=1)),.str [112],.bool (decide (r2=0)),vI (if r2=0 then x else bW).kind,.str (if r2=0 then x else bW).name,vI (if r2=0 then x else bW).id,vI (if r2=0 then x else bW).home,.aJ ((if r2=0 then x else bW).args.map Ty.pv)]++e.cells:=rfl
 have sheq:qq L 0 [kQ [112] r4 r2 x e] j6=tp L j6++[some ((kQ [112] r4 r2 x e).cells.map .pv)]:=by simp [qq,nn,bY]
 rw [sheq] at tn2 ⊢
 rw [bc] at tn2 ⊢
 generalize tp L=TP at *
 have tA:A.take 11=A:=List.take_of_length_le (by rw [hA.len];omega)
 clear sheq
 rw [ec]
 rw [ec] at tn2
 simp [Ty.av] at e1 k0 e2 e3 e5 k1 k2 k3 k4 e6 k5 k6 k7 k8 k9
 by_cases h4:r4=1
 · by_cases h3:r3=0
   · simp [h3,Ty.av] at e4 e3
     by_cases h2:r2=0
     · simp [h4,h2,bW] at e1 e5 e6 hc tn2
       subst hc
       try simp at k9
       conv=>lhs;rw [g306L0e]
       simp (disch:=omega) [-getElem?_pos,g306B0,hi',hz,e1,k0,e2,e3,e4,e5,k1,k2,k3,k4,e6,k5,k6,k7,k8,k9,h4,h3,h2,tn,tsh,tl,g3,tn2,aA,aK,hA.dO,hA.flat,hA.iy,hA.len,hA.leaf,tA,ec,bW]
       conv=>lhs;rw [g306L0e]
       conv=>rhs;rw [g306L0e]
       simp [h4,h2,tn2,bW]
     · have h2b:(r2 == 0)=false:=by simpa using h2
       simp [h4,h2,bW] at e1 e5 e6 hc tn2
       cases b10
       · cases b11
         · simp at hc
           subst hc
           try simp at k9
           conv=>lhs;rw [g306L0e]
           simp (disch:=omega) [-getElem?_pos,g306B0,hi',hz,e1,k0,e2,e3,e4,e5,k1,k2,k3,k4,e6,k5,k6,k7,k8,k9,h4,h3,h2,h2b,tn,tsh,tl,g3,tn2,aA,aK,hA.dO,hA.flat,hA.iy,hA.len,hA.leaf,tA,ec,bW]
           conv=>lhs;rw [g306L0e]
           conv=>rhs;rw [g306L0e]
           simp [h4,h2,h2b,tn2,bW]
         · simp at hc
           subst hc
           simp [bA] at k7 k8 k9
           conv=>lhs;rw [g306L0e]
           simp (disch:=omega) [-getElem?_pos,g306B0,hi',hz,e1,k0,e2,e3,e4,e5,k1,k2,k3,k4,e6,k5,k6,k7,k8,k9,h4,h3,h2,h2b,tn,tsh,tl,g3,tn2,aA,aK,hA.dO,hA.flat,hA.iy,hA.len,hA.leaf,tA,ec,bW,bA]
           conv=>lhs;rw [g306L0e]
           conv=>rhs;rw [g306L0e]
           simp [h4,h2,h2b,tn2,bW]
       · simp at hc
         subst hc
         simp [bA] at k7 k8 k9
         conv=>lhs;rw [g306L0e]
         simp (disch:=omega) [-getElem?_pos,g306B0,hi',hz,e1,k0,e2,e3,e4,e5,k1,k2,k3,k4,e6,k5,k6,k7,k8,k9,h4,h3,h2,h2b,tn,tsh,tl,g3,tn2,aA,aK,hA.dO,hA.flat,hA.iy,hA.len,hA.leaf,tA,ec,bW,bA]
         conv=>lhs;rw [g306L0e]
         conv=>rhs;rw [g306L0e]
         simp [h4,h2,h2b,tn2,bW]
   · simp [h3] at e4
     obtain ⟨rfl,rfl⟩:=e4
     by_cases h2:r2=0
     · simp [h4,h2,bW] at e1 e5 e6 hc tn2
       subst hc
       try simp at k9
       conv=>lhs;rw [g306L0e]
       simp (disch:=omega) [-getElem?_pos,g306B0,hi',hz,e1,k0,e2,e3,e5,k1,k2,k3,k4,e6,k5,k6,k7,k8,k9,h4,h3,h2,tn,tsh,tl,g3,tn2,aA,aK,hA.dO,hA.flat,hA.iy,hA.len,hA.leaf,tA,ec,bW]
       conv=>lhs;rw [g306L0e]
       conv=>rhs;rw [g306L0e]
       simp [h4,h2,tn2,bW]
     · have h2b:(r2 == 0)=false:=by simpa using h2
       simp [h4,h2,bW] at e1 e5 e6 hc tn2
       cases b10
       · cases b11
         · simp at hc
           subst hc
           try simp at k9
           conv=>lhs;rw [g306L0e]
           simp (disch:=omega) [-getElem?_pos,g306B0,hi',hz,e1,k0,e2,e3,e5,k1,k2,k3,k4,e6,k5,k6,k7,k8,k9,h4,h3,h2,h2b,tn,tsh,tl,g3,tn2,aA,aK,hA.dO,hA.flat,hA.iy,hA.len,hA.leaf,tA,ec,bW]
           conv=>lhs;rw [g306L0e]
           conv=>rhs;rw [g306L0e]
           simp [h4,h2,h2b,tn2,bW]
         · simp at hc
           subst hc
           simp [bA] at k7 k8 k9
           conv=>lhs;rw [g306L0e]
           simp (disch:=omega) [-getElem?_pos,g306B0,hi',hz,e1,k0,e2,e3,e5,k1,k2,k3,k4,e6,k5,k6,k7,k8,k9,h4,h3,h2,h2b,tn,tsh,tl,g3,tn2,aA,aK,hA.dO,hA.flat,hA.iy,hA.len,hA.leaf,tA,ec,bW,bA]
           conv=>lhs;rw [g306L0e]
           conv=>rhs;rw [g306L0e]
           simp [h4,h2,h2b,tn2,bW]
       · simp at hc
         subst hc
         simp [bA] at k7 k8 k9
         conv=>lhs;rw [g306L0e]
         simp (disch:=omega) [-getElem?_pos,g306B0,hi',hz,e1,k0,e2,e3,e5,k1,k2,k3,k4,e6,k5,k6,k7,k8,k9,h4,h3,h2,h2b,tn,tsh,tl,g3,tn2,aA,aK,hA.dO,hA.flat,hA.iy,hA.len,hA.leaf,tA,ec,bW,bA]
         conv=>lhs;rw [g306L0e]
         conv=>rhs;rw [g306L0e]
         simp [h4,h2,h2b,tn2,bW]
 · have h4b:(r4 == 1)=false:=by simpa using h4
   by_cases h3:r3=0
   · simp [h3,Ty.av] at e4 e3
     by_cases h2:r2=0
     · simp [h4,h2,bW] at e1 e5 e6 hc tn2
       subst hc
       try simp at k9
       conv=>lhs;rw [g306L0e]
       simp (disch:=omega) [-getElem?_pos,g306B0,hi',hz,e1,k0,e2,e3,e4,e5,k1,k2,k3,k4,e6,k5,k6,k7,k8,k9,h4,h3,h2,h4b,tn,tsh,tl,g3,tn2,aA,aK,hA.dO,hA.flat,hA.iy,hA.len,hA.leaf,tA,ec,bW]
       conv=>lhs;rw [g306L0e]
       conv=>rhs;rw [g306L0e]
       simp [h4,h2,h4b,tn2,bW]
     · have h2b:(r2 == 0)=false:=by simpa using h2
       simp [h4,h2,bW] at e1 e5 e6 hc tn2
       cases b10
       · cases b11
         · simp at hc
           subst hc
           try simp at k9
           conv=>lhs;rw [g306L0e]
           simp (disch:=omega) [-getElem?_pos,g306B0,hi',hz,e1,k0,e2,e3,e4,e5,k1,k2,k3,k4,e6,k5,k6,k7,k8,k9,h4,h3,h2,h2b,h4b,tn,tsh,tl,g3,tn2,aA,aK,hA.dO,hA.flat,hA.iy,hA.len,hA.leaf,tA,ec,bW]
           conv=>lhs;rw [g306L0e]
           conv=>rhs;rw [g306L0e]
           simp [h4,h2,h2b,h4b,tn2,bW]
         · simp at hc
           subst hc
           simp [bA] at k7 k8 k9
           conv=>lhs;rw [g306L0e]
           simp (disch:=omega) [-getElem?_pos,g306B0,hi',hz,e1,k0,e2,e3,e4,e5,k1,k2,k3,k4,e6,k5,k6,k7,k8,k9,h4,h3,h2,h2b,h4b,tn,tsh,tl,g3,tn2,aA,aK,hA.dO,hA.flat,hA.iy,hA.len,hA.leaf,tA,ec,bW,bA]
           conv=>lhs;rw [g306L0e]
           conv=>rhs;rw [g306L0e]
           simp [h4,h2,h2b,h4b,tn2,bW]
       · simp at hc
         subst hc
         simp [bA] at k7 k8 k9
         conv=>lhs;rw [g306L0e]
         simp (disch:=omega) [-getElem?_pos,g306B0,hi',hz,e1,k0,e2,e3,e4,e5,k1,k2,k3,k4,e6,k5,k6,k7,k8,k9,h4,h3,h2,h2b,h4b,tn,tsh,tl,g3,tn2,aA,aK,hA.dO,hA.flat,hA.iy,hA.len,hA.leaf,tA,ec,bW,bA]
         conv=>lhs;rw [g306L0e]
         conv=>rhs;rw [g306L0e]
         simp [h4,h2,h2b,h4b,tn2,bW]
   · simp [h3] at e4
     obtain ⟨rfl,rfl⟩:=e4
     by_cases h2:r2=0
     · simp [h4,h2,bW] at e1 e5 e6 hc tn2
       subst hc
       try simp at k9
       conv=>lhs;rw [g306L0e]
       simp (disch:=omega) [-getElem?_pos,g306B0,hi',hz,e1,k0,e2,e3,e5,k1,k2,k3,k4,e6,k5,k6,k7,k8,k9,h4,h3,h2,h4b,tn,tsh,tl,g3,tn2,aA,aK,hA.dO,hA.flat,hA.iy,hA.len,hA.leaf,tA,ec,bW]
       conv=>lhs;rw [g306L0e]
       conv=>rhs;rw [g306L0e]
       simp [h4,h2,h4b,tn2,bW]
     · have h2b:(r2 == 0)=false:=by simpa using h2
       simp [h4,h2,bW] at e1 e5 e6 hc tn2
       cases b10
       · cases b11
         · simp at hc
           subst hc
           try simp at k9
           conv=>lhs;rw [g306L0e]
           simp (disch:=omega) [-getElem?_pos,g306B0,hi',hz,e1,k0,e2,e3,e5,k1,k2,k3,k4,e6,k5,k6,k7,k8,k9,h4,h3,h2,h2b,h4b,tn,tsh,tl,g3,tn2,aA,aK,hA.dO,hA.flat,hA.iy,hA.len,hA.leaf,tA,ec,bW]
           conv=>lhs;rw [g306L0e]
           conv=>rhs;rw [g306L0e]
           simp [h4,h2,h2b,h4b,tn2,bW]
         · simp at hc
           subst hc
           simp [bA] at k7 k8 k9
           conv=>lhs;rw [g306L0e]
           simp (disch:=omega) [-getElem?_pos,g306B0,hi',hz,e1,k0,e2,e3,e5,k1,k2,k3,k4,e6,k5,k6,k7,k8,k9,h4,h3,h2,h2b,h4b,tn,tsh,tl,g3,tn2,aA,aK,hA.dO,hA.flat,hA.iy,hA.len,hA.leaf,tA,ec,bW,bA]
           conv=>lhs;rw [g306L0e]
           conv=>rhs;rw [g306L0e]
           simp [h4,h2,h2b,h4b,tn2,bW]
       · simp at hc
         subst hc
         simp [bA] at k7 k8 k9
         conv=>lhs;rw [g306L0e]
         simp (disch:=omega) [-getElem?_pos,g306B0,hi',hz,e1,k0,e2,e3,e5,k1,k2,k3,k4,e6,k5,k6,k7,k8,k9,h4,h3,h2,h2b,h4b,tn,tsh,tl,g3,tn2,aA,aK,hA.dO,hA.flat,hA.iy,hA.len,hA.leaf,tA,ec,bW,bA]
         conv=>lhs;rw [g306L0e]
         conv=>rhs;rw [g306L0e]
         simp [h4,h2,h2b,h4b,tn2,bW]
theorem O3 {L:List Int} (hL:Sm L) {ds:List Dt} (hD:s_ ds) {N:Nat} (hN:N≤4):∀(n i:Nat),N-i=n→i≤N→∀(l:List En) (k:Nat) (bs:List Bd) (j:Nat),Ctx (900-n) l→bs.length=i→(∀b∈bs,oO 100 b)→j≤L.length→∃(l':List En) (k':Nat) (bs':List Bd) (j':Nat),bs'.length=N∧(∀b∈bs',oO 100 b)∧j'≤L.length ∧
   cl AP g306L0 ⟨[(4,.aG 4 0),(5,.bu 0 0),(6,.aG 6 0),(7,.pv (.aJ (l.map En.pv))),(8,.pv (vI N)),(9,.pv (vI i))],[(4,[.own [] 0,.own [] 1]),(6,[.pv (.aJ (ds.map Dt.pv)),.bI (1+k) 20 bs.length true])],qq L k bs j,[0,0]⟩ =
     some (.exit 0,⟨[(4,.aG 4 0),(5,.bu 0 0),(6,.aG 6 0),(7,.pv (.aJ (l'.map En.pv))),(8,.pv (vI N)),(9,.pv (vI N)),(26,.pv (.bool false))],[(4,[.own [] 0,.own [] 1]),(6,[.pv (.aJ (ds.map Dt.pv)),.bI (1+k') 20 bs'.length true])],qq L k' bs' j',[0,0]⟩)
 | 0,i,hn,hi,l,k,bs,j,hl,hb,ho,hj=>by
   have:i=N:=by omega
   subst this
   refine ⟨l,k,bs,j,hb,ho,hj,?_⟩
   have tn:=((jh (L:=L) (k:=k) (bs:=bs)).quiet j).norm
   generalize qq L k bs j=S at *
   rw [g306L0e]
   simp [g306B0,tn]
 | n+1,i,hn,hi,l,k,bs,j,hl,hb,ho,hj=>by
   obtain ⟨b,l1,j1,b1,b2,b3,e⟩:=O1 hL hD (l:=l) (N:=N) (k:=k) (hl.gR (by omega)) (by omega) hN hb hj
   have hll:=hl.len
   obtain ⟨l',k',bs',j',q1,q2,q3,e'⟩:=O3 hL hD hN n (i+1) (by omega) (by omega) l1 (k+1) (bs++[b]) j1 (b2.gR (by omega)) (by simp;omega) (by
     intro y hy;simp at hy;rcases hy with hy | rfl
     · exact ho y hy
     · exact b1) b3
   refine ⟨l',k',bs',j',q1,q2,q3,?_⟩
   rw [e]
   exact e'
end Go.Ab.Lw
namespace Go.Ab.Lw
open Ev
theorem c306 {L:List Int} (hL:Sm L) (bits:Int):∃(ds:List Dt) (bs:List Bd) (k j:Nat),s_ ds∧0<bs.length∧bs.length≤4∧(∀b∈bs,oO 100 b) ∧
   (aQ AP).i 306 [.pv (vI bits),.pv (.aJ (L.map vI))] [] []=some ([.agg [.pv (.aJ (ds.map Dt.pv)),.bI (1+k) 20 bs.length true]],qq L k bs j,[]):=by
 obtain ⟨ds,k1,d1,d2⟩:=c32 bits
 have hD:s_ ds:=⟨d1,d2⟩
 obtain ⟨r,j0,e1,r0,r1,hj0⟩:=mY (CN (L:=L)) hL (i:=0) (by omega) (n:=4) (by omega) (by omega)
 obtain ⟨r,rfl,hr⟩:=mT (n:=4) r0 (by simpa using r1)
 obtain ⟨b,l1,j1,b1,b2,b3,e2⟩:=O2 hL hD (N:=1+r) (by omega) (by omega) hj0
 obtain ⟨l',k',bs',j',q1,q2,q3,e3⟩:=O3 hL hD (N:=1+r) (by omega) _ 1 rfl (by omega) l1 0 [b] j1 (b2.gR (by omega)) rfl (by simpa using b1) b3
 refine ⟨ds,bs',k',j',hD,by omega,by omega,q2,?_⟩
 have e4:∀y,cl AP g306L0 ⟨[(4,.aG 4 0),(5,.bu 0 0),(6,.aG 6 0),(7,.own [] 0),(8,.pv (vI (1+r:Nat))),(9,.pv (vI 0))],[(4,[.own [] 1,.own [] 2]),(6,[.pv (.aJ (ds.map Dt.pv)),.own [] 3])],tp L j0,[0,0,0,0]⟩=y↔_=y:=fun y=>by rw [e2]
 have e5:=e2.trans e3
 have tn:=((jh (L:=L) (k:=k') (bs:=bs')).quiet j').norm
 have tsh:=((jh (L:=L) (k:=k') (bs:=bs')).quiet j').shift
 generalize qq L k' bs' j'=S at *
 clear e2 e3 e4
 rw [g306L0e] at e5
 have hw:(1:Int)+r=((1+r:Nat):Int):=by omega
 simp at k1 e1 e5
 rw [aT (af:=g306) rfl (by simp [g306])]
 simp (disch:=omega) [g306,k1,e1,aA,g306L0e,e5,tn,tsh]
end Go.Ab.Lw
namespace Go.Ab.Lw
open Ev
theorem MI {e:Ex} (h:yH e) {c:List Ex} (hl:c.length=e.ch.length) (hc:∀y∈c,yH y):yH (e.sG c):=by
 rw [Ex.jD] at hl
 have hch:=BJ hl
 have hk:(e.sG c).kids.length=e.kids.length:=by rw [Ex.sG,if_pos hl];simp;omega
 have ha:(e.sG c).bw.map (fun a=>(a.iR,a.vars))=e.bw.map (fun a=>(a.iR,a.vars)):=by rw [Ex.sG,if_pos hl];simp only [vR]
 have ha2:(e.sG c).bw.length=e.bw.length:=by have:=congrArg List.length ha;simpa using this
 have hkd:(e.sG c).kind=e.kind:=by rw [Ex.sG,if_pos hl]
 have hty:(e.sG c).ty=e.ty:=by rw [Ex.sG,if_pos hl]
 refine ⟨.mk (by have:=h.ok.k;omega) (by have:=h.ok.a;omega) ?_ (by rw [hty];exact h.ok.t) (by rw [hch];exact fun y hy=>(hc y hy).ok),.mk (by rw [hkd,hk];exact h.one.h) (by rw [hch];exact fun y hy=>(hc y hy).one),.mk (by rw [hty];exact h.cw.h) (by rw [hch];exact fun y hy=>(hc y hy).cw)⟩
 intro a hm
 have:(a.iR,a.vars)∈e.bw.map (fun a=>(a.iR,a.vars)):=by rw [←ha];exact List.mem_map_of_mem hm
 simp only [List.mem_map] at this
 obtain ⟨b,hb,hq⟩:=this
 have:=h.ok.v b hb
 simp at hq
 rw [←hq.2];exact this
theorem O4 {e:Ex} {c:List Ex} (hl:c.length=e.ch.length) {n:Nat} (hc:∀y∈c,y.yG n):(e.sG c).yG (n+1):=by
 rw [Ex.jD] at hl
 exact .mk (by rw [BJ hl];exact hc)
theorem O5 {sz:Nat} {l:List PV} (h1:1≤l.length) (hs:bC sz l=true):dc false sz true false false [.pv (.aJ l),.pv (.int .i64 1)]=some (.pv (.aJ (l.drop 1))):=by
 have h2:(1:Int)≤l.length:=by omega
 simp [dc,cS,eH,h2,hs]
def Ex.kL (x:Ex):List Int→Ex→Ex×Bool
 | [],_=>(x,true)
 | q::p,e=>if 0≤q∧q<e.ch.length then match e.ch[q.toNat]? with
     | some c=>match Ex.kL x p c with
       | (y,true)=>(e.sG (e.ch.set q.toNat y),true)
       | (_,false)=>(e,false)
     | none=>(e,false)
   else (e,false)
theorem c359f {x:Ex}:∀(p:List Int) (e:Ex),p.length<1000000→yH e→(aQ AP).p 359 [e.pv,.aJ (p.map vI),x.pv]=some [(Ex.kL x p e).1.pv,.bool (Ex.kL x p e).2]
 | [],e,hp,he=>by
   rw [aw (af:=g359) rfl rfl (by decide)]
   simp [g359,Ex.kL]
 | q::p,e,hp,he=>by
   have hk:=he.ok.k
   have ha:=he.ok.a
   have hlen:=Ex.jD (e:=e)
   have hz:¬(p.length:Int)+1=0:=by omega
   simp at hp
   have no:(q<0∨e.ch.length≤q)→(aQ AP).p 359 [e.pv,.aJ ((q::p).map vI),x.pv]=some [e.pv,.bool false]:=by
     intro hq
     obtain ⟨k0,c1⟩:=c145i (e:=e) (A:=.pv (.aJ (e.bw.map Ar.pv))) hk ha (X:=[]) (by intro cs h;simp at h) (.inl rfl)
     have cj:=c145j (e:=e) (X:=[])
     rw [c1] at cj
     clear c1
     by_cases z:e.ch=[]
     · rw [if_pos z] at cj
       have z0:e.ch.length=0:=by rw [z];rfl
       simp at cj
       rw [aw (af:=g359) rfl rfl (by decide)]
       by_cases q0:q<0
       · simp [g359,hz,cj,q0]
       · have q1:0≤q:=by omega
         simp [g359,hz,cj,q0,q1]
     · rw [if_neg z] at cj
       have hqn:=((eJ k0).app (bP.one (cI (f:=Ex.cells) (l:=e.ch)))).norm
       have hqs:=((eJ k0).app (bP.one (cI (f:=Ex.cells) (l:=e.ch)))).shift
       simp only [List.nil_append,List.length_nil,Nat.zero_add] at cj
       generalize nn k0++[some (bY Ex.cells e.ch)]=S0 at *
       simp at cj
       rw [aw (af:=g359) rfl rfl (by decide)]
       by_cases q0:q<0
       · simp [g359,hz,cj,q0,hqn,hqs]
       · have q1:(e.ch.length:Int)≤q:=by omega
         simp [g359,hz,cj,q0,q1,hqn,hqs]
   by_cases hq:0≤q∧q<e.ch.length
   · obtain ⟨q0,q1⟩:=hq
     obtain ⟨i,rfl⟩:∃i:Nat,q=i:=⟨q.toNat,by omega⟩
     have hi:i<e.ch.length:=by omega
     obtain ⟨c,hc⟩:=bO hi
     have hcm:=bz hc
     have k1:=c359f (x:=x) p c (by omega) (he.c hcm)
     generalize hpr:Ex.kL x p c=yb at k1
     obtain ⟨y,b⟩:=yb
     have hR:Ex.kL x ((i:Int)::p) e=if b=true then (e.sG (e.ch.set i y),true) else (e,false):=by
       rw [Ex.kL,if_pos ⟨q0,q1⟩,Int.toNat_natCast,hc]
       simp only [hpr]
       cases b<;>rfl
     rw [hR]
     clear hR
     have z:¬e.ch=[]:=by intro z;rw [z] at hi;simp at hi
     obtain ⟨k0,c1⟩:=c145i (e:=e) (A:=.pv (.aJ (e.bw.map Ar.pv))) hk ha (X:=[]) (by intro cs h;simp at h) (.inl rfl)
     have cj:=c145j (e:=e) (X:=[])
     rw [c1,if_neg z] at cj
     clear c1
     have hqn:=((eJ k0).app (bP.one (cI (f:=Ex.cells) (l:=e.ch)))).norm
     have hqs:=((eJ k0).app (bP.one (cI (f:=Ex.cells) (l:=e.ch)))).shift
     have hqn1:=((eJ k0).app (bP.one (cI (f:=Ex.cells) (l:=e.ch.set i y)))).norm
     simp only [List.nil_append,List.length_nil,Nat.zero_add] at cj
     have hget:=qf eg hc (o:=0) (k:=11) (by omega)
     have ht:(((c.cells.drop 0).take 11).map AV.pv)=c.cl:=by
       rw [List.drop_zero,List.take_of_length_le (by rw [eg.len];omega),Ex.sa]
     rw [ht,Nat.add_zero] at hget
     have hset:=qg eg hc (y:=y) (o:=0) (vs:=y.cells) (by rw [eg.len];omega) (by
       have h1:=eg.len c
       have h2:=eg.len y
       simp [h1,h2])
     rw [Ex.sa,Nat.add_zero] at hset
     have hB:dC (bY Ex.cells e.ch)=false:=eu cI
     have hlen2:(bY Ex.cells e.ch).length=e.ch.length*11:=d3 eg
     have hle:i*11+11≤e.ch.length*11:=by omega
     have hs1:(nn k0++[some (bY Ex.cells e.ch)])[k0]?=some (some (bY Ex.cells e.ch)):=by simp
     have hs2:(nn k0++[some (bY Ex.cells e.ch)]).set k0 (some (bY Ex.cells (e.ch.set i y)))=nn k0++[some (bY Ex.cells (e.ch.set i y))]:=by simp
     have hs3:(nn k0++[some (bY Ex.cells (e.ch.set i y))])[k0]?=some (some (bY Ex.cells (e.ch.set i y))):=by simp
     have hlst:=BD (l:=e.ch.set i y)
     have hlen3:(bY Ex.cells (e.ch.set i y)).length=e.ch.length*11:=by rw [d3 eg,List.length_set]
     rw [List.length_set] at hlst
     have c2:=c374 (e:=e) hk ha (c:=e.ch.set i y)
     have hsl:=O5 (sz:=1) (l:=(((i:Int)::p).map vI)) (by simp) (kt.head _)
     cases b with
     | false=>
       rw [if_neg (by simp)]
       generalize nn k0++[some (bY Ex.cells (e.ch.set i y))]=S1 at *
       generalize nn k0++[some (bY Ex.cells e.ch)]=S0 at *
       generalize bY Ex.cells (e.ch.set i y)=T1 at *
       generalize bY Ex.cells e.ch=T at *
       simp at cj k1 hsl
       simp [Ex.cl] at hget
       rw [aw (af:=g359) rfl rfl (by decide)]
       simp (disch:=omega) [-getElem?_pos,g359,hz,cj,q1,hi,hqn,hqs,hsl,hs1,hB,hlen2,hle,hget,k1]
     | true=>
       rw [if_pos rfl]
       generalize e.sG (e.ch.set i y)=Y at *
       generalize nn k0++[some (bY Ex.cells (e.ch.set i y))]=S1 at *
       generalize nn k0++[some (bY Ex.cells e.ch)]=S0 at *
       generalize bY Ex.cells (e.ch.set i y)=T1 at *
       generalize bY Ex.cells e.ch=T at *
       simp at cj k1 hsl c2 hlst
       simp [Ex.cl] at hget hset
       rw [aw (af:=g359) rfl rfl (by decide)]
       simp (disch:=omega) [-getElem?_pos,g359,hz,cj,q1,hi,hqn,hqs,hqn1,hsl,hs1,hs2,hs3,hB,hlen2,hlen3,hle,hget,k1,hset,hlst,c2]
   · rw [Ex.kL,if_neg hq]
     exact no (by omega)
theorem MJ {e:Ex} {c:List Ex} (hl:c.length=e.ch.length):(e.sG c).sz=1+(c.map Ex.sz).sum:=by
 rw [Ex.jD] at hl
 rw [Ex.pI,BJ hl]
theorem MK {e:Ex} (h:l7 e) {c:List Ex} (hl:c.length=e.ch.length) (hc:∀y∈c,l7 y):l7 (e.sG c):=by
 rw [Ex.jD] at hl
 have hw:e.sG c=⟨e.kind,e.pos,e.name,e.num,c.take e.kids.length,jj e.bw (c.drop e.kids.length),e.ty⟩:=by rw [Ex.sG,if_pos hl]
 have hno:e.bw=[]→jj e.bw (c.drop e.kids.length)=[]:=by intro q;rw [q];rfl
 have one:∀{a:Ex},e.kids=[a]→e.bw=[]→∃y∈c,c.take e.kids.length=[y]:=by
   intro a q1 q2
   rw [q1,q2] at hl
   match c,hl with
   | [y],_=>exact ⟨y,by simp,by rw [q1];rfl⟩
 have two:∀{a b:Ex},e.kids=[a,b]→e.bw=[]→∃y∈c,∃z∈c,c.take e.kids.length=[y,z]:=by
   intro a b q1 q2
   rw [q1,q2] at hl
   match c,hl with
   | [y,z],_=>exact ⟨y,by simp,z,by simp,by rw [q1];rfl⟩
 rw [hw]
 cases h with
 | leaf h1 h2 h3=>exact .leaf h1 (by simp [h2]) (hno h3)
 | lam h1 h2 h3 h4 _=>
   obtain ⟨y,hy,q⟩:=one h3 h4
   exact .lam h1 h2 q (hno h4) (hc y hy)
 | app h1 h2 h3 _ _=>
   obtain ⟨y,hy,z,hz,q⟩:=two h2 h3
   exact .app h1 q (hno h3) (hc y hy) (hc z hz)
 | yB h1 h2 h3 h4 _ _=>
   obtain ⟨y,hy,z,hz,q⟩:=two h3 h4
   exact .yB h1 h2 q (hno h4) (hc y hy) (hc z hz)
 | KR h1 h2 h3 h4 h5 _=>
   obtain ⟨y,hy,q⟩:=one h2 h3
   exact .KR h1 q (hno h3) h4 h5 (hc y hy)
 | held h1 h2 h3 _=>
   obtain ⟨y,hy,q⟩:=one h2 h3
   exact .held h1 q (hno h3) (hc y hy)
 | @se _ a h1 h2 h3 h4 h5 h6=>
   rw [h2] at hl ⊢
   match c,hl with
   | [],hl=>simp at hl;omega
   | y::r,hl=>
     have hlr:r.length=e.bw.length:=by simp at hl;omega
     have hcv:=vR (as:=e.bw) (xs:=r)
     have hlen:(jj e.bw r).length=e.bw.length:=by have:=congrArg List.length hcv;simpa using this
     refine .se h1 rfl (hc y (by simp)) (by simp only [List.length_singleton,List.drop_succ_cons,List.drop_zero];omega) ?_ ?_
     · intro x hx
       simp only [List.length_singleton,List.drop_succ_cons,List.drop_zero] at hx
       have:(x.iR,x.vars)∈e.bw.map (fun a=>(a.iR,a.vars)):=by rw [←hcv];exact List.mem_map_of_mem hx
       simp only [List.mem_map] at this
       obtain ⟨b,hb,hq⟩:=this
       simp at hq
       rw [←hq.1,←hq.2]
       exact h5 b hb
     · intro x hx
       simp only [List.length_singleton,List.drop_succ_cons,List.drop_zero] at hx
       have hb:=lI hlr
       have:x.body∈(jj e.bw r).map ev.body:=List.mem_map_of_mem hx
       rw [hb] at this
       exact hc _ (List.mem_cons_of_mem _ this)
theorem KA {l:List Ex} {i:Nat} {c y:Ex} (h:l[i]?=some c):((l.set i y).map Ex.sz).sum+c.sz=(l.map Ex.sz).sum+y.sz:=by
 induction l generalizing i with
 | nil=>simp at h
 | cons a r ih=>
   cases i with
   | zero=>simp at h;subst h;simp;omega
   | succ i=>
     have:=ih (i:=i) (by simpa using h)
     simp only [List.set_cons_succ,List.map_cons,List.sum_cons]
     omega
theorem CO {x:Ex} (hx:yH x) {m:Nat} (hm:x.yG m):∀(p:List Int) (e:Ex) (n:Nat),yH e→e.yG n →
   yH (Ex.kL x p e).1∧(Ex.kL x p e).1.yG (n+m)∧(l7 x→l7 e→l7 (Ex.kL x p e).1)∧(Ex.kL x p e).1.sz≤e.sz+x.sz
 | [],e,n,he,hh=>⟨hx,jF hm (by omega),fun h _=>h,by simp only [Ex.kL];omega⟩
 | q::p,e,n,he,hh=>by
   have stay:yH e∧e.yG (n+m)∧(l7 x→l7 e→l7 e)∧e.sz≤e.sz+x.sz:=⟨he,jF hh (by omega),fun _ h=>h,by omega⟩
   rw [Ex.kL]
   split
   · rename_i hq
     split
     · rename_i c hc
       have hcm:=bz hc
       cases hh with
       | @mk n _ hh=>
         obtain ⟨h1,h2,h3,h4⟩:=CO hx hm p c n (he.c hcm) (hh c hcm)
         split
         · rename_i y hy
           rw [hy] at h1 h2 h3 h4
           have hcl:(e.ch.set q.toNat y).length=e.ch.length:=by simp
           have hce:∀w∈e.ch.set q.toNat y,yH w:=by
             intro w hw
             rcases List.mem_or_eq_of_mem_set hw with hw | rfl
             · exact he.c hw
             · exact h1
           have hch:∀w∈e.ch.set q.toNat y,w.yG (n+m):=by
             intro w hw
             rcases List.mem_or_eq_of_mem_set hw with hw | rfl
             · exact jF (hh w hw) (by omega)
             · exact h2
           refine ⟨MI he hcl hce,by rw [show n+1+m=n+m+1 by omega];exact O4 hcl hch,fun tx te=>MK te hcl ?_,?_⟩
           · intro w hw
             rcases List.mem_or_eq_of_mem_set hw with hw | rfl
             · exact te.c w hw
             · exact h3 tx (te.c c hcm)
           · have:=KA (y:=y) hc
             simp only
             rw [MJ hcl,e.pI]
             simp only at h4
             omega
         · exact stay
     · exact stay
   · exact stay
theorem c359 {x:Ex} (hx:yH x) {m:Nat} (hm:x.yG m) (p:List Int) (e:Ex) (n:Nat) (hp:p.length<1000000) (he:yH e) (hh:e.yG n):∃(y:Ex) (b:Bool),(aQ AP).p 359 [e.pv,.aJ (p.map vI),x.pv]=some [y.pv,.bool b]∧yH y∧y.yG (n+m)∧(l7 x→l7 e→l7 y)∧y.sz≤e.sz+x.sz:=
 ⟨_,_,c359f p e hp he,CO hx hm p e n he hh⟩
end Go.Ab.Lw
namespace Go.Ab.Lw
open Ev
theorem gg.Qr {ds:List Dt} (hD:s_ ds) {n:Nat} {e:Ex} (h:gg ds n e):uo (12*(n+1)) e:=by
 have hD8:∀d∈ds,D8 d:=fun d hd=>H7 d (hD.all d hd)
 have hdn:∀d∈ds,d.name.length≤100:=fun d hd=>(kA d (hD.all d hd)).1
 induction h with
 | var hs=>exact (ez (.inl ⟨.inl rfl,fy _ hs⟩)).up (by omega)
 | int h0 h4=>exact (ez (.inr (.inl ⟨rfl,h0,h4⟩))).up (by omega)
 | iR hd hc=>exact (ez (.inl ⟨.inr rfl,(kA _ (hD.all _ hd)).2 _ hc⟩)).up (by omega)
 | gone=>exact (ez (.inl ⟨.inr rfl,by simp⟩)).up (by omega)
 | hole=>exact (ez (.inr (.inr rfl))).up (by omega)
 | lam hs _ ih=>exact fm (by decide) (by simp) iF iG (by simpa using ih) (.lam rfl (fy _ hs) rfl rfl ih.tx)
 | app _ _ iha ihb=>exact fm (by decide) (by simp) iF iG (by simpa using ⟨iha,ihb⟩) (.app rfl rfl rfl iha.tx ihb.tx)
 | yB hk hs _ _ iha ihb=>exact fm (by rcases hk with rfl | rfl<;>decide) (by simp) iF iG (by simpa using ⟨iha,ihb⟩) (.yB hk (fy _ hs) rfl rfl iha.tx ihb.tx)
 | KR _ ht ih=>
   have g:=kB (fun d hd=>(hD8 d hd).1) hdn (by simp) ht
   have gn:=ht.small (fun d hd=>(hD8 d hd).1) (by simp)
   exact fm (by decide) (by simp) g.ok g.kn.cw (by simpa using ih) (.KR rfl rfl rfl ((pL hdn (by simp) ht).imp (fun k hk=>.inr hk)) (by simp only;omega) ih.tx)
 | held _ ih=>exact fm (by decide) (by simp) iF iG (by simpa using ih) (.held rfl rfl rfl ih.tx)
 | up _ ih=>exact ih.up (by omega)
 | @se n d a as hd ha hl hb hv hc iha ihb=>
   obtain ⟨_,_,h8a,h8b⟩:=hD8 _ hd
   refine y1 iha (by omega) fun x hx=>⟨?_,ihb x hx⟩
   have hvx:=(hv x hx).2
   obtain ⟨i,hi,rfl⟩:=List.getElem_of_mem hx
   obtain ⟨c,hcc⟩:=bO (show i<_ from hl ▸ hi)
   obtain ⟨q1,q2⟩:=hc i c _ hcc (List.getElem?_eq_getElem hi)
   have:=h8b c (bz hcc)
   exact ⟨by rw [q1];exact (kA _ (hD.all _ hd)).2 c (bz hcc),by omega,fun v hv'=>fy _ (hvx v hv')⟩
theorem P2 {L:List Int} {tm:Nat} {TP:Int→Sh} (hT:Tape L tm TP) {i:Nat}:(aQ AP).i 162 [.bu tm 0] (TP i) []=some ([.pv (.bool (decide (L.length≤i)))],TP i,[]):=by
 have tn:=hT.norm
 have tsh:=hT.shift
 have tl:=hT.take
 have tg:=hT.get
 rw [aT (af:=g162) rfl (by simp [g162])]
 simp [g162,tn,tsh,tl,tg]
def ID (L:List Int) (ds:List Dt) (tm b N i:Nat) (path:List Int) (e:Ex) (n:Int) (S:Sh):St:=⟨[(2,.aG 2 0),(4,.aG 4 0),(5,.bu tm 0),(6,.pv (vI i)),(7,.own (path.map vI) 0),(8,.aG 8 0),(9,.pv (vI n))],[(2,[.pv (.aJ (ds.map Dt.pv)),.bI b 20 N true]),(4,[.own [] 1,.own [] 2]),(8,e.cl)],S,[path.length,0,0]⟩
def IE (L:List Int) (ds:List Dt) (tm b N i:Nat) (path:List Int) (e:Ex) (n:Int) (S:Sh) (l:Bool):Option (bG×St):=some (.exit 0,⟨[(2,.aG 2 0),(4,.aG 4 0),(5,.bu tm 0),(6,.pv (vI i)),(7,.own (path.map vI) 0),(8,.aG 8 0),(9,.pv (vI n))]++(if l then [(39,.pv (.bool false))] else [(10,.pv (.aJ [])),(46,.pv (.bool true))]),[(2,[.pv (.aJ (ds.map Dt.pv)),.bI b 20 N true]),(4,[.own [] 1,.own [] 2]),(8,e.cl)],S,[path.length,0,0]⟩)
theorem O6 {L:List Int} {tm:Nat} {TP:Int→Sh} (hT:Tape L tm TP) (hL:Sm L) {ds:List Dt} {b N i:Nat}:∀(n:Nat),n≤5→∀(path:List Int) (e:Ex) (I:Nat),path.length+n≤5→e.Ok→I≤L.length→∃(path':List Int) (e':Ex) (n':Int) (J:Nat) (l:Bool),path'.length≤5∧J≤L.length ∧
   cl AP g335L0 (ID L ds tm b N i path e n (TP I))=IE L ds tm b N i path' e' n' (TP J) l
 | 0,hn,path,e,I,hp,he,hI=>by
   have tn:=hT.norm
   refine ⟨path,e,0,I,true,by omega,hI,?_⟩
   rw [g335L0e]
   simp [g335B0,ID,IE,tn,Ex.cl]
 | n+1,hn,path,e,I,hp,he,hI=>by
   have tn:=hT.norm
   have tsh:=hT.shift
   have tl:=hT.take
   have k1:=c145 he
   have hk:=he.k
   have ha:=he.a
   have hlen:=Ex.jD (e:=e)
   have hn0:(0:Int)<(n:Int)+1:=by omega
   have hn1:(n:Int)+1-1=n:=by omega
   by_cases z:e.ch=[]
   · refine ⟨path,e,((n+1:Nat):Int),I,false,by omega,hI,?_⟩
     rw [z] at k1
     simp at k1
     rw [g335L0e]
     simp [g335B0,ID,IE,tn,Ex.cl,hn0,k1]
   · have hpos:0<e.ch.length:=List.length_pos_iff.2 z
     obtain ⟨r,j,e1,r0,r1,hj⟩:=mY hT hL hI (n:=e.ch.length) (by omega) (by omega)
     obtain ⟨r,rfl,hr⟩:=mT r0 r1
     obtain ⟨x,hx⟩:=bO hr
     obtain ⟨path',e',n',J,l,q1,q2,ih⟩:=O6 hT hL (ds:=ds) (b:=b) (N:=N) (i:=i) n (by omega) (path++[(r:Int)]) x j (by simp;omega) (he.c x (bz hx)) hj
     refine ⟨path',e',n',J,l,q1,q2,?_⟩
     have hb:(path.length+1)*8≤140737488355328:=by omega
     have hh:bC 1 (path.map vI)=true:=kt.head path
     rw [←ih]
     simp at k1 e1
     conv=>lhs;rw [g335L0e]
     simp (disch:=omega) [-getElem?_pos,g335B0,ID,tn,tsh,tl,Ex.cl,hn0,hn1,k1,z,e1,hx,hb,hh,aA]
end Go.Ab.Lw
namespace Go.Ab.Lw
open Ev
theorem ML {L:List Int} {j:Int}:bP [some [AV.pv (.aJ (L.map vI)),AV.pv (vI j)]]:=bP.one (by intro v hv;simp at hv;rcases hv with rfl | rfl<;>exact ⟨_,rfl⟩)
theorem IF {L:List Int} {S:Sh} (hS:bP S):Tape L S.length (fun j=>S++[some [.pv (.aJ (L.map vI)),.pv (vI j)]]) where
 get:=fun i=>by simp
 set:=fun i j=>by simp
 quiet:=fun i=>hS.app ML
theorem BR {S:Sh} (hS:bP S) {b:Nat}:bP (S.set b none):=by
 intro cs hcs
 rcases List.mem_or_eq_of_mem_set hcs with h | h
 · exact hS cs h
 · cases h
theorem FH {S:Sh} (hS:bP S) {b:Nat} {cs:List AV} (h:∀v∈cs,∃p,v=AV.pv p):bP (S.set b (some cs)):=by
 intro c hc
 rcases List.mem_or_eq_of_mem_set hc with q | q
 · exact hS c q
 · cases q;exact h
def Bd.put (b:Bd) (e:Ex):Bd:={ b with body:=e }
theorem vZ (b:Bd) (e:Ex):(b.put e).cells=b.cells.take 9++e.cells++b.cells.drop (9+e.cells.length):=by
 have h1:=eg.len e
 have h2:=eg.len b.body
 simp [Bd.cells,Bd.put,h1,h2]
theorem oO.up {n m:Nat} {b:Bd} (h:oO n b) (hm:n≤m):oO m b:=⟨h.sc,jF h.h hm,h.so,h.sw,h.sn,h.nm,h.st,Nat.le_trans h.w (Nat.mul_le_mul_left _ hm),h.tx⟩
structure MM (Q:Nat) (ds:List Dt) (bs:List Bd) (b:Nat) (S:Sh):Prop where
 d:s_ ds
 pos:0<bs.length
 len:bs.length≤4
 ok:∀x∈bs,oO Q x
 quiet:bP S
 Fu:S[b]?=some (some (bY Bd.cells bs))
theorem c335 {M:List Int} (hM:Sm M) {ds:List Dt} {bs:List Bd} {b:Nat} {S:Sh} (H:MM 100 ds bs b S):∃(bs':List Bd) (b':Nat) (S':Sh),bs'.length=bs.length∧MM 200 ds bs' b' S' ∧
   (aQ AP).i 335 [.agg [.pv (.aJ (ds.map Dt.pv)),.bI b 20 bs.length true],.pv (.aJ (M.map vI))] S []=some ([.agg [.pv (.aJ (ds.map Dt.pv)),.bI b' 20 bs'.length true]],S',[]):=by
 obtain ⟨hD,hpos,h4,ho,hS,hb⟩:=H
 have hbl:b<S.length:=(List.getElem?_eq_some_iff.1 hb).1
 have hT:=IF (L:=M) hS
 have hT0:∀j:Int,(S++[some [.pv (.aJ (M.map vI)),.pv (vI j)]])=(fun j=>S++[some [.pv (.aJ (M.map vI)),.pv (vI j)]]) j:=fun _=>rfl
 have hget:∀j:Int,((fun j=>S++[some [.pv (.aJ (M.map vI)),.pv (vI j)]]) j:Sh)[b]?=some (some (bY Bd.cells bs)):=fun j=>by simp [List.getElem?_append_left hbl,hb]
 have hkill:∀j:Int,((fun j=>S++[some [.pv (.aJ (M.map vI)),.pv (vI j)]]) j:Sh).set b none=S.set b none++[some [.pv (.aJ (M.map vI)),.pv (vI j)]]:=fun j=>by simp [List.set_append_left,hbl]
 have hlen:∀j:Int,((fun j=>S++[some [.pv (.aJ (M.map vI)),.pv (vI j)]]) j:Sh).length=S.length+1:=fun j=>by simp
 generalize hTP:(fun j:Int=>S++[some [AV.pv (.aJ (M.map vI)),AV.pv (vI j)]])=TP at *
 have tn:=hT.norm
 have tsh:=hT.shift
 have tl:=hT.take
 have k0:=P2 hT (i:=0)
 have nS:=hS.norm
 have sS:=hS.shift
 have hz:bs≠[]:=List.length_pos_iff.1 hpos
 have r1:(bY Bd.cells bs).length=bs.length*20:=d3 lN
 have hB:dC (bY Bd.cells bs)=false:=eu cI
 have h0:=hT0 0
 by_cases hE:M=[]
 · refine ⟨bs,b,S,rfl,⟨hD,hpos,h4,fun x hx=>(ho x hx).up (by omega),hS,hb⟩,?_⟩
   have ht:List.take S.length (TP 0)=S:=by rw [←h0];simp
   subst hE
   simp at k0 h0
   rw [aT (af:=g335) rfl (by simp [g335])]
   simp [g335,hz,k0,tn,tsh,nS,sS,h0,hbl,ht]
 · have hMp:0<M.length:=List.length_pos_iff.2 hE
   have hM0:¬M.length≤0:=by omega
   rw [decide_eq_false hM0] at k0
   obtain ⟨q,j1,e1,q0,q1,hj1⟩:=mY hT hM (i:=0) (by omega) (n:=bs.length) (by omega) (by omega)
   obtain ⟨i,rfl,hi⟩:=mT q0 q1
   obtain ⟨x,hx⟩:=bO hi
   have hxo:=ho x (bz hx)
   obtain ⟨n,j2,e2,n0,n1,hj2⟩:=mY hT hM hj1 (n:=5) (by omega) (by omega)
   obtain ⟨n,rfl,hn⟩:=mT (n:=5) n0 (by simpa using n1)
   obtain ⟨path,ex,n',J,l,hp,hJ,e3⟩:=O6 hT hM (ds:=ds) (b:=b) (N:=bs.length) (i:=i) n (by omega) [] x.body j2 (by simp;omega) hxo.sc.ok hj2
   have hS2:=BR hS (b:=b)
   have hT2:=CI (L:=M) (A:=S.set b none) (B:=[some (bY Bd.cells bs)]) hS2 (bP.one cI)
   rw [List.length_set] at hT2
   have hk2:∀j:Int,(TP j).set b none++[some (bY Bd.cells bs)]=(fun i:Int=>S.set b none++[some [.pv (.aJ (M.map vI)),.pv (vI i)]]++[some (bY Bd.cells bs)]) j:=fun j=>by rw [hkill]
   have hk3:∀j:Int,S.set b none++[some [.pv (.aJ (M.map vI)),.pv (vI j)],some (bY Bd.cells bs)]=(fun i:Int=>S.set b none++[some [.pv (.aJ (M.map vI)),.pv (vI i)]]++[some (bY Bd.cells bs)]) j:=fun j=>by simp
   have hg2:∀j:Int,((fun i:Int=>S.set b none++[some [.pv (.aJ (M.map vI)),.pv (vI i)]]++[some (bY Bd.cells bs)]) j:Sh)[S.length+1]?=some (some (bY Bd.cells bs)):=fun j=>by simp [List.getElem?_append_right]
   have hs2:∀(j:Int) (c:List Bd),∃S',((fun i:Int=>S.set b none++[some [.pv (.aJ (M.map vI)),.pv (vI i)]]++[some (bY Bd.cells bs)]) j:Sh).set (S.length+1) (some (bY Bd.cells c))=S'∧bP S'∧S'[S.length+1]?=some (some (bY Bd.cells c)):=fun j c=>⟨_,rfl,FH (hT2.quiet j) cI,by simp [List.getElem?_append_right,List.set_append_right]⟩
   generalize (fun i:Int=>S.set b none++[some [AV.pv (.aJ (M.map vI)),AV.pv (vI i)]]++[some (bY Bd.cells bs)])=TQ at *
   have un:=hT2.norm
   have ush:=hT2.shift
   have ul:=hT2.take
   obtain ⟨y,f1,f2,f3,j4,e4,hy,hj4⟩:=OT hT2 hM (ds:=ds) (by have:=hD.len;omega) (fun d hd=>H7 d (hD.all d hd)) 2 (by omega) J hJ
   have hyE:=hy.Qr hD
   have hA:=eh f1 f2 f3 y
   generalize ej f1 f2 f3 y=A at e4 hA
   have ac:=Ex.bS y
   obtain ⟨w,ok,k5,w1,w2,w3,w4⟩:=c359 hyE.sc hyE.h path x.body 100 (by omega) hxo.sc hxo.h
   obtain ⟨S',s1,s2,s3⟩:=hs2 j4 (bs.set i (x.put w))
   refine ⟨bs.set i (x.put w),S.length+1,S',by simp,⟨hD,by simpa using hpos,by simpa using h4,?_,s2,s3⟩,?_⟩
   · intro z hz
     rcases List.mem_or_eq_of_mem_set hz with hz | rfl
     · exact (ho z hz).up (by omega)
     · exact ⟨w1,jF w2 (by omega),hxo.so,hxo.sw,hxo.sn,hxo.nm,hxo.st,by have h1:=hxo.w;have h2:=hyE.w;rw [sf] at h2;change w.sz≤_;omega,w3 hyE.tx hxo.tx⟩
   · have hsub:=qf lN hx (o:=9) (k:=11) (by omega)
     have jv:(((x.cells.drop 9).take 11).map AV.pv)=x.body.cl:=by
       have h2:=eg.len x.body
       have h3:(x.cells.drop 9).take 11=x.body.cells:=by
         simp only [Bd.cells,List.cons_append,List.nil_append,List.drop_succ_cons,List.drop_zero]
         exact List.take_of_length_le (by omega)
       rw [h3,Ex.sa]
     rw [jv] at hsub
     have hset:=qg lN hx (y:=x.put w) (o:=9) (vs:=w.cells) (by rw [eg.len];omega) (vZ x w)
     rw [Ex.sa] at hset
     have hle:i*20+9+11≤bs.length*20:=by omega
     have hlst:=BQ (l:=bs)
     have hmap:=MH (l:=bs)
     have hbb:bs.length*256≤140737488355328:=by omega
     have hib:(i:Int)<bs.length:=by omega
     have hg2':=hg2 j4
     have hnl:¬S.length+1<S.length:=by omega
     have hf:∀S:Sh,dO S (.aG 2 0)=none:=fun _=>rfl
     have hxpv:(bs.map Bd.pv)[i]?=some x.pv:=by simp [hx]
     have hn5:(n:Int)<5:=by omega
     have nS':=s2.norm
     have sS':=s2.shift
     clear hS2 hT2 hs2 hT hTP
     generalize bY Bd.cells (bs.set i (x.put w))=F2 at *
     generalize bY Bd.cells bs=F at *
     rw [g335L0e] at e3
     simp [ID,Ex.cl,tn] at e3
     simp at k0 e1 e2 e4 k5
     simp [Ex.cl] at hsub hset
     rw [aT (af:=g335) rfl (by simp [g335])]
     cases l with
     | true=>
       simp [IE,Ex.cl] at e3
       simp (disch:=omega) [-getElem?_pos,g335,hz,k0,tn,tsh,tl,un,ush,ul,nS,sS,h0,hbl,e1,hget,hB,r1,hle,hsub,hx,hi,e2,g335L0e,e3,hlst,hk3,hkill,hmap,hbb,e4,hlen,hA.dO,hA.flat,hA.iy,hA.len,hA.leaf,ac,k5,hg2',hset,s1,hf,hnl,nS',sS']
     | false=>
       simp [IE,Ex.cl] at e3
       simp (disch:=omega) [-getElem?_pos,g335,hz,k0,tn,tsh,tl,un,ush,ul,nS,sS,h0,hbl,e1,hget,hB,r1,hle,hsub,hx,hi,e2,g335L0e,e3,hlst,hk3,hkill,hmap,hbb,e4,hlen,hA.dO,hA.flat,hA.iy,hA.len,hA.leaf,ac,k5,hg2',hset,s1,hf,hnl,nS',sS']
end Go.Ab.Lw
namespace Go.Ab.Lw
open Ev
theorem O7 {sz:Nat} {l:List PV} {k:Nat} (h:k≤l.length) (hs:bC sz l=true):dc false sz true false false [.pv (.aJ l),.pv (.int .i64 (k:Int))]=some (.pv (.aJ (l.drop k))):=by
 have h2:(k:Int)≤l.length:=by omega
 simp [dc,cS,eH,h2,hs]
theorem c310 {L:List Int} (hL:L.length≤100000) (bits way:Int):∃(ds:List Dt) (bs:List Bd),s_ ds∧0<bs.length∧bs.length≤4∧(∀x∈bs,oO 200 x) ∧
   (aQ AP).p 310 [vI bits,.aJ (L.map vI),vI way]=some [.agg [.aJ (ds.map Dt.pv),.aJ (bs.map Bd.pv)]]:=by
 obtain ⟨ds,bs,k,j,hD,h0,h4,ho,k1⟩:=c306 (by unfold Sm;omega:Sm L) bits
 have H:MM 100 ds bs (1+k) (qq L k bs j):=⟨hD,h0,h4,ho,(jh (L:=L)).quiet j,CL⟩
 generalize qq L k bs j=S at *
 have tn:=H.quiet.norm
 have tsh:=H.quiet.shift
 obtain ⟨r,k2,r0,r1⟩:=c26 (n:=way) (m:=3) (by omega) (by omega)
 by_cases hr:r=1
 · obtain ⟨bs',b',S',hl,H',k3⟩:=c335 (M:=L.drop (min L.length 3)) (by unfold Sm;simp;omega) H
   refine ⟨ds,bs',H'.d,H'.pos,H'.len,H'.ok,?_⟩
   have tn':=H'.quiet.norm
   have tsh':=H'.quiet.shift
   have g:=H'.Fu
   have rl:(bY Bd.cells bs').length=bs'.length*20:=d3 lN
   have hlst:=BQ (l:=bs')
   have hmn:(if (3:Int)<L.length then (3:Int) else L.length)=((min L.length 3:Nat):Int):=by split<;>omega
   have hsl:=O7 (sz:=1) (l:=L.map vI) (k:=min L.length 3) (by simp;omega) (kt.head L)
   generalize min L.length 3=q at *
   generalize bY Bd.cells bs'=F at *
   subst hr
   simp at k1 k2 k3 hsl hlst
   rw [aw (af:=g310) rfl rfl (by decide)]
   simp [ud,Cx,Cy,yI,g310,k1,k2,hmn,hsl,k3,tn,tsh,tn',tsh',aK,g,rl,hlst]
 · refine ⟨ds,bs,hD,h0,h4,fun x hx=>(ho x hx).up (by omega),?_⟩
   have g:=H.Fu
   have rl:(bY Bd.cells bs).length=bs.length*20:=d3 lN
   have hlst:=BQ (l:=bs)
   generalize bY Bd.cells bs=F at *
   simp at k1 k2 hlst
   rw [aw (af:=g310) rfl rfl (by decide)]
   simp [g310,k1,k2,hr,tn,tsh,aK,g,rl,hlst]
end Go.Ab.Lw
namespace Go.Ab.Lw
open Ev
def pM (ds:List Dt) (bs:List Bd):List AV:=[.pv (.aJ (ds.map Dt.pv)),.pv (.aJ (bs.map Bd.pv))]
end Go.Ab.Lw
namespace Go.Ab.Lw
open Ev
def y4:List Bd→Nat
 | []=>0
 | b::r=>b.body.hl.length+y4 r
def gi:Nat→List Bd→Int→Option (Nat×List Int)
 | _,[],_=>none
 | i,b::r,h=>if h<b.body.hl.length then (b.body.hl[h.toNat]?).map fun p=>(i,p) else gi (i+1) r (h-b.body.hl.length)
def mu:Option (Nat×List Int)→List PV
 | some (i,p)=>[vI i,mg p,.bool true]
 | none=>[vI 0,.aJ [],.bool false]
def FI (bs:List Bd):Prop:=bs.length≤1000∧∀b∈bs,b.body.Ok∧b.body.sz≤100000000
theorem FI.c {bs:List Bd} (h:FI bs) {b:Bd} (hb:b∈bs):(aQ AP).p 543 [b.body.pv]=some [.aJ (b.body.hl.map mg)]∧(aQ AP).p 539 [b.body.pv]=some [.aJ (b.body.hl.map mg)]∧b.body.hl.length≤100000000:=by
 obtain ⟨h1,h2⟩:=h.2 b hb
 exact ⟨c543 _ h1 h2,c539 _ h1 h2,Nat.le_trans (sj _) h2⟩
theorem O8 {bs:List Bd} (H:FI bs):∀(n i:Nat),bs.length-i=n→i≤bs.length→∀m:Nat,m≤100000000*i →
   cl AP g528L0 ⟨[(3,.pv (vI m)),(7,.pv (.aJ (bs.map Bd.pv))),(8,.pv (vI bs.length)),(9,.pv (vI i))],[],[],[]⟩ =
     some (.exit 0,⟨[(3,.pv (vI (m+y4 (bs.drop i):Nat))),(7,.pv (.aJ (bs.map Bd.pv))),(8,.pv (vI bs.length)),(9,.pv (vI bs.length)),(10,.pv (.bool false))],[],[],[]⟩)
 | 0,i,hn,hi,m,hm=>by
   have:i=bs.length:=by omega
   subst this
   rw [g528L0e]
   simp [g528B0,y4]
 | n+1,i,hn,hi,m,hm=>by
   have hi:i<bs.length:=by omega
   have hl:=H.1
   obtain ⟨b,hb⟩:=bO hi
   obtain ⟨k,_,hk⟩:=H.c (bz hb)
   have ih:=O8 H n (i+1) (by omega) (by omega) (m+b.body.hl.length) (by omega)
   rw [cY hb]
   simp only [y4]
   rw [←Nat.add_assoc]
   generalize b.body.hl=hs at *
   generalize m+hs.length+y4 (bs.drop (i+1))=C at *
   rw [g528L0e] at ih ⊢
   simp at ih k
   simp (disch:=omega) [-getElem?_pos,g528B0,hb,hi,k,aA]
   rw [g528L0e]
   simp [ih]
theorem c528 {ds:List Dt} {bs:List Bd} (H:FI bs):(aQ AP).p 528 [.agg [.aJ (ds.map Dt.pv),.aJ (bs.map Bd.pv)]]=some [vI (y4 bs)]:=by
 have e:=O8 H _ 0 rfl (by omega) 0 (by omega)
 rw [List.drop_zero,Nat.zero_add] at e
 rw [g528L0e] at e
 simp at e
 rw [aw (af:=g528) rfl rfl (by decide)]
 simp [g528,g528L0e,e]
theorem O9 {ds:List Dt} {bs:List Bd} (H:FI bs):∀(n i:Nat),bs.length-i=n→i≤bs.length→∀m:Nat,m≤100000000*i →
   cl AP g529L0 ⟨[(1,.aG 1 0),(3,.pv (vI m)),(4,.pv (vI i))],[(1,pM ds bs)],[],[]⟩ =
     some (.exit 0,⟨[(1,.aG 1 0),(3,.pv (vI (m+y4 (bs.drop i):Nat))),(4,.pv (vI bs.length)),(9,.pv (.bool false))],[(1,pM ds bs)],[],[]⟩)
 | 0,i,hn,hi,m,hm=>by
   have:i=bs.length:=by omega
   subst this
   rw [g529L0e]
   simp [g529B0,y4,pM]
 | n+1,i,hn,hi,m,hm=>by
   have hi:i<bs.length:=by omega
   have hl:=H.1
   obtain ⟨b,hb⟩:=bO hi
   obtain ⟨_,k,hk⟩:=H.c (bz hb)
   have ih:=O9 (ds:=ds) H n (i+1) (by omega) (by omega) (m+b.body.hl.length) (by omega)
   rw [cY hb]
   simp only [y4]
   rw [←Nat.add_assoc]
   generalize b.body.hl=hs at *
   generalize m+hs.length+y4 (bs.drop (i+1))=C at *
   rw [g529L0e] at ih ⊢
   simp [pM] at ih k
   simp (disch:=omega) [-getElem?_pos,g529B0,pM,hb,hi,k,aA]
   rw [g529L0e]
   simp [ih]
theorem c529 {ds:List Dt} {bs:List Bd} (H:FI bs):(aQ AP).p 529 [.agg [.aJ (ds.map Dt.pv),.aJ (bs.map Bd.pv)]]=some [vI (y4 bs)]:=by
 have e:=O9 (ds:=ds) H _ 0 rfl (by omega) 0 (by omega)
 rw [List.drop_zero,Nat.zero_add] at e
 rw [g529L0e] at e
 simp [pM] at e
 rw [aw (af:=g529) rfl rfl (by decide)]
 simp [g529,g529L0e,e]
end Go.Ab.Lw
namespace Go.Ab.Lw
open Ev
theorem uw {i:Nat} {b:Bd} {r:List Bd} {h:Int} (h0:0≤h) (hl:h<b.body.hl.length):∃p,b.body.hl[h.toNat]?=some p∧gi i (b::r) h=some (i,p):=by
 obtain ⟨p,hp⟩:=bO (show h.toNat<b.body.hl.length by omega)
 exact ⟨p,hp,by rw [gi,if_pos hl,hp];rfl⟩
theorem O_ {bs:List Bd} (H:FI bs):∀(n i:Nat),bs.length-i=n→i≤bs.length→∀h:Int,0≤h→h≤9223372036854775807→∃h':Int,
   cl AP g530L0 ⟨[(1,.pv (vI h)),(13,.pv (.aJ (bs.map Bd.pv))),(14,.pv (vI bs.length)),(15,.pv (vI i))],[],[],[]⟩ =
     some (match gi i (bs.drop i) h with
       | some (j,p)=>(.ret,⟨[(4,.pv (vI j)),(5,.pv (mg p)),(6,.pv (.bool true))],[],[],[]⟩)
       | none=>(.exit 0,⟨[(1,.pv (vI h')),(13,.pv (.aJ (bs.map Bd.pv))),(14,.pv (vI bs.length)),(15,.pv (vI bs.length)),(16,.pv (.bool false))],[],[],[]⟩))
 | 0,i,hn,hi,h,h0,h1=>by
   have:i=bs.length:=by omega
   subst this
   refine ⟨h,?_⟩
   rw [List.drop_length,gi,g530L0e]
   simp [g530B0]
 | n+1,i,hn,hi,h,h0,h1=>by
   have hi:i<bs.length:=by omega
   have hl:=H.1
   obtain ⟨b,hb⟩:=bO hi
   obtain ⟨k,_,hk⟩:=H.c (bz hb)
   rw [cY hb]
   by_cases q:h<b.body.hl.length
   · obtain ⟨p,hp,e⟩:=uw (i:=i) (r:=bs.drop (i+1)) h0 q
     refine ⟨0,?_⟩
     rw [e]
     generalize b.body.hl=hs at *
     simp at k
     have hp':(hs.map mg)[h.toNat]?=some (mg p):=by simp [hp]
     have q1:h.toNat<hs.length:=by omega
     have q3:¬h<0:=by omega
     rw [g530L0e]
     simp (disch:=omega) [-getElem?_pos,g530B0,hb,hi,k,aA,q,q3,h0,hp,q1]
   · obtain ⟨h',ih⟩:=O_ H n (i+1) (by omega) (by omega) (h-b.body.hl.length) (by omega) (by omega)
     refine ⟨h',?_⟩
     rw [gi,if_neg q]
     generalize gi (i+1) (bs.drop (i+1)) (h-b.body.hl.length)=R at *
     generalize b.body.hl=hs at *
     rw [g530L0e] at ih ⊢
     simp at ih k
     simp (disch:=omega) [-getElem?_pos,g530B0,hb,hi,k,aA,q]
     rw [g530L0e]
     simp [ih]
theorem c530 {ds:List Dt} {bs:List Bd} (H:FI bs) {h:Int} (h1:h≤9223372036854775807):(aQ AP).p 530 [.agg [.aJ (ds.map Dt.pv),.aJ (bs.map Bd.pv)],vI h]=some (mu (if h<0 then none else gi 0 bs h)):=by
 rw [aw (af:=g530) rfl rfl (by decide)]
 by_cases h0:h<0
 · simp [g530,h0,mu]
 · rw [if_neg h0]
   obtain ⟨h',e⟩:=O_ H _ 0 rfl (by omega) h (by omega) h1
   rw [List.drop_zero] at e
   rw [g530L0e] at e
   cases hf:gi 0 bs h with
   | none=>rw [hf] at e;simp at e;simp [g530,h0,g530L0e,e,mu]
   | some r=>obtain ⟨j,p⟩:=r;rw [hf] at e;simp at e;simp [g530,h0,g530L0e,e,mu]
theorem O' {ds:List Dt} {bs:List Bd} (H:FI bs):∀(n i:Nat),bs.length-i=n→i≤bs.length→∀h:Int,0≤h→h≤9223372036854775807→∃(h':Int) (b17:Bool) (l':List (Nat×AV)),
   cl AP g531L0 ⟨[(1,.pv (vI h)),(2,.aG 2 0),(7,.pv (vI i))],[(2,pM ds bs)],[],[]⟩ =
     some (match gi i (bs.drop i) h with
       | some (j,p)=>(.ret,⟨[(4,.pv (vI j)),(5,.pv (mg p)),(6,.pv (.bool true))],[],[],[]⟩)
       | none=>(.exit 0,⟨[(1,.pv (vI h')),(2,.aG 2 0),(7,.pv (vI bs.length)),(17,.pv (.bool false))],[(2,pM ds bs)],[],[]⟩))
 | 0,i,hn,hi,h,h0,h1=>by
   have:i=bs.length:=by omega
   subst this
   refine ⟨h,true,[],?_⟩
   rw [List.drop_length,gi,g531L0e]
   simp [g531B0,pM]
 | n+1,i,hn,hi,h,h0,h1=>by
   have hi:i<bs.length:=by omega
   have hl:=H.1
   obtain ⟨b,hb⟩:=bO hi
   obtain ⟨_,k,hk⟩:=H.c (bz hb)
   rw [cY hb]
   by_cases q:h<b.body.hl.length
   · obtain ⟨p,hp,e⟩:=uw (i:=i) (r:=bs.drop (i+1)) h0 q
     refine ⟨0,true,[],?_⟩
     rw [e]
     generalize b.body.hl=hs at *
     simp at k
     have q1:h.toNat<hs.length:=by omega
     have q3:¬h<0:=by omega
     rw [g531L0e]
     simp (disch:=omega) [-getElem?_pos,g531B0,pM,hb,hi,k,aA,q,q3,h0,hp,q1]
   · obtain ⟨h',b',l',ih⟩:=O' (ds:=ds) H n (i+1) (by omega) (by omega) (h-b.body.hl.length) (by omega) (by omega)
     refine ⟨h',b',l',?_⟩
     rw [gi,if_neg q]
     generalize gi (i+1) (bs.drop (i+1)) (h-b.body.hl.length)=R at *
     generalize b.body.hl=hs at *
     rw [g531L0e] at ih ⊢
     simp [pM] at ih k
     simp (disch:=omega) [-getElem?_pos,g531B0,pM,hb,hi,k,aA,q,h0]
     rw [g531L0e]
     simp [ih,pM]
theorem c531 {ds:List Dt} {bs:List Bd} (H:FI bs) {h:Int} (h1:h≤9223372036854775807):(aQ AP).p 531 [.agg [.aJ (ds.map Dt.pv),.aJ (bs.map Bd.pv)],vI h]=some (mu (if h<0 then none else gi 0 bs h)):=by
 rw [aw (af:=g531) rfl rfl (by decide)]
 by_cases h0:h<0
 · have h0':¬0≤h:=by omega
   by_cases z:bs=[]
   · subst z
     simp [g531,h0,mu,g531L0e,g531B0]
   · have hp:0<bs.length:=List.length_pos_iff.2 z
     simp [g531,h0,h0',hp,mu,g531L0e,g531B0]
 · rw [if_neg h0]
   obtain ⟨h',_,_,e⟩:=O' (ds:=ds) H _ 0 rfl (by omega) h (by omega) h1
   rw [List.drop_zero] at e
   rw [g531L0e] at e
   cases hf:gi 0 bs h with
   | none=>rw [hf] at e;simp [pM] at e;simp [g531,h0,g531L0e,e,mu]
   | some r=>obtain ⟨j,p⟩:=r;rw [hf] at e;simp [pM] at e;simp [g531,h0,g531L0e,e,mu]
end Go.Ab.Lw
namespace Go.Ab.Lw
open Ev
theorem y5:∀{l:List Bd} {i j:Nat} {h:Int} {p:List Int},gi i l h=some (j,p)→∃(k:Nat) (b:Bd),j=i+k∧l[k]?=some b∧p∈b.body.hl
 | [],i,j,h,p,e=>by simp [gi] at e
 | b::r,i,j,h,p,e=>by
   rw [gi] at e
   split at e
   · simp only [Option.map_eq_some_iff] at e
     obtain ⟨q,hq,e⟩:=e
     cases e
     exact ⟨0,b,rfl,rfl,bz hq⟩
   · obtain ⟨k,c,h1,h2,h3⟩:=y5 e
     exact ⟨k+1,c,by omega,by simpa using h2,h3⟩
structure Qs (bs:List Bd):Prop where
 h:FI bs
 one:∀b∈bs,b.body.One
 dp:∀b∈bs,∀p∈b.body.hl,p.length≤500
end Go.Ab.Lw
namespace Go.Ab.Lw
open Ev
theorem CP:∀{p:List Int} {e x:Ex} {n:Nat},e.at p=some x→e.yG n→p.length≤n
 | [],_,_,_,_,_=>by simp
 | i::r,e,x,n,h,hh=>by
   rw [Ex.at] at h
   split at h
   · cases hy:e.ch[i.toNat]? with
     | none=>rw [hy] at h;cases h
     | some y=>
       rw [hy] at h
       cases hh with
       | @mk n _ hc=>
         have:=CP (p:=r) h (hc y (bz hy))
         simp only [List.length_cons]
         omega
   · cases h
theorem Qt {bs:List Bd} (h4:bs.length≤4) (ho:∀b∈bs,oO 200 b):Qs bs where
 h:=⟨by omega,fun b hb=>⟨(ho b hb).sc.ok,by have:=(ho b hb).w;omega⟩⟩
 one:=fun b hb=>(ho b hb).sc.one
 dp:=fun b hb p hp=>by
   obtain ⟨_,x,hx,_⟩:=vN b.body p hp
   have:=CP hx (ho b hb).h
   omega
theorem MN {bs:List Bd} (ho:∀b∈bs,oO 200 b):y4 bs≤bs.length*14000000:=by
 induction bs with
 | nil=>simp [y4]
 | cons b r ih=>
   have h1:=ih fun x hx=>ho x (by simp [hx])
   have h2:=sj b.body
   have h3:=(ho b (by simp)).w
   simp only [y4,List.length_cons]
   omega
end Go.Ab.Lw
namespace Go.Ab.Lw
open Ev
def Pa (k p:Int) (s:d4):List PV:=[.int .i64 k,.int .i64 p,.str s,.int .i64 0,.aJ [],.aJ [],.int .i64 0,.str [],.int .i64 0,.int .i64 0,.aJ []]
def Pt (b:List PV):PV:=.agg [.aJ [],.aJ [
 .agg ([.int .i64 0,.bool false,.str [120],.bool false,.int .i64 0,.str [],.int .i64 0,.int .i64 0,.aJ []]++Pa 10 8 []),
 .agg ([.int .i64 11,.bool false,.str [121],.bool false,.int .i64 0,.str [],.int .i64 0,.int .i64 0,.aJ []]++[.int .i64 4,.int .i64 19,.str [120],.int .i64 0,.aJ [.agg b],.aJ [],.int .i64 0,.str [],.int .i64 0,.int .i64 0,.aJ []])]]
def Pu (b:UInt8):d4:=[108,101,116,32,120,32,61,32,63,59,32,108,101,116,32,121,32,61,32,92,120,46,32,b,59]
theorem c535a:(aQ AP).p 535 [.str (Pu 63)]=some [Pt (Pa 10 23 [])]:=Fc.L_ (k:=400) (n:=40) (by kernel_rfl)
theorem c535b:(aQ AP).p 535 [.str (Pu 120)]=some [Pt (Pa 1 23 [120])]:=Fc.L_ (k:=400) (n:=40) (by kernel_rfl)
def Qe (g:Nat) (x:List PV):Option (List PV):=if g=535 then match x with
 | [.str s]=>if s=Pu 63 then some [Pt (Pa 10 23 [])] else if s=Pu 120 then some [Pt (Pa 1 23 [120])] else none
 | _=>none
 else none
theorem MO:∀g x r,Qe g x=some r→(aQ AP).p g x=some r:=by
 intro g x r h
 unfold Qe at h
 split at h
 · rename_i e;subst e
   split at h
   · split at h
     · rename_i e;subst e;rw [←h];exact c535a
     · split at h
       · rename_i e;subst e;rw [←h];exact c535b
       · cases h
   · cases h
 · cases h
theorem c527:(aQ AP).p 527 []=some [.bool true]:=Fc.KM (k:=400) (n:=40) MO (by kernel_rfl)
end Go.Ab.Lw
namespace Go.Ab.Lw
open Ev
theorem BS {bs:List Bd} (H:FI bs) (h:Int):∃(i:Nat) (p:List Int) (t:Bool),mu (if h<0 then none else gi 0 bs h)=[vI i,mg p,.bool t]∧p.length≤100000000:=by
 cases hf:(if h<0 then none else gi 0 bs h) with
 | none=>exact ⟨0,[],false,rfl,by simp⟩
 | some r=>
   obtain ⟨i,p⟩:=r
   have hf':gi 0 bs h=some (i,p):=by
     split at hf
     · cases hf
     · exact hf
   obtain ⟨j,b,hj,hb,hp⟩:=y5 hf'
   have h1:=(vN b.body p hp).1
   have h2:=(H.2 b (bz hb)).2
   exact ⟨i,p,true,rfl,by omega⟩
theorem Lt {ds:List Dt} {bs:List Bd} {K:List Int} {p:List Int} {N j:Nat} (hp:p.length≤100000000):∀(n i:Nat),p.length-i=n→i≤p.length →
   cl AP g521L1 ⟨[(9,.aG 9 0),(14,.pv (mg p)),(17,.pv (mg p)),(19,.pv (vI i)),(41,.own (K.map vI) 0),(42,.pv (vI N)),(43,.pv (vI j))],[(9,pM ds bs)],[],[K.length]⟩ =
     some (.exit 2,⟨[(9,.aG 9 0),(14,.pv (mg p)),(17,.pv (mg p)),(19,.pv (vI p.length)),(41,.own (K.map vI) 0),(42,.pv (vI N)),(43,.pv (vI j)),(79,.pv (.bool false))],[(9,pM ds bs)],[],[K.length]⟩)
 | 0,i,hn,hi=>by
   have:i=p.length:=by omega
   subst this
   rw [g521L1e]
   simp [g521B1,pM]
 | n+1,i,hn,hi=>by
   have hi:i<p.length:=by omega
   obtain ⟨x,hx⟩:=bO hi
   have ih:=Lt (ds:=ds) (bs:=bs) (K:=K) (N:=N) (j:=j) hp n (i+1) (by omega) (by omega)
   rw [g521L1e] at ih ⊢
   simp [pM] at ih
   simp (disch:=omega) [-getElem?_pos,g521B1,pM,hx,hi,aA]
   rw [g521L1e]
   simp [ih]
theorem Pb {ds:List Dt} {bs:List Bd} (H:FI bs) {K:List Int} (hK:∀k∈K,k≤9223372036854775807) (hl:K.length≤1000):∀(n j:Nat),K.length-j=n→j≤K.length →
   cl AP g521L0 ⟨[(9,.aG 9 0),(41,.own (K.map vI) 0),(42,.pv (vI K.length)),(43,.pv (vI j))],[(9,pM ds bs)],[],[K.length]⟩ =
     some (.exit 0,⟨[(9,.aG 9 0),(41,.own (K.map vI) 0),(42,.pv (vI K.length)),(43,.pv (vI K.length)),(44,.pv (.bool false))],[(9,pM ds bs)],[],[K.length]⟩)
 | 0,j,hn,hj=>by
   have:j=K.length:=by omega
   subst this
   rw [g521L0e]
   simp [g521B0,pM]
 | n+1,j,hn,hj=>by
   have hj:j<K.length:=by omega
   obtain ⟨k,hk⟩:=bO hj
   have ih:=Pb (ds:=ds) H hK hl n (j+1) (by omega) (by omega)
   have k1:=c530 (ds:=ds) H (hK k (bz hk))
   have k2:=c531 (ds:=ds) H (hK k (bz hk))
   obtain ⟨i,p,t,e,hp⟩:=BS H k
   rw [e] at k1 k2
   have e1:=Lt (ds:=ds) (bs:=bs) (K:=K) (N:=K.length) (j:=j) hp _ 0 rfl (by omega)
   rw [g521L1e] at e1
   rw [g521L0e] at ih ⊢
   simp [pM] at k1 k2 e1 ih
   cases t<;>simp (disch:=omega) [-getElem?_pos,g521B0,pM,hk,hj,k1,k2,aA,g521L1e,e1]<;>rw [g521L0e]<;>simp [ih]
end Go.Ab.Lw
namespace Go.Ab.Lw
open Ev
theorem MP (bits:Int) (L:List Int) (way h:Int) (hh:h≤9223372036854775807):(aQ AP).p 521 [vI bits,.aJ (L.map vI),vI way,vI h]=some [.bool true]:=by
 have c0:=c527
 have c1:=c15 (l:=L)
 rw [aw (af:=g521) rfl rfl (by decide)]
 by_cases hL:L.length≤60
 · simp [hL] at c1
   obtain ⟨ds,bs,hD,_,h4,ho,e1⟩:=c310 (L:=L) (by omega) bits way
   have H:=(Qt h4 ho).h
   have k1:=c528 (ds:=ds) H
   have k2:=c529 (ds:=ds) H
   have hc:=MN ho
   have hc2:y4 bs≤56000000:=by omega
   obtain ⟨r,k3,r0,r1⟩:=c26 (n:=h) (m:=(y4 bs:Int)+2) (by omega) (by omega)
   have e2:=Pb (ds:=ds) H (K:=[h,r-1]) (by simp;omega) (by simp) _ 0 rfl (by simp)
   generalize y4 bs=C at *
   rw [g521L0e] at e2
   simp [pM] at e1 k1 k2 k3 e2
   simp (disch:=omega) [-getElem?_pos,g521,c0,c1,e1,k1,k2,k3,aA,g521L0e,e2]
 · simp [hL] at c1
   simp [g521,c0,c1]
end Go.Ab.Lw
