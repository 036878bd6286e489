import Derived.Test.YtcjggpmnbcfedaaGreatDoorLibA
/-
  The search's reference: an element, its arguments.
  The search's reference: an element, its resolved types.
  Matching, by the program.
  Instances, by the program.
  Instances, by the reference.
  Matching, by the reference.
  Both matchings are one.
  When a closed type is general.
  The reference's Instance; the law SchemeInstances.
  The search's reference: an element.
  The search's reference: heads.
  The search's reference: the schemes of constructors; the list of heads.
  The search's reference: the list of heads, the walk.
  A tape anywhere in shared memory: the makers of types and of raw expressions.
  The law ScopeVisible.
  The maker of typed expressions: what it gives; leaves.
  The maker of typed expressions: leaves, functions, applications, annotations, held ones.
  The maker of programs: the scheme of a let is closed.
  The maker of typed expressions: lets.
  The maker of typed expressions: heads with arguments.
  The maker of typed expressions: cases.
  The maker of typed expressions: cases; all depths.
  The maker of programs: signatures.
  The maker of programs: bindings.
  The maker of programs: one binding.
  The maker of programs: the first binding; all bindings.
  The maker of programs.
  A part of an expression is replaced.
  A program is changed in one place: the walk down.
  A program is changed in one place.
  **Some**: programs, well typed or not.
  Texts of programs: declarations, and the reference's loops.
  The law ShowPrograms.
-/
set_option linter.unusedVariables false
set_option linter.unusedSimpArgs false
set_option linter.unnecessarySimpa false
set_option maxRecDepth 100000
set_option maxHeartbeats 8000000
namespace Go.Ab.Lw
open Ev
theorem Fit.ik {S S':List Int} {t:Ty} (h:Fit S t) (hS:∀w∈S,w∈S'):Fit S' t:=⟨h.ok,h.wf,fun w ho=>hS w (h.m8 w ho)⟩
theorem vM {n m:Nat} (h:n≤m):∀w∈eV n,w∈eV m:=fun w hw=>by have:=eZ.1 hw;exact eZ.2 (by omega)
structure SG (m M:Nat) (s:ef) (t w g:Ty) (args:List Ty) (vs:List As):Prop where
 inv:Inv m M (eV m) s
 t:Fit (eV m) t
 w:Fit (eV m) w
 g:Fit (eV m) g
 args:∀a∈args,Fit (eV m) a
 vs:∀x∈vs,Fit (eV m) x.ty
theorem Fit.wk {m M:Nat} {s:ef} (I:Inv m M (eV m) s) {t:Ty} (h:Fit (eV m) t):Fit (eV m) (lp s.sl t):=⟨mu I.ok h.ok,pn I.wf h.wf,lq I.m8 h.m8⟩
theorem c194a {a b:Ty}:(aL AP).p 194 [(Ty.mk 4 [45,62] 0 0 [a,b]).pv]=some [a.pv,b.pv,.bool true]:=by
 rw [ah (af:=g194) rfl rfl (by decide)]
 simp [g194]
theorem c194f {S:List Int} {t:Ty} (ht:Fit S t):∃(a b:Ty) (c:Bool),(aL AP).p 194 [t.pv]=some [a.pv,b.pv,.bool c]∧(c=true→t.kind=4∧Fit S a∧Fit S b):=by
 obtain ⟨a,b,c,e,_,_,h⟩:=c194g ht.ok
 refine ⟨a,b,c,e,?_⟩
 intro hc
 have q:=h hc
 have hk:t.kind=4:=by rw [q]
 have ha:a∈t.args:=by rw [q];simp
 have hb:b∈t.args:=by rw [q];simp
 have hn:t.kind≠1:=by rw [hk];decide
 exact ⟨hk,⟨ht.ok.iv a ha,ht.wf.iv a ha,fun w ho=>ht.m8 w (.arg hn ha ho)⟩,⟨ht.ok.iv b hb,ht.wf.iv b hb,fun w ho=>ht.m8 w (.arg hn hb ho)⟩⟩
def mD (q:aH):Option (bo×St):=some (.ret,⟨[(10,.bJ []),(11,.bJ []),(12,.pv (.bool false))],[],[],q⟩)
def lG (vs:List As) (N:Nat) (s:ef) (g w t:Ty) (args:List Ty):St:=⟨[(3,.pv (.aE (vs.map As.pv))),(4,.pv (vI N)),(5,.aB 5 0),(7,.aB 7 0),(16,.aB 16 0),(17,.aB 17 0),(18,.own (args.map Ty.pv) 0)],[(5,sC s),(7,tC g),(16,tC w),(17,tC t)],[],[args.length]⟩
theorem SH {m M:Nat} {s:ef} {t w g:Ty} {args:List Ty} {vs:List As} (E:SG m M s t w g args vs) (hm:m≤30000) (hM:M≤10000000) {N:Nat} (hl:args.length<N) (hN:N≤1000) :
   (∃q,cl AP g389L1 (lG vs N s g w t args)=mD q)∨∃m' M' s' t' args',m≤m'∧m'≤m+2∧M'≤M+200000∧args'.length=args.length+1∧SG m' M' s' t' w g args' vs∧cl AP g389L1 (lG vs N s g w t args)=cl AP g389L1 (lG vs N s' g w t' args'):=by
 have hsl:=E.inv.len
 have hsm:Sm s.sl:=by unfold Sm;omega
 have k1:=c386 hsm (t:=t)
 have F:=E.t.wk E.inv
 have fr:=tT E.inv.Mb (t:=t)
 change (aL AP).p 386 [s.pv,t.pv]=some [(lp s.sl t).pv] at k1
 generalize lp s.sl t=x at *
 have hb:(args.length+1)*64≤140737488355328:=by omega
 have hlN:(args.length:Int)<N:=by omega
 have wk2:∀w∈eV m,w∈eV (m+2):=vM (by omega)
 by_cases hk:x.kind=1
 · have Em:=eZ.1 (F.m8 _ (.var hk))
   obtain ⟨i,hi⟩:∃i:Nat,x.id=i:=⟨x.id.toNat,by omega⟩
   have him:i<m:=by omega
   have his:i<s.sl.length:=by omega
   obtain ⟨o,ho⟩:=bM his
   have fi:¬qd s.sl (i:Int):=by rw [←hi];exact jD hk fr
   cases hbs:o.base with
   | true=>
     left
     obtain ⟨a,b,c,k2,h2⟩:=c194f F
     have hc:c=false:=by
       cases c with
       | false=>rfl
       | true=>have:=(h2 rfl).1;omega
     subst hc
     simp [hk,hi] at k1 k2
     rw [g389L1e]
     simp (disch:=omega) [-getElem?_pos,g389B1,lG,mD,sC,tC,hlN,k1,hk,hi,his,ho,hbs,k2]
   | false=>
     right
     have J:=m_ E.inv 1
     have hu:ub (pq s 1).sl≤m+1:=by have:=Pd (s:=(pq s 1).sl);rw [J.len] at this;exact this
     have c1:=c381 E.inv.MF (by omega) (by omega) 1000000 false
     have c2:=c381 J.MF (by omega) (by omega) 1000000 false
     have J2:=m_ E.inv 2
     have h2:=xJ ho 2
     have c4:=c393 J2.MF (by omega) (by omega) h2 ⟨true,nd m,o.home,o.base⟩
     have c3:=c69 (a:=ct m) (b:=ct (m+1:Nat))
     have c5:=c194a (a:=ct m) (b:=ct (m+1:Nat))
     have I:=Of E.inv ho fi
     have e1:pq s 1=dN s 1000000 false:=rfl
     have e2:pq s 2=dN (dN s 1000000 false) 1000000 false:=rfl
     have hl2:(pq s 2).sl.length=m+2:=J2.len
     rw [hsl] at c1
     rw [J.len,e1] at c2
     refine ⟨m+2,M+200000,ij (pq s 2) i o ⟨true,nd m,o.home,o.base⟩,ct (m+1:Nat),args++[ct m],by omega,by omega,by omega,by simp,⟨I.ik (by omega) (fun _ h=>h),pw (eZ.2 (by omega)),E.w.ik wk2,E.g.ik wk2,?_,fun x hx=>(E.vs x hx).ik wk2⟩,?_⟩
     · intro a ha
       simp at ha
       rcases ha with ha | rfl
       · exact (E.args a ha).ik wk2
       · exact pw (eZ.2 (by omega))
     · rw [e2] at c4 h2 hl2 ⊢
       generalize ij (dN (dN s 1000000 false) 1000000 false) i o ⟨true,nd m,o.home,o.base⟩=s3 at *
       generalize dN (dN s 1000000 false) 1000000 false=s2 at *
       generalize dN s 1000000 false=s1 at *
       have hi2:i<s2.sl.length:=by omega
       simp [hk,hi] at k1
       simp [ct,hbs] at c1 c2 c3 c4 c5
       simp [nd,ct] at c4
       conv=>lhs;rw [g389L1e]
       simp (disch:=omega) [-getElem?_pos,g389B1,lG,sC,tC,hlN,k1,hk,hi,his,ho,hbs,c1,c2,h2,hi2,c3,c4,c5,ct,hb]
 · obtain ⟨a,b,c,k2,h2⟩:=c194f F
   simp at k1 k2
   cases c with
   | false=>
     left
     rw [g389L1e]
     simp (disch:=omega) [-getElem?_pos,g389B1,lG,mD,sC,tC,hlN,k1,hk,k2]
   | true=>
     right
     obtain ⟨_,fa,fb⟩:=h2 rfl
     refine ⟨m,M,s,b,args++[a],by omega,by omega,by omega,by simp,⟨E.inv,fb,E.w,E.g,?_,E.vs⟩,?_⟩
     · intro y hy
       simp at hy
       rcases hy with hy | rfl
       · exact E.args y hy
       · exact fa
     · conv=>lhs;rw [g389L1e]
       simp (disch:=omega) [-getElem?_pos,g389B1,lG,sC,tC,hlN,k1,hk,k2,hb]
theorem Pg {vs:List As} {N:Nat} (hN:N≤1000) {w g:Ty}:∀(k m M:Nat) (s:ef) (t:Ty) (args:List Ty),N-args.length=k→args.length≤N→SG m M s t w g args vs→m+2*k≤30000→M+200000*k≤10000000 →
   (∃q,cl AP g389L1 (lG vs N s g w t args)=mD q)∨∃m' M' s' t' args',m'≤30000∧M'≤10000000∧args'.length=N∧SG m' M' s' t' w g args' vs∧cl AP g389L1 (lG vs N s g w t args)=some (.exit 2,⟨[(3,.pv (.aE (vs.map As.pv))),(4,.pv (vI N)),(5,.aB 5 0),(7,.aB 7 0),(16,.aB 16 0),(17,.aB 17 0),(18,.own (args'.map Ty.pv) 0),(59,.pv (.bool false))],[(5,sC s'),(7,tC g),(16,tC w),(17,tC t')],[],[args'.length]⟩)
 | 0,m,M,s,t,args,hk,ha,E,h1,h2=>by
   have hl:args.length=N:=by omega
   refine .inr ⟨m,M,s,t,args,by omega,by omega,hl,E,?_⟩
   rw [g389L1e]
   simp [g389B1,lG,sC,tC,hl]
 | k+1,m,M,s,t,args,hk,ha,E,h1,h2=>by
   rcases SH E (by omega) (by omega) (N:=N) (by omega) hN with h | ⟨m',M',s',t',args',a1,a2,a3,a4,E',e⟩
   · exact .inl h
   · rw [e]
     exact Pg hN k m' M' s' t' args' (by omega) (by omega) E' (by omega) (by omega)
end Go.Ab.Lw
namespace Go.Ab.Lw
open Ev
def IN (u:Ty):Prop:=AL u∧u.nodes.length≤4000
theorem Ph {m M:Nat} {s:ef} (I:Inv m M (eV m) s) (hm:m≤1000000) {vs:List As} (hv:vs.length≤100000) (hF:∀x∈vs,Fit (eV m) x.ty) {args:List Ty}:∀(k i:Nat),vs.length-i=k→i≤vs.length→∀acc:List Ty,acc.length=i→(∀u∈acc,IN u) →
   (∃q,cl AP g389L2 ⟨[(3,.pv (.aE (vs.map As.pv))),(5,.aB 5 0),(18,.own (args.map Ty.pv) 0),(29,.own (acc.map Ty.pv) 1),(30,.pv (vI i))],[(5,sC s)],[],[args.length,acc.length]⟩=mD q) ∨
   ∃us:List Ty,us.length=vs.length∧(∀u∈us,IN u)∧cl AP g389L2 ⟨[(3,.pv (.aE (vs.map As.pv))),(5,.aB 5 0),(18,.own (args.map Ty.pv) 0),(29,.own (acc.map Ty.pv) 1),(30,.pv (vI i))],[(5,sC s)],[],[args.length,acc.length]⟩ =
     some (.exit 4,⟨[(3,.pv (.aE (vs.map As.pv))),(5,.aB 5 0),(18,.own (args.map Ty.pv) 0),(29,.own (us.map Ty.pv) 1),(30,.pv (vI vs.length)),(153,.pv (.bool false))],[(5,sC s)],[],[args.length,us.length]⟩)
 | 0,i,hk,hi,acc,ha,hu=>by
   have:i=vs.length:=by omega
   subst this
   refine .inr ⟨acc,ha,hu,?_⟩
   rw [g389L2e]
   simp [g389B2,sC]
 | k+1,i,hk,hi,acc,ha,hu=>by
   have hi:i<vs.length:=by omega
   obtain ⟨x,hx⟩:=bM hi
   have fx:=hF x (bA hx)
   have hsm:Sm s.sl:=by unfold Sm;rw [I.len];omega
   obtain ⟨r,k1,_,_,_⟩:=c355 hsm I.ok (m:=200) (by omega) fx.ok
   have hb:(acc.length+1)*64≤140737488355328:=by omega
   by_cases hr:(200:Int)<r
   · left
     simp at k1
     rw [g389L2e]
     simp (disch:=omega) [-getElem?_pos,g389B2,mD,sC,hx,hi,k1,hr]
   · obtain ⟨u,b,k2,hu1,hu2⟩:=c358k hsm I.ok I.wf ⟨fx.ok,fx.wf⟩
     have ih:=Ph I hm hv hF (args:=args) k (i+1) (by omega) (by omega) (acc++[u]) (by simp;omega) (by
       intro y hy;simp at hy;rcases hy with hy | rfl
       · exact hu y hy
       · exact ⟨hu1,hu2⟩)
     have e1:cl AP g389L2 ⟨[(3,.pv (.aE (vs.map As.pv))),(5,.aB 5 0),(18,.own (args.map Ty.pv) 0),(29,.own (acc.map Ty.pv) 1),(30,.pv (vI i))],[(5,sC s)],[],[args.length,acc.length]⟩=cl AP g389L2 ⟨[(3,.pv (.aE (vs.map As.pv))),(5,.aB 5 0),(18,.own (args.map Ty.pv) 0),(29,.own ((acc++[u]).map Ty.pv) 1),(30,.pv (vI (i+1:Nat)))],[(5,sC s)],[],[args.length,(acc++[u]).length]⟩:=by
       simp at k1 k2
       conv=>lhs;rw [g389L2e]
       simp (disch:=omega) [-getElem?_pos,g389B2,sC,hx,hi,k1,hr,k2,hb,az]
     rw [e1]
     exact ih
theorem Pj {m M:Nat} {s:ef} (I:Inv m M (eV m) s) (hm:m≤1000000) {p3:PV} {args:List Ty} (hv:args.length≤100000) (hF:∀x∈args,Fit (eV m) x) {V:Nat}:∀(k i:Nat),args.length-i=k→i≤args.length→∀acc:List Ty,acc.length≤V+i→V≤100000→(∀u∈acc,IN u) →
   ∃us:List Ty,us.length≤V+args.length∧(∀u∈us,IN u)∧acc.length≤us.length∧cl AP g389L3 ⟨[(3,.pv p3),(5,.aB 5 0),(18,.own (args.map Ty.pv) 0),(29,.own (acc.map Ty.pv) 1),(33,.pv (vI i))],[(5,sC s)],[],[args.length,acc.length]⟩ =
     some (.exit 6,⟨[(3,.pv p3),(5,.aB 5 0),(18,.own (args.map Ty.pv) 0),(29,.own (us.map Ty.pv) 1),(33,.pv (vI args.length)),(181,.pv (.bool false))],[(5,sC s)],[],[args.length,us.length]⟩)
 | 0,i,hk,hi,acc,ha,hV,hu=>by
   have:i=args.length:=by omega
   subst this
   refine ⟨acc,ha,hu,Nat.le_refl _,?_⟩
   rw [g389L3e]
   simp [g389B3,sC]
 | k+1,i,hk,hi,acc,ha,hV,hu=>by
   have hi:i<args.length:=by omega
   obtain ⟨x,hx⟩:=bM hi
   have fx:=hF x (bA hx)
   have hsm:Sm s.sl:=by unfold Sm;rw [I.len];omega
   have hb:(acc.length+1)*64≤140737488355328:=by omega
   obtain ⟨u,b,k2,hu1,hu2⟩:=c358k hsm I.ok I.wf ⟨fx.ok,fx.wf⟩
   obtain ⟨us,q1,q2,q3,e⟩:=Pj I hm hv hF (p3:=p3) (V:=V) k (i+1) (by omega) (by omega) (acc++[u]) (by simp;omega) hV (by
       intro y hy;simp at hy;rcases hy with hy | rfl
       · exact hu y hy
       · exact ⟨hu1,hu2⟩)
   refine ⟨us,q1,q2,by simp at q3;omega,?_⟩
   rw [g389L3e] at e ⊢
   simp [sC] at e
   simp at k2
   simp (disch:=omega) [-getElem?_pos,g389B3,sC,hx,hi,k2,hb,az]
   rw [g389L3e]
   simp [e]
theorem Og {l:List Ty} {t:Ty}:∀w,iH (t.m7 l) w→iH t w∨∃x∈l,iH x w:=by
 refine Ty.gg (p:=fun t=>∀w,iH (t.m7 l) w→iH t w∨∃x∈l,iH x w) ?_ t
 intro t ih w h
 rw [Ty.mq] at h
 cases e:LY l t with
 | some x=>
   rw [e] at h
   obtain ⟨_,_,_,hx⟩:=mo e
   exact .inr ⟨x,bA hx,h⟩
 | none=>
   rw [e] at h
   simp only [Option.getD_none] at h
   generalize hy:(Ty.mk t.kind t.name t.id t.home (t.args.map (Ty.m7 l)))=y at h
   cases h with
   | var q=>subst hy;exact .inl (.var q)
   | arg q ha ho=>
     subst hy
     simp only [List.mem_map] at ha
     obtain ⟨a,ha,rfl⟩:=ha
     rcases ih a ha _ ho with h | h
     · exact .inl (.arg q ha h)
     · exact .inr h
theorem SI {sz τ:Nat} {l:List PV} {k:IntKind} {h:Int} (h0:0≤h) (h1:h≤l.length) (hs:bF sz l=true):db false sz true false false [.own l τ,.pv (.int k h)]=some (.pv (.aE (l.drop h.toNat))):=by
 simp [db,cN,eF,h0,h1,hs]
end Go.Ab.Lw
namespace Go.Ab.Lw
open Ev
abbrev Mt:=List (Int×Ty)
def lx:Mt→Int→Option Ty
 | [],_=>none
 | (j,x)::r,i=>if i=j then some x else lx r i
def qf:Mt→Int→Ty→Mt
 | [],i,t=>[(i,t)]
 | (j,x)::r,i,t=>if i=j then (i,t)::r else (j,x)::qf r i t
def mp (m:Mt):List (PV×PV):=m.map fun a=>(vI a.1,a.2.pv)
theorem rM {i j:Int} {t:Ty}:∀{m:Mt},lx (qf m i t) j=if j=i then some t else lx m j
 | []=>by simp [qf,lx]
 | (k,x)::r=>by
   have ih:=rM (i:=i) (j:=j) (t:=t) (m:=r)
   simp only [qf,lx]
   by_cases e:i=k
   · subst e
     by_cases e2:j=i<;>simp [lx,e2]
   · by_cases e2:j=i
     · subst e2;simp [lx,e,ih]
     · have e':¬k=i:=fun h=>e h.symm
       by_cases e3:j=k<;>simp [lx,e,e',e2,e3,ih]
def Eb (m:Mt):Prop:=∀i x,lx m i=some x→x.Ok
theorem Eb.put {m:Mt} (h:Eb m) {t:Ty} (ht:t.Ok) {i:Int}:Eb (qf m i t):=by
 intro j x hx
 rw [rM] at hx
 split at hx
 · cases hx;exact ht
 · exact h j x hx
def SJ (p t:Ty):Bool:=decide (p.kind=t.kind) && decide (p.name=t.name) && decide (p.id=t.id) && decide (p.home=t.home) && decide (p.args.length=t.args.length)
end Go.Ab.Lw
namespace Go.Ab.Lw
open Ev
def Ua:Ty:=⟨0,[],0,0,[]⟩
def ie (m:Mt) (n:Nat):List Ty:=(List.range n).map fun i:Nat=>(lx m i).getD Ua
theorem jh {m:Mt} {n:Nat}:(ie m n).length=n:=by simp [ie]
def rI:Option (List Ty)→List PV
 | some l=>[.aE (l.map Ty.pv),.bool true]
 | none=>[.aE [],.bool false]
end Go.Ab.Lw
namespace Go.Ab.Lw
open Ev
def Pk (m:Mt) (n:Nat):List Bool:=(List.range n).map fun i:Nat=>(lx m i).isSome
theorem rN {m:Mt} {n:Nat}:(Pk m n).length=n:=by simp [Pk]
theorem qg {m:Mt} {n i:Nat} (h:i<n):(ie m n)[i]?=some ((lx m i).getD Ua):=by simp [ie,h]
theorem xK {m:Mt} {n i:Nat} (h:i<n):(Pk m n)[i]?=some (lx m i).isSome:=by simp [Pk,h]
theorem IP {m:Mt} {n i:Nat} {t:Ty}:ie (qf m i t) n=(ie m n).set i t:=by
 apply List.ext_getElem?
 intro j
 by_cases hj:j<n
 · rw [qg hj,List.getElem?_set,rM]
   by_cases e:i=j
   · subst e;simp [jh,hj]
   · have e':¬(j:Int)=i:=by omega
     simp [e,e',qg hj]
 · rw [List.getElem?_eq_none (by rw [jh];omega),List.getElem?_eq_none (by simp [jh];omega)]
theorem Oh {m:Mt} {n i:Nat} {t:Ty}:Pk (qf m i t) n=(Pk m n).set i true:=by
 apply List.ext_getElem?
 intro j
 by_cases hj:j<n
 · rw [xK hj,List.getElem?_set,rM]
   by_cases e:i=j
   · subst e;simp [rN,hj]
   · have e':¬(j:Int)=i:=by omega
     simp [e,e',xK hj]
 · rw [List.getElem?_eq_none (by rw [rN];omega),List.getElem?_eq_none (by simp [rN];omega)]
theorem vN:∀{l:List Ty} {i:Nat},i≤l.length→(l.flatMap Ty.cl).take (i*5)=(l.take i).flatMap Ty.cl
 | _,0,_=>by simp
 | [],i+1,h=>by simp at h
 | a::r,i+1,h=>by
   have ih:=vN (l:=r) (i:=i) (by simp at h;omega)
   have e:(i+1)*5=a.cl.length+i*5:=by simp [Ty.cl];omega
   rw [List.flatMap_cons,List.take_succ_cons,List.flatMap_cons,e,List.take_length_add_append,ih]
theorem qh:∀{l:List Ty} {i:Nat},i≤l.length→(l.flatMap Ty.cl).drop (i*5)=(l.drop i).flatMap Ty.cl
 | _,0,_=>by simp
 | [],i+1,h=>by simp at h
 | a::r,i+1,h=>by
   have ih:=qh (l:=r) (i:=i) (by simp at h;omega)
   have e:(i+1)*5=a.cl.length+i*5:=by simp [Ty.cl];omega
   rw [List.flatMap_cons,List.drop_succ_cons,e,List.drop_length_add_append,ih]
theorem Oi {l:List Ty} {i:Nat} {t:Ty} (h:i<l.length):bn (kh l 0) (i*5) t.cl=kh (l.set i t) 0:=by
 have e0:∀l:List Ty,kh l 0=l.flatMap Ty.cl:=fun l=>by simp [kh]
 rw [aI,e0,e0,vN (by omega)]
 have e1:i*5+t.cl.length=(i+1)*5:=by simp [Ty.cl];omega
 rw [e1,qh (by omega),List.set_eq_take_append_cons_drop,if_pos h]
 simp
theorem Oj {l:List Ty} {i:Nat} {x:Ty} (h:l[i]?=some x):((kh l 0).drop (i*5)).take 5=x.cl:=by
 have hi:i<l.length:=(List.getElem?_eq_some_iff.1 h).1
 have e0:kh l 0=l.flatMap Ty.cl:=by simp [kh]
 rw [e0,qh (by omega),cX h,List.flatMap_cons]
 have:(5:Nat)=x.cl.length:=by simp [Ty.cl]
 rw [this,List.take_left]
mutual
noncomputable def Ty.rt (t:Ty) (m:Mt):Ty→Bool×Mt
 | ⟨k,n,i,h,as⟩=>if k=2 then (match lx m i with | some x=>(decide (x=t),m) | none=>(true,qf m i t)) else if SJ ⟨k,n,i,h,as⟩ t=true then Ty.Fe t.args m as else (false,m)
noncomputable def Ty.Fe (ts:List Ty) (m:Mt):List Ty→Bool×Mt
 | []=>(true,m)
 | p::ps=>match ts with
   | []=>(true,m)
   | t::ts=>if (Ty.rt t m p).1=true then Ty.Fe ts (Ty.rt t m p).2 ps else (false,(Ty.rt t m p).2)
end
theorem Ty.Pl (t:Ty) (m:Mt) (p:Ty):Ty.rt t m p=if p.kind=2 then (match lx m p.id with | some x=>(decide (x=t),m) | none=>(true,qf m p.id t)) else if SJ p t=true then Ty.Fe t.args m p.args else (false,m):=by
 cases p;simp only [Ty.rt]
end Go.Ab.Lw
namespace Go.Ab.Lw
open Ev
def A1 (m:Mt) (n:Nat):List AV:=(Pk m n).map fun b=>.pv (.bool b)
theorem xL {m:Mt} {n:Nat}:(A1 m n).length=n:=by simp [A1,rN]
theorem Ol {m:Mt} {n i:Nat} (h:i<n):(A1 m n)[i]?=some (.pv (.bool (lx m i).isSome)):=by simp [A1,xK h]
theorem Ec {m:Mt} {n:Nat}:∀v∈A1 m n,∃p,v=AV.pv p:=by
 intro v hv
 simp only [A1,List.mem_map] at hv
 obtain ⟨b,_,rfl⟩:=hv
 exact ⟨_,rfl⟩
theorem AM {m:Mt} {n:Nat}:c_ (A1 m n)=false:=eK Ec
theorem Om {m:Mt} {n i:Nat} {t:Ty} (h:i<n):bn (A1 m n) (i*1) [.pv (.bool true)]=A1 (qf m i t) n:=by
 have hl:i<(A1 m n).length:=by rw [xL];exact h
 rw [aI]
 have e:A1 (qf m i t) n=(A1 m n).set i (.pv (.bool true)):=by
   unfold A1
   rw [Oh,List.map_set]
 rw [e,List.set_eq_take_append_cons_drop,if_pos hl]
 simp
theorem On {m:Mt} {n i:Nat} {t:Ty} (h:i<n):bn (kh (ie m n) 0) (i*5) t.cl=kh (ie (qf m i t) n) 0:=by
 rw [IP];exact Oi (by rw [jh];exact h)
def nI (m:Mt) (n:Nat):Sh:=[some (kh (ie m n) 0),some (A1 m n)]
theorem eL {m:Mt} {n:Nat}:bN (nI m n):=bN.app (bN.one xx) (bN.one Ec)
theorem AN {m m':Mt} {n n':Nat}:(nI m' n').take (nI m n).length=nI m' n':=rfl
def Oo (n:Nat) (p:Ty):Prop:=∀x∈p.nodes,x.kind=2→0≤x.id∧x.id<n
theorem Oo.iv {n:Nat} {p:Ty} (h:Oo n p):∀y∈p.args,Oo n y:=by
 intro y hy x hx
 refine h x ?_
 rw [Ty.aS p]
 simp only [List.mem_cons,List.mem_flatMap]
 exact .inr ⟨y,hy,hx⟩
theorem Mj:∀{ps ts:List Ty} {m:Mt},(∀p∈ps,∀t∈ts,∀m,Eb m→Eb (Ty.rt t m p).2)→Eb m→Eb (Ty.Fe ts m ps).2
 | [],ts,m,_,h=>by simpa [Ty.Fe] using h
 | p::ps,[],m,_,h=>by simpa [Ty.Fe] using h
 | p::ps,t::ts,m,hp,h=>by
   have h1:=hp p (by simp) t (by simp) m h
   simp only [Ty.Fe]
   split
   · exact Mj (fun q hq u hu=>hp q (by simp [hq]) u (by simp [hu])) h1
   · exact h1
theorem SK {p:Ty}:∀{t:Ty},t.Ok→∀m,Eb m→Eb (Ty.rt t m p).2:=by
 refine Ty.gg (p:=fun p=>∀{t:Ty},t.Ok→∀m,Eb m→Eb (Ty.rt t m p).2) ?_ p
 intro p ih t ht m hm
 rw [Ty.Pl]
 split
 · split
   · exact hm
   · exact hm.put ht
 · split
   · exact Mj (fun q hq u hu m hm=>ih q hq (ht.iv u hu) m hm) hm
   · exact hm
theorem SL {N:Nat} {p t:Ty} (hS:Sm t.args) (hl:p.args.length=t.args.length) (h:∀x∈p.args,∀y∈t.args,∀m,Eb m→(aL AP).i 240 [.pv x.pv,.pv y.pv,.bz 0 5 N true,.bz 1 1 N false] (nI m N) []=some ([.pv (.bool (Ty.rt y m x).1)],nI (Ty.rt y m x).2 N,[]))
   (hO:t.Ok):∀(n i:Nat),t.args.length-i=n→i≤t.args.length→∀m,Eb m →
   cl AP g240L0 ⟨[(2,.bz 0 5 N true),(3,.bz 1 1 N false),(4,.aB 4 0),(5,.aB 5 0),(9,.pv (vI i))],[(4,[.pv (vI p.kind),.pv (.str p.name),.pv (vI p.id),.pv (vI p.home),.pv (.aE (p.args.map Ty.pv))]),(5,[.pv (vI t.kind),.pv (.str t.name),.pv (vI t.id),.pv (vI t.home),.pv (.aE (t.args.map Ty.pv))])],nI m N,[]⟩ =
     if (Ty.Fe (t.args.drop i) m (p.args.drop i)).1=true then some (.exit 0,⟨[(2,.bz 0 5 N true),(3,.bz 1 1 N false),(4,.aB 4 0),(5,.aB 5 0),(9,.pv (vI t.args.length)),(80,.pv (.bool false))],[(4,[.pv (vI p.kind),.pv (.str p.name),.pv (vI p.id),.pv (vI p.home),.pv (.aE (p.args.map Ty.pv))]),(5,[.pv (vI t.kind),.pv (.str t.name),.pv (vI t.id),.pv (vI t.home),.pv (.aE (t.args.map Ty.pv))])],nI (Ty.Fe (t.args.drop i) m (p.args.drop i)).2 N,[]⟩)
     else some (.ret,⟨[(8,.pv (.bool false))],[],nI (Ty.Fe (t.args.drop i) m (p.args.drop i)).2 N,[]⟩)
 | 0,i,hn,hi,m,hm=>by
   have:i=t.args.length:=by omega
   subst this
   have e1:p.args.drop t.args.length=[]:=by rw [←hl];simp
   have h1:=(eL (m:=m) (n:=N)).norm
   rw [g240L0e,e1]
   simp [g240B0,Ty.Fe,h1,hl]
 | n+1,i,hn,hi,m,hm=>by
   have hi:i<t.args.length:=by omega
   obtain ⟨y,hy⟩:=bM hi
   obtain ⟨x,hx⟩:=bM (l:=p.args) (i:=i) (by omega)
   have hix:i<p.args.length:=by omega
   unfold Sm at hS
   have h1:=(eL (m:=m) (n:=N)).norm
   have h2:=(eL (m:=(Ty.rt y m x).2) (n:=N)).norm
   have h3:=(eL (m:=(Ty.rt y m x).2) (n:=N)).shift
   have k:=h x (bA hx) y (bA hy) m hm
   have ih:=SL hS hl h hO n (i+1) (by omega) (by omega) (Ty.rt y m x).2 (SK (hO.iv y (bA hy)) m hm)
   rw [g240L0e] at ih ⊢
   rw [cX hx,cX hy]
   simp only [Ty.Fe]
   simp [h2] at k ih
   by_cases e:(Ty.rt y m x).1=true
   · rw [e] at k
     simp only [if_pos e]
     simp (disch:=omega) [-getElem?_pos,g240B0,hx,hy,hi,hix,k,az,h1,h2,h3]
     rw [g240L0e]
     simp [ih,h2]
   · have e':(Ty.rt y m x).1=false:=by simpa using e
     rw [e'] at k
     simp only [if_neg e]
     simp (disch:=omega) [-getElem?_pos,g240B0,hx,hy,hi,hix,k,az,h1,h2,h3]
theorem c240 {N:Nat} (hN:N<1099511627776) {p:Ty}:∀{t:Ty},t.Ok→Oo N p→∀m,Eb m→(aL AP).i 240 [.pv p.pv,.pv t.pv,.bz 0 5 N true,.bz 1 1 N false] (nI m N) []=some ([.pv (.bool (Ty.rt t m p).1)],nI (Ty.rt t m p).2 N,[]):=by
 refine Ty.gg (p:=fun p=>∀{t:Ty},t.Ok→Oo N p→∀m,Eb m→(aL AP).i 240 [.pv p.pv,.pv t.pv,.bz 0 5 N true,.bz 1 1 N false] (nI m N) []=some ([.pv (.bool (Ty.rt t m p).1)],nI (Ty.rt t m p).2 N,[])) ?_ p
 intro p ih t ht hR m hm
 have h1:=(eL (m:=m) (n:=N)).norm
 have h2:=(eL (m:=m) (n:=N)).shift
 rw [aP (af:=g240) rfl (by simp [g240]),Ty.Pl]
 by_cases e2:p.kind=2
 · obtain ⟨i0,i1⟩:=hR p (by rw [Ty.aS];simp) e2
   obtain ⟨k,hk,hkN⟩:=nY i0 i1
   have kl:=Ol (m:=m) hkN
   have kl2:=xL (m:=m) (n:=N)
   have al:=Am (d:=ie m N) (m:=0)
   rw [jh] at al
   have fl:=qg (m:=m) hkN
   have gl:=Oj fl
   have hlen:k*5+5≤(kh (ie m N) 0).length:=by omega
   have hk1:k+1≤N:=hkN
   rw [if_pos e2,hk]
   cases hf:lx m k with
   | none=>
     rw [hf] at kl
     have s1:=On (m:=m) (t:=t) hkN
     have s2:=Om (m:=m) (t:=t) hkN
     have h3:=(eL (m:=qf m k t) (n:=N)).norm
     simp [nI,Ty.cl] at h1 h2 h3 kl s1 s2
     simp (disch:=omega) [-getElem?_pos,g240,e2,hk,hkN,hk1,nI,h1,h2,h3,kl,kl2,AM,s1,s2,hlen]
   | some x=>
     rw [hf] at kl gl
     have q:=c20 (a:=x) (b:=t) (hm _ _ hf)
     simp [nI,Ty.cl] at h1 h2 kl gl q
     simp (disch:=omega) [-getElem?_pos,g240,e2,hk,hkN,hk1,nI,h1,h2,kl,kl2,AM,gl,hlen,q]
 · rw [if_neg e2]
   by_cases e:SJ p t=true
   · rw [if_pos e]
     simp [SJ] at e
     obtain ⟨⟨⟨⟨e1,e2'⟩,e3⟩,e4⟩,e5⟩:=e
     have h:=SL (N:=N) (p:=p) (t:=t) ht.sm e5 (fun x hx y hy m hm=>ih x hx (ht.iv y hy) (hR.iv x hx) m hm) ht _ 0 rfl (by omega) m hm
     have h3:=(eL (m:=(Ty.Fe t.args m p.args).2) (n:=N)).norm
     rw [g240L0e] at h
     have e2t:¬t.kind=2:=by rw [←e1];exact e2
     simp [h1,e1,e2',e3,e4] at h
     cases e6:(Ty.Fe t.args m p.args).1 with
     | true=>simp [e6] at h;simp [g240,e2t,e1,e2',e3,e4,e5,h1,h2,h3,AN,g240L0e,h]
     | false=>simp [e6] at h;simp [g240,e2t,e1,e2',e3,e4,e5,h1,h2,h3,AN,g240L0e,h]
   · rw [if_neg e]
     have:¬(p.kind=t.kind∧p.name=t.name∧p.id=t.id∧p.home=t.home∧p.args.length=t.args.length):=by
       rintro ⟨h1,h2,h3,h4,h5⟩;apply e;simp [SJ,h1,h2,h3,h4,h5]
     by_cases q1:p.kind=t.kind
     · have e2':¬t.kind=2:=by rw [←q1];exact e2
       by_cases q2:p.name=t.name
       · by_cases q3:p.id=t.id
         · by_cases q4:p.home=t.home
           · have h5:¬p.args.length=t.args.length:=fun h5=>this ⟨q1,q2,q3,q4,h5⟩
             have h5':¬(p.args.length:Int)=t.args.length:=by omega
             simp [g240,e2',q1,q2,q3,q4,h5',h1,h2]
           · simp [g240,e2',q1,q2,q3,q4,h1,h2]
         · simp [g240,e2',q1,q2,q3,h1,h2]
       · simp [g240,e2',q1,q2,h1,h2]
     · simp [g240,e2,q1,h1,h2]
end Go.Ab.Lw
namespace Go.Ab.Lw
open Ev
theorem Pm {n:Nat}:kh (ie [] n) 0=(List.replicate n [.pv (vI 0),.pv (.str []),.pv (vI 0),.pv (vI 0),.pv (.aE [])]).flatten:=by
 have e:ie [] n=List.replicate n Ua:=by
   exact List.eq_replicate_iff.2 ⟨by simp [ie],by intro b hb;simp [ie,lx] at hb;exact hb.2.symm⟩
 rw [e]
 simp only [kh,List.replicate_zero,List.flatten_nil,List.append_nil,List.flatMap_def,List.map_replicate]
 rfl
theorem Ur {n:Nat}:A1 [] n=List.replicate n (.pv (.bool false)):=List.eq_replicate_iff.2 ⟨xL,by intro b hb;simp [A1,Pk,lx] at hb;exact hb.2.symm⟩
end Go.Ab.Lw
namespace Go.Ab.Lw
open Ev
theorem uD {s:List As} (hs:∀a∈s,a.ty.args=[]) {t:Ty} (hW:t.Wf):(t.sub s).nodes.length=t.nodes.length:=by
 revert hW
 refine Ty.gg (p:=fun t=>t.Wf→(t.sub s).nodes.length=t.nodes.length) ?_ t
 intro t ih hW
 rw [Ty.sub_eq]
 by_cases e:t.kind=1
 · rw [if_pos e]
   have ea:=hW.var e
   cases hf:lg s t.id with
   | none=>rfl
   | some u=>
     obtain ⟨a,ha,rfl⟩:=mY hf
     rw [Option.getD_some,Ty.aS,Ty.aS t,hs a ha,ea];simp
 · rw [if_neg e,Ty.aS,Ty.aS t]
   simp only [List.length_cons,List.flatMap_map]
   have key:∀(l:List Ty),(∀y∈l,y∈t.args)→(l.flatMap fun y=>(y.sub s).nodes).length=(l.flatMap Ty.nodes).length:=by
     intro l
     induction l with
     | nil=>intro _;rfl
     | cons a r ihr=>
       intro hl
       simp only [List.flatMap_cons,List.length_append]
       rw [ih a (hl a (by simp)) (hW.iv a (hl a (by simp))),ihr (fun y hy=>hl y (by simp [hy]))]
   rw [key t.args (fun _ h=>h)]
end Go.Ab.Lw
namespace Go.Ab.Lw
open Ev
noncomputable def Mk (N:Nat) (p t:Ty):Option (List Ty):=if (Ty.rt t [] p).1=true then some (ie (Ty.rt t [] p).2 N) else none
theorem c238 {N:Nat} (hN:N<1000000) {p t:Ty} (ht:t.Ok) (hR:Oo N p):(aL AP).p 238 [(As.mk N p).pv,t.pv]=some (rI (Mk N p t)):=by
 have k:=c240 (N:=N) (by omega) ht hR [] (by intro i x h;cases h)
 rw [ah (af:=g238) rfl rfl (by decide)]
 unfold Mk
 generalize hm:(Ty.rt t [] p).2=m at k ⊢
 have hfr:=LH (d:=ie m N)
 have hle:=Am (d:=ie m N) (m:=0)
 rw [jh] at hfr hle
 have h1:=(eL (m:=[]) (n:=N)).norm
 have h2:=(eL (m:=m) (n:=N)).norm
 have h3:=(eL (m:=m) (n:=N)).shift
 have h4:=(bN.one (xx (d:=ie [] N) (m:=0))).norm
 have b1:(N:Int)≤9223372036854775807:=by omega
 have b2:(N:Int)*64≤140737488355328:=by omega
 have b3:(N:Int)≤140737488355328:=by omega
 have e0:nI [] N=[some ((List.replicate N [.pv (vI 0),.pv (.str []),.pv (vI 0),.pv (vI 0),.pv (.aE [])]).flatten),some (List.replicate N (.pv (.bool false)))]:=by unfold nI;rw [Pm,Ur]
 rw [e0] at k h1
 rw [Pm] at h4
 have h5:=(bN.one (Ec (m:=[]) (n:=N))).norm
 rw [Ur] at h5
 simp [nI] at hfr hle k h1 h2 h3 h4 h5
 cases e:(Ty.rt t [] p).1 with
 | true=>
   rw [e] at k
   simp (disch:=omega) [g238,b1,b2,b3,h1,h2,h3,h4,h5,k,hfr,hle,rI]
 | false=>
   rw [e] at k
   simp (disch:=omega) [g238,b1,b2,b3,h1,h2,h3,h4,h5,k,rI]
end Go.Ab.Lw
namespace Go.Ab.Lw
open Ev
theorem Ff:∀{l:List Int} {i:Nat} {v:Int} {x:Ty},lg (il i l) v=some x→∃k:Nat,x=ct k
 | [],i,v,x,h=>by simp [il,lg] at h
 | a::r,i,v,x,h=>by
   simp only [il,lg] at h
   split at h
   · cases h;exact ⟨i,rfl⟩
   · exact Ff h
theorem vO {l:List Int} {i:Nat}:∀a∈il i l,a.ty.args=[]:=by
 induction l generalizing i with
 | nil=>simp [il]
 | cons v r ih=>
   intro a ha
   simp only [il,List.mem_cons] at ha
   rcases ha with rfl | ha
   · rfl
   · exact ih a ha
theorem Oq {l:List Int} {i:Nat}:∀a∈il i l,a.ty.Ok:=fun a ha=>df (vO a ha)
theorem Ot {l:List Int} {u:Ty} (h:IN u):IN (u.sub (il 0 l)):=by
 refine ⟨⟨DY Oq h.1.1,?_⟩,?_⟩
 · refine D2 (K:=KS) h.1.2 (fun k q _=>q) ?_ (.inl (by simp))
   intro i x hx
   obtain ⟨k,rfl⟩:=Ff hx
   exact tU
 · rw [uD vO h.1.2.wf]
   exact h.2
theorem Ml {l:List Ty} {k:Int} (h:∀u∈l,IN u):(l.flatMap (Ty.ff k)).length≤l.length*4000:=by
 induction l with
 | nil=>simp
 | cons a r ih=>
   have h1:=(h a (by simp)).2
   have h2:=pk (k:=k) (t:=a)
   have h3:=ih fun u hu=>h u (by simp [hu])
   simp only [List.flatMap_cons,List.length_append,List.length_cons]
   omega
theorem c395k {l:List Ty} (hl:l.length≤1000000) (h:∀u∈l,IN u):(aL AP).i 395 [.pv (.aE (l.map Ty.pv))] [] []=some ([.own ((l.map (Ty.sub (il 0 (vars l)))).map Ty.pv) 0],[],[l.length]):=by
 have hlen:=Ml (k:=1) h
 refine c395i (S:=l.flatMap (Ty.ff 1)) (by omega) ?_ (by unfold Sm;omega) ?_
 · intro x hx
   simp only [List.mem_flatMap] at hx
   obtain ⟨u,_,hx⟩:=hx
   exact df (mA x hx)
 · intro t ht
   refine ⟨(h t ht).1.1,(h t ht).1.2.wf,?_⟩
   intro x hx
   simp only [List.mem_flatMap]
   exact ⟨t,ht,hx⟩
structure To (n M:Nat) (s:ef) (c:Sc) (K:Nat) (g:Ty) (vs:List As):Prop where
 inv:Inv n M (eV n) s
 hn:n≤6000
 hm:M≤1000000
 id:c.id=K
 k:K≤100
 ok:c.ty.Ok
 kn:c.ty.Kn KV
 SM:Oo K c.ty
 m8:∀w,iH c.ty w→w∈eV n
 g:Fit (eV n) g
 UH:∀x∈vs,Fit (eV n) x.ty
 vl:vs.length≤5000
theorem c389 {n M:Nat} {s:ef} {c:Sc} {K:Nat} {g:Ty} {vs:List As} (E:To n M s c K g vs) {N:Nat} (hN:N≤10):∃(l1 l2:List Ty) (b:Bool),
   (aL AP).p 389 [s.pv,c.pv,g.pv,.aE (vs.map As.pv),vI N]=some [.aE (l1.map Ty.pv),.aE (l2.map Ty.pv),.bool b]∧(∀u∈l1++l2,IN u)∧l1.length≤6000∧l2.length≤10:=by
 have h0:=Pe E.inv E.id (by have:=E.hn;have:=E.k;omega) (by have:=E.hm;omega) (g:=g) (p3:=.aE (vs.map As.pv)) (p4:=vI N) K 0 (by omega) (by omega) [] rfl
 have I1:=m_ E.inv K
 have hnk:n+K≤6100:=by have:=E.hn;have:=E.k;omega
 have hM1:M+K*(2*(n+K)+4)≤5000000:=by
   have:K*(2*(n+K)+4)≤100*12204:=Nat.mul_le_mul E.k (by omega)
   have:=E.hm
   omega
 have e0:pq s 0=s:=rfl
 rw [e0] at h0
 have hin:([]++(List.range' 0 (K-0)).map fun j=>ct (n+j:Nat))=(List.range K).map fun j=>ct (n+j:Nat):=by rw [List.nil_append,Nat.sub_zero,List.range_eq_range']
 rw [hin] at h0
 have hiv:∀x∈(List.range K).map (fun j=>ct (n+j:Nat)),∃j:Nat,j<K∧x=ct (n+j:Nat):=by
   intro x hx
   simp only [List.mem_map,List.mem_range] at hx
   obtain ⟨j,hj,rfl⟩:=hx
   exact ⟨j,hj,rfl⟩
 have hil:((List.range K).map (fun j=>ct (n+j:Nat))).length=K:=by simp
 generalize (List.range K).map (fun j=>ct (n+j:Nat))=ins at *
 have hii:∀x∈ins,Fit (eV (n+K)) x:=by
   intro x hx
   obtain ⟨j,hj,rfl⟩:=hiv x hx
   exact pw (eZ.2 (by omega))
 have k1:=c48 (s:=ins) (by unfold Sm;omega) E.ok
 have mono:=vM (n:=n) (m:=n+K) (by omega)
 have W:Fit (eV (n+K)) (c.ty.m7 ins):=by
   refine ⟨L0 (fun x hx=>(hii x hx).ok) E.ok,L1 E.kn (by simp only [KV,KS];omega) (fun x hx=>(hii x hx).wf) (fun y hy hk=>by have:=E.SM y hy hk;omega),?_⟩
   intro w ho
   rcases Og w ho with h | ⟨x,hx,h⟩
   · exact mono w (E.m8 w h)
   · exact (hii x hx).m8 w h
 have X:SG (n+K) (M+K*(2*(n+K)+4)) (pq s K) (c.ty.m7 ins) (c.ty.m7 ins) g [] vs:=⟨I1,W,W,E.g.ik mono,by simp,fun x hx=>(E.UH x hx).ik mono⟩
 generalize c.ty.m7 ins=w at *
 generalize pq s K=s1 at *
 have hpv:c.pv=.agg [vI c.id,vI c.ty.kind,.str c.ty.name,vI c.ty.id,vI c.ty.home,.aE (c.ty.args.map Ty.pv)]:=rfl
 have hK:=E.id
 rw [g389L0e] at h0
 simp [sC,AJ,tC,hK] at h0 k1
 have bad:∀r,(aL AP).p 389 [s.pv,c.pv,g.pv,.aE (vs.map As.pv),vI N]=some [.aE [],.aE [],.bool false]→r=r→∃(l1 l2:List Ty) (b:Bool),
     (aL AP).p 389 [s.pv,c.pv,g.pv,.aE (vs.map As.pv),vI N]=some [.aE (l1.map Ty.pv),.aE (l2.map Ty.pv),.bool b]∧(∀u∈l1++l2,IN u)∧l1.length≤6000∧l2.length≤10:=fun (_:Nat) h _=>⟨[],[],false,h,by simp,by simp,by simp⟩
 rcases Pg (vs:=vs) (N:=N) (by omega) N (n+K) _ s1 w [] (by simp) (by simp) X (by omega) (by omega) with ⟨q,h1⟩ | ⟨m,M',s2,t2,args,hm,hM,NX,E2,h1⟩
 · refine bad 0 ?_ rfl
   rw [g389L1e] at h1
   simp [lG,mD,sC,tC] at h1
   rw [ah (af:=g389) rfl rfl (by decide)]
   simp [g389,hK,g389L0e,h0,k1,g389L1e,h1]
 · have hsl:=E2.inv.len
   have hsm:Sm s2.sl:=by unfold Sm;omega
   have k2:=c386 hsm (t:=t2)
   have F:=E2.t.wk E2.inv
   change (aL AP).p 386 [s2.pv,t2.pv]=some [(lp s2.sl t2).pv] at k2
   generalize lp s2.sl t2=x at *
   obtain ⟨a,b,cc,k3,_⟩:=c194f F
   rw [g389L1e] at h1
   simp [lG,sC,tC] at h1 k2 k3
   cases cc with
   | true=>
     refine bad 0 ?_ rfl
     rw [ah (af:=g389) rfl rfl (by decide)]
     simp [g389,hK,g389L0e,h0,k1,g389L1e,h1,k2,k3]
   | false=>
     have nl:∀w∈eV m,w<m:=fun w h=>(eZ.1 h).2
     obtain ⟨s3,k4,I3⟩:=c394 (Qz (by omega) (by omega)) nl E2.inv F
     obtain ⟨s4,k5,I4⟩:=c394 (Qz (by omega) (by omega)) nl I3 E2.g
     obtain ⟨s5,e,k6,I5⟩:=c385 (Qz (by omega) (by omega)) I4 F E2.g
     have hsm5:Sm s5.sl:=by unfold Sm;rw [I5.len];omega
     obtain ⟨r,k7,_,_,_⟩:=c355 hsm5 I5.ok (m:=200) (by omega) E2.w.ok
     simp at k4 k5 k6 k7
     by_cases he:e=0
     · subst he
       by_cases hr:(200:Int)<r
       · refine bad 0 ?_ rfl
         rw [ah (af:=g389) rfl rfl (by decide)]
         simp [g389,hK,g389L0e,h0,k1,g389L1e,h1,k2,k3,k4,k5,k6,k7,hr]
       · rcases Ph I5 (by omega) (vs:=vs) (by have:=E.vl;omega) E2.vs (args:=args) _ 0 rfl (by omega) [] rfl (by simp) with ⟨q,h2⟩ | ⟨us,hul,huo,h2⟩
         · refine bad 0 ?_ rfl
           rw [g389L2e] at h2
           simp [mD,sC] at h2
           rw [ah (af:=g389) rfl rfl (by decide)]
           simp [g389,hK,g389L0e,h0,k1,g389L1e,h1,k2,k3,k4,k5,k6,k7,hr,g389L2e,h2]
         · obtain ⟨vs2,g1,g2,g3,h3⟩:=Pj I5 (by omega) (p3:=.aE (vs.map As.pv)) (args:=args) (by omega) E2.args (V:=vs.length) _ 0 rfl (by omega) us (by omega) (by have:=E.vl;omega) huo
           have hvl:=E.vl
           have k8:=c395k (l:=vs2) (by omega) g2
           have hl3:(vs2.map (Ty.sub (il 0 (vars vs2)))).length=vs2.length:=by simp
           have ho3:∀u∈vs2.map (Ty.sub (il 0 (vars vs2))),IN u:=by
             intro u hu
             simp only [List.mem_map] at hu
             obtain ⟨y,hy,rfl⟩:=hu
             exact Ot (g2 y hy)
           generalize vs2.map (Ty.sub (il 0 (vars vs2)))=l at *
           refine ⟨l.take vs.length,l.drop vs.length,true,?_,by rw [List.take_append_drop];exact ho3,by simp;omega,by simp;omega⟩
           have q1:=Si (sz:=5) (τ:=2) (l:=l.map Ty.pv) (k:=.i64) (h:=(vs.length:Int)) (by omega) (by simp;omega)
           have q2:=SI (sz:=5) (τ:=2) (l:=l.map Ty.pv) (k:=.i64) (h:=(vs.length:Int)) (by omega) (by simp;omega) (EN.head l)
           rw [g389L2e] at h2
           rw [g389L3e] at h3
           simp [sC] at h2 h3
           simp at k8 q1 q2
           rw [ah (af:=g389) rfl rfl (by decide)]
           simp [g389,hK,g389L0e,h0,k1,g389L1e,h1,k2,k3,k4,k5,k6,k7,hr,g389L2e,h2,g389L3e,h3,k8,q1,q2]
     · refine bad 0 ?_ rfl
       rw [ah (af:=g389) rfl rfl (by decide)]
       simp [g389,hK,g389L0e,h0,k1,g389L1e,h1,k2,k3,k4,k5,k6,he]
end Go.Ab.Lw
namespace Go.Ab.Lw
open Ev
structure Hd where
 name:cm
 gU:Bool
 args:List Ty
 types:List Ty
def Hd.pv (h:Hd):PV:=.agg [.str h.name,.bool h.gU,.aE (h.args.map Ty.pv),.aE (h.types.map Ty.pv)]
@[simp] theorem Hd.mg (h:Hd):h.pv=.agg [.str h.name,.bool h.gU,.aE (h.args.map Ty.pv),.aE (h.types.map Ty.pv)]:=rfl
theorem Mm:El Hd.pv 4 true:=⟨fun _=>rfl,fun _=>rfl⟩
@[simp] theorem Q9 {l:List Hd}:bF 4 (l.map Hd.pv)=true:=Mm.head l
def tW (h:Hd):Prop:=h.args.length≤10∧(∀u∈h.args,IN u)∧h.name.length≤100
def hC (nm:cm) (cn:Bool):List AV:=[.pv (.str nm),.pv (.bool cn),.pv (.aE []),.pv (.aE [])]
theorem QC {n M:Nat} {s:ef} {c:Sc} {K:Nat} {g:Ty} {vs:List As} (E:To n M s c K g vs) {nm:cm} (hnm:nm.length≤100) {cn:Bool}:∀(k i:Nat),4-i=k→i≤4→∀acc:List Hd,acc.length≤i→(∀h∈acc,tW h) →
   ∃hs:List Hd,hs.length≤4∧(∀h∈hs,tW h)∧cl AP g378L0 ⟨[(3,.pv (.aE (vs.map As.pv))),(4,.pv (vI 3)),(6,.aB 6 0),(7,.aB 7 0),(8,.aB 8 0),(11,.aB 11 0),(13,.own (acc.map Hd.pv) 0),(14,.pv (vI i))],[(6,sC s),(7,AJ c),(8,tC g),(11,hC nm cn)],[],[acc.length]⟩ =
     some (.exit 0,⟨[(3,.pv (.aE (vs.map As.pv))),(4,.pv (vI 3)),(6,.aB 6 0),(7,.aB 7 0),(8,.aB 8 0),(11,.aB 11 0),(13,.own (hs.map Hd.pv) 0),(14,.pv (vI 4)),(21,.pv (.bool false))],[(6,sC s),(7,AJ c),(8,tC g),(11,hC nm cn)],[],[hs.length]⟩)
 | 0,i,hk,hi,acc,ha,ho=>by
   have:i=4:=by omega
   subst this
   refine ⟨acc,ha,ho,?_⟩
   rw [g378L0e]
   simp [g378B0,sC,AJ,tC,hC]
 | k+1,i,hk,hi,acc,ha,ho=>by
   have hi:i<4:=by omega
   have hi3:(i:Int)≤3:=by omega
   obtain ⟨l1,l2,b,e,hO,n1,n2⟩:=c389 E (N:=i) (by omega)
   simp at e
   cases b with
   | false=>
     obtain ⟨hs,h1,h2,e'⟩:=QC E (nm:=nm) hnm (cn:=cn) k (i+1) (by omega) (by omega) acc (by omega) ho
     refine ⟨hs,h1,h2,?_⟩
     rw [g378L0e] at e' ⊢
     simp [sC,AJ,tC,hC] at e'
     simp (disch:=omega) [-getElem?_pos,g378B0,sC,AJ,tC,hC,hi3,e,az]
     rw [g378L0e]
     simp [e']
   | true=>
     have hb1:l1.length*64≤140737488355328:=by omega
     have hb2:l2.length*64≤140737488355328:=by omega
     have hb3:(acc.length+1)*72≤140737488355328:=by omega
     have hh1:=EN.head l1
     have hh2:=EN.head l2
     obtain ⟨hs,h1,h2,e'⟩:=QC E (nm:=nm) hnm (cn:=cn) k (i+1) (by omega) (by omega) (acc++[⟨nm,cn,l2,l1⟩]) (by simp;omega) (by
       intro h hh;simp at hh;rcases hh with hh | rfl
       · exact ho h hh
       · exact ⟨n2,fun u hu=>hO u (by simp [hu]),hnm⟩)
     refine ⟨hs,h1,h2,?_⟩
     rw [g378L0e] at e' ⊢
     simp [sC,AJ,tC,hC] at e'
     by_cases z1:l1=[]
     · by_cases z2:l2=[]
       · subst z1;subst z2
         simp at e e'
         simp (disch:=omega) [-getElem?_pos,g378B0,sC,AJ,tC,hC,hi3,e,az,hb3]
         rw [g378L0e]
         simp [e']
       · subst z1
         simp at e e'
         simp (disch:=omega) [-getElem?_pos,g378B0,sC,AJ,tC,hC,hi3,e,az,hb2,hb3,hh2,z2]
         rw [g378L0e]
         simp [e']
     · by_cases z2:l2=[]
       · subst z2
         simp at e e'
         simp (disch:=omega) [-getElem?_pos,g378B0,sC,AJ,tC,hC,hi3,e,az,hb1,hb3,hh1,z1]
         rw [g378L0e]
         simp [e']
       · simp (disch:=omega) [-getElem?_pos,g378B0,sC,AJ,tC,hC,hi3,e,az,hb1,hb2,hb3,hh1,hh2,z1,z2]
         rw [g378L0e]
         simp [e']
theorem c378 {n M:Nat} {s:ef} {c:Sc} {K:Nat} {g:Ty} {vs:List As} (E:To n M s c K g vs) {nm:cm} (hnm:nm.length≤100) {cn:Bool}:∃hs:List Hd,hs.length≤4∧(∀h∈hs,tW h) ∧
   (aL AP).p 378 [s.pv,c.pv,g.pv,.aE (vs.map As.pv),vI 3,.agg [.str nm,.bool cn,.aE [],.aE []]]=some [.aE (hs.map Hd.pv)]:=by
 obtain ⟨hs,h1,h2,e⟩:=QC E (nm:=nm) hnm (cn:=cn) _ 0 rfl (by omega) [] (by simp) (by simp)
 refine ⟨hs,h1,h2,?_⟩
 rw [ah (af:=g378) rfl rfl (by decide)]
 rw [g378L0e] at e
 simp [sC,AJ,tC,hC] at e
 simp [g378,g378L0e,e]
end Go.Ab.Lw
namespace Go.Ab.Lw
open Ev
theorem IQ {t:Ty}:∀y∈t.args,∀v∈y.nodes,v∈t.nodes:=by
 intro y hy v hv
 rw [Ty.aS]
 simp only [List.mem_cons,List.mem_flatMap]
 exact .inr ⟨y,hy,hv⟩
theorem Kn.AO {K:Int→Prop} (t:Ty):(∀y∈t.nodes,(y.kind≠4→K y.kind∧y.args=[])∧y.name.length≤100)→t.Kn K:=by
 refine Ty.gg (p:=fun t=>(∀y∈t.nodes,(y.kind≠4→K y.kind∧y.args=[])∧y.name.length≤100)→t.Kn K) ?_ t
 intro t ih h
 refine .mk (h t (by rw [Ty.aS];simp)).1 (h t (by rw [Ty.aS];simp)).2 fun x hx=>ih x hx fun y hy=>h y (IQ x hx y hy)
theorem qZ (t:Ty):(∀y∈t.nodes,y.args.length≤100)→t.Ok:=by
 refine Ty.gg (p:=fun t=>(∀y∈t.nodes,y.args.length≤100)→t.Ok) ?_ t
 intro t ih h
 refine .mk (by have:=h t (by rw [Ty.aS];simp);unfold Sm;omega) fun x hx=>ih x hx fun y hy=>h y (IQ x hx y hy)
theorem Mn {K:Int→Prop} {t:Ty} {w:Int} (h:iH t w):t.Kn K→¬K 1→False:=by
 induction h with
 | @var t q=>intro hk h1;have:=(hk.hd (by rw [q];decide)).1;rw [q] at this;exact h1 this
 | arg _ ha _ ih=>intro hk h1;exact ih (hk.kd _ ha) h1
structure cv (t:Ty):Prop where
 ok:t.Ok
 kn:t.Kn KG
structure lO (c:Sc):Prop where
 ok:c.ty.Ok
 kn:c.ty.Kn KC
 SM:∃K:Nat,c.id=K∧K≤100∧Oo K c.ty
theorem cv.fit {S:List Int} {t:Ty} (h:cv t):Fit S t:=⟨h.ok,h.kn.imp O0,fun _ ho=>(Mn ho h.kn (by simp)).elim⟩
theorem cv.iv {t:Ty} (h:cv t):∀x∈t.args,cv x:=fun x hx=>⟨h.ok.iv x hx,h.kn.kd x hx⟩
theorem lO.Us {c:Sc} (h:lO c) {g:Ty} (hg:cv g):∃K,To 0 0 (uB 0) c K g []:=by
 obtain ⟨K,h1,h2,h3⟩:=h.SM
 exact ⟨K,⟨xI 0,by omega,by omega,h1,h2,h.ok,h.kn.imp R9,h3,fun _ ho=>(Mn ho h.kn (by simp)).elim,hg.fit,by simp,by simp⟩⟩
theorem cv.mono {t:Ty} (h:cv t):lO ⟨0,t⟩:=⟨h.ok,h.kn.imp R8,0,rfl,by omega,fun y hy hk=>by have:=(h.kn.nodes y hy (by rw [hk];decide)).1;rw [hk] at this;simp at this⟩
theorem rO:cv bu:=⟨df rfl,.bare rfl (by simp [bu]) (by simp [bu])⟩
def Ou (c:Sc):Bool:=c.ty.nodes.all fun y=>(decide (y.args.length≤100) && decide (y.name.length≤100)) && (decide (y.kind=4) || (decide (y.kind=0) || decide (y.kind=2) || decide (y.kind=3)) && decide (y.args.length=0)) && (decide (y.kind≠2) || decide (0≤y.id) && decide (y.id<c.id))
theorem Fg {c:Sc} {K:Nat} (hc:c.id=K) (hK:K≤100) (h:Ou c=true):lO c:=by
 simp only [Ou,List.all_eq_true,Bool.and_eq_true,Bool.or_eq_true,decide_eq_true_eq] at h
 refine ⟨qZ _ fun y hy=>(h y hy).1.1.1,Kn.AO _ fun y hy=>⟨fun hk=>?_,(h y hy).1.1.2⟩,K,hc,hK,fun y hy hk=>?_⟩
 · rcases (h y hy).1.2 with q | ⟨q,q2⟩
   · exact absurd q hk
   · exact ⟨by simp only [KC];omega,List.length_eq_zero_iff.1 q2⟩
 · rcases (h y hy).2 with q | q
   · exact absurd hk q
   · omega
theorem Ov:∀d∈bU,d.params.length≤100∧∀c∈d.cons,Ou ⟨d.params.length,D_ d.params c.fields (Mg d)⟩=true:=by decide +kernel
theorem IS {ds:List Dt} (hD:∀d∈ds,d∈bU) {s:cm}:lO ((qY ds s).getD mh):=by
 cases e:qY ds s with
 | none=>exact ⟨df rfl,.bare rfl (by simp [mh]) (by simp [mh]),0,rfl,by omega,by intro y hy hk;simp [mh,Ty.aS] at hy;rw [hy] at hk;simp at hk⟩
 | some sc=>
   simp only [qY,Option.bind_eq_some_iff,Option.map_eq_some_iff] at e
   obtain ⟨q,_,d,hd,c,hc,rfl⟩:=e
   obtain ⟨h1,h2⟩:=Ov d (hD d (bA hd))
   exact Fg (K:=d.params.length) rfl h1 (h2 c (bA hc))
theorem er:∀d∈bU,d.params.length≤8∧d.cons.length≤8∧∀c∈d.cons,c.fields.length≤8∧∀x∈c.fields,x.nodes.all (fun y=>(decide (y.args.length≤100) && decide (y.name.length≤100)) && (decide (y.kind=4) || decide (y.kind=5) && decide (y.args.length=0)))=true:=by decide +kernel
theorem Fh {d:Dt} (hd:d∈bU):∀c∈d.cons,Sm c.fields∧(∀x∈c.fields,x.Ok)∧∀x∈c.fields,x.Kn (·=5):=by
 intro c hc
 obtain ⟨_,_,h⟩:=er d hd
 obtain ⟨h1,h2⟩:=h c hc
 simp only [List.all_eq_true,Bool.and_eq_true,Bool.or_eq_true,decide_eq_true_eq] at h2
 refine ⟨by unfold Sm;omega,fun x hx=>qZ _ fun y hy=>(h2 x hx y hy).1.1,fun x hx=>Kn.AO _ fun y hy=>⟨fun hk=>?_,(h2 x hx y hy).1.2⟩⟩
 rcases (h2 x hx y hy).2 with q | ⟨q,q2⟩
 · exact absurd q hk
 · exact ⟨q,List.length_eq_zero_iff.1 q2⟩
theorem ly:∀d∈bU,d.name.length≤100∧∀c∈d.cons,c.name.length≤100:=by decide +kernel
structure t_ (ds:List Dt):Prop where
 all:∀d∈ds,d∈bU
 len:ds.length≤8
theorem t_.c193 {ds:List Dt} (h:t_ ds) {s:cm}:(aL AP).p 193 [.aE (ds.map Dt.pv),.str s]=some (N0 (qY ds s)):=
 Lw.c193 (by have:=h.len;unfold Sm;omega) (fun d hd=>by have:=(er d (h.all d hd)).2.1;unfold Sm;omega) (fun d hd=>by have:=(er d (h.all d hd)).1;unfold Sm;omega) (fun d hd c hc=>by
   obtain ⟨a,b,c2⟩:=Fh (h.all d hd) c hc
   exact ⟨a,b,fun x hx=>(c2 x hx).cw⟩)
theorem Ow {l:List Ty} (h:∀t∈l,∃K:Int→Prop,t.Kn K∧¬K 1):vars l=[]:=by
 have:∀y∈l.flatMap Ty.nodes,y.kind≠1:=by
   intro y hy hk
   simp only [List.mem_flatMap] at hy
   obtain ⟨t,ht,hy⟩:=hy
   obtain ⟨K,hK,h1⟩:=h t ht
   have:=(hK.nodes y hy (by rw [hk];decide)).1
   rw [hk] at this
   exact h1 this
 unfold vars
 generalize l.flatMap Ty.nodes=m at *
 induction m with
 | nil=>rfl
 | cons a r ih=>
   have:eN [] a=[]:=by simp [eN,this a (by simp)]
   rw [List.foldl_cons,this]
   exact ih fun y hy=>by rename_i h2;exact h2 y (by simp [hy])
theorem Mo {k:Int} {t:Ty}:∀y∈t.ff k,y∈t.nodes∧y.kind=k:=by
 refine Ty.gg (p:=fun t=>∀y∈t.ff k,y∈t.nodes∧y.kind=k) ?_ t
 intro t ih y hy
 rw [Ty.mj] at hy
 rw [Ty.aS]
 split at hy
 · rename_i q
   simp at hy
   subst hy
   exact ⟨by simp,q.1⟩
 · simp only [List.mem_flatMap] at hy
   obtain ⟨a,ha,hy⟩:=hy
   have:=ih a ha y hy
   exact ⟨by simp only [List.mem_cons,List.mem_flatMap];exact .inr ⟨a,ha,this.1⟩,this.2⟩
theorem Fi {K:Int→Prop} {t:Ty} (h:t.Kn K) (h1:¬K 1) (hO:t.Ok):Good [] t:=⟨hO,h.wf,by
 intro y hy
 obtain ⟨a,b⟩:=Mo y hy
 have:=(h.nodes y a (by rw [b];decide)).1
 rw [b] at this
 exact absurd this h1⟩
end Go.Ab.Lw
namespace Go.Ab.Lw
open Ev
theorem AR (t:Ty):t.sub []=t:=by
 refine Ty.gg (p:=fun t=>t.sub []=t) ?_ t
 intro t ih
 rw [Ty.sub_eq]
 split
 · simp [lg]
 · have:t.args.map (Ty.sub [])=t.args:=by
     conv=>rhs;rw [←List.map_id t.args]
     exact List.map_congr_left fun x hx=>by simpa using ih x hx
   rw [this]
   cases t;rfl
def xR:List AV:=[.pv (.aE []),.pv (.aE [])]
theorem Pn {g:Ty} (hg:cv g) {ds:List Dt} {E:List En} (hE:Sm E) (hc:∀x∈E,lO x.sc) (hnm:∀x∈E,x.name.length≤100) {T:Nat} (hT:T≤1000000):∀(n i:Nat),E.length-i=n→i≤E.length→∀acc:List Hd,acc.length+4*n≤T→(∀h∈acc,tW h) →
   ∃hs:List Hd,hs.length≤T∧(∀h∈hs,tW h)∧cl AP g362L0 ⟨[(0,.pv (.aE (ds.map Dt.pv))),(4,.pv (vI 3)),(14,.aB 14 0),(15,.pv (.aE [])),(16,.aB 16 0),(17,.own (acc.map Hd.pv) 0),(18,.pv (.aE (E.map En.pv))),(19,.pv (vI i))],[(14,xR),(16,tC g)],[],[acc.length]⟩ =
     some (.exit 0,⟨[(0,.pv (.aE (ds.map Dt.pv))),(4,.pv (vI 3)),(14,.aB 14 0),(15,.pv (.aE [])),(16,.aB 16 0),(17,.own (hs.map Hd.pv) 0),(18,.pv (.aE (E.map En.pv))),(19,.pv (vI E.length)),(51,.pv (.bool false))],[(14,xR),(16,tC g)],[],[hs.length]⟩)
 | 0,i,hn,hi,acc,ha,ho=>by
   have:i=E.length:=by omega
   subst this
   refine ⟨acc,by omega,ho,?_⟩
   rw [g362L0e]
   simp [g362B0,xR,tC]
 | n+1,i,hn,hi,acc,ha,ho=>by
   have hi:i<E.length:=by omega
   obtain ⟨x,hx⟩:=bM hi
   have hs:=hc x (bA hx)
   obtain ⟨K,El⟩:=hs.Us hg
   obtain ⟨l,q1,q2,k2⟩:=c378 El (nm:=x.name) (hnm x (bA hx)) (cn:=false)
   have k1:=c377 (s:=[]) (by simp [Sm]) hs.ok
   rw [AR] at k1
   obtain ⟨hs,h1,h2,e'⟩:=Pn hg (ds:=ds) hE hc hnm hT n (i+1) (by omega) (by omega) (acc++l) (by simp;omega) (by
     intro h hh;simp at hh;rcases hh with hh | hh
     · exact ho h hh
     · exact q2 h hh)
   refine ⟨hs,h1,h2,?_⟩
   unfold Sm at hE
   have hb:(acc.length+l.length)*72≤140737488355328:=by omega
   have hb0:acc.length*72≤140737488355328:=by omega
   have hh:=Mm.head l
   rw [g362L0e] at e' ⊢
   simp [xR,tC] at e'
   simp [uB] at k1 k2 hh
   by_cases z:l=[]
   · subst z
     simp at k2 e'
     simp (disch:=omega) [-getElem?_pos,g362B0,xR,tC,hx,hi,k1,k2,hb0,az]
     rw [g362L0e]
     simp [e']
   · simp (disch:=omega) [-getElem?_pos,g362B0,xR,tC,hx,hi,k1,k2,hb,hh,z,az]
     rw [g362L0e]
     simp [e']
theorem Po {g:Ty} (hg:cv g) {ds:List Dt} (hD:t_ ds) {I:Nat} {d:Dt} (hd:ds[I]?=some d) {T:Nat} (hT:T≤1000000):∀(n i:Nat),d.cons.length-i=n→i≤d.cons.length→∀acc:List Hd,acc.length+4*n≤T→(∀h∈acc,tW h) →
   ∃hs:List Hd,hs.length≤T∧(∀h∈hs,tW h)∧cl AP g362L2 ⟨[(0,.pv (.aE (ds.map Dt.pv))),(4,.pv (vI 3)),(14,.aB 14 0),(15,.pv (.aE [])),(16,.aB 16 0),(17,.own (acc.map Hd.pv) 0),(21,.pv (vI I)),(22,.pv (vI i))],[(14,xR),(16,tC g)],[],[acc.length]⟩ =
     some (.exit 4,⟨[(0,.pv (.aE (ds.map Dt.pv))),(4,.pv (vI 3)),(14,.aB 14 0),(15,.pv (.aE [])),(16,.aB 16 0),(17,.own (hs.map Hd.pv) 0),(21,.pv (vI I)),(22,.pv (vI d.cons.length)),(88,.pv (.bool false))],[(14,xR),(16,tC g)],[],[hs.length]⟩)
 | 0,i,hn,hi,acc,ha,ho=>by
   have:i=d.cons.length:=by omega
   subst this
   refine ⟨acc,by omega,ho,?_⟩
   have hI:=(List.getElem?_eq_some_iff.1 hd).1
   rw [g362L2e]
   simp [-getElem?_pos,g362B2,xR,tC,hd,hI]
 | n+1,i,hn,hi,acc,ha,ho=>by
   have hi:i<d.cons.length:=by omega
   have hI:=(List.getElem?_eq_some_iff.1 hd).1
   obtain ⟨c,hc⟩:=bM hi
   have k1:=hD.c193 (s:=c.name)
   have hs:=IS hD.all (s:=c.name)
   have hc8:=(er d (hD.all d (bA hd))).2.1
   generalize hsc:(qY ds c.name).getD mh=sc at *
   obtain ⟨K,El⟩:=hs.Us hg
   obtain ⟨l,q1,q2,k2⟩:=c378 El (nm:=c.name) ((ly d (hD.all d (bA hd))).2 c (bA hc)) (cn:=true)
   obtain ⟨hs,h1,h2,e'⟩:=Po hg hD hd hT n (i+1) (by omega) (by omega) (acc++l) (by simp;omega) (by
     intro h hh;simp at hh;rcases hh with hh | hh
     · exact ho h hh
     · exact q2 h hh)
   refine ⟨hs,h1,h2,?_⟩
   have hb:(acc.length+l.length)*72≤140737488355328:=by omega
   have hb0:acc.length*72≤140737488355328:=by omega
   have hh:=Mm.head l
   rw [g362L2e] at e' ⊢
   simp [xR,tC] at e'
   simp [uB] at k2 hh
   simp [N0,hsc] at k1
   by_cases z:l=[]
   · subst z
     simp at k2 e'
     simp (disch:=omega) [-getElem?_pos,g362B2,xR,tC,hd,hI,hc,hi,k1,k2,hb0,az]
     rw [g362L2e]
     simp [e']
   · simp (disch:=omega) [-getElem?_pos,g362B2,xR,tC,hd,hI,hc,hi,k1,k2,hb,hh,z,az]
     rw [g362L2e]
     simp [e']
theorem Pq {g:Ty} (hg:cv g) {ds:List Dt} (hD:t_ ds) {T:Nat} (hT:T≤1000000):∀(n i:Nat),ds.length-i=n→i≤ds.length→∀acc:List Hd,acc.length+32*n≤T→(∀h∈acc,tW h) →
   ∃hs:List Hd,hs.length≤T∧(∀h∈hs,tW h)∧cl AP g362L1 ⟨[(0,.pv (.aE (ds.map Dt.pv))),(4,.pv (vI 3)),(14,.aB 14 0),(15,.pv (.aE [])),(16,.aB 16 0),(17,.own (acc.map Hd.pv) 0),(21,.pv (vI i))],[(14,xR),(16,tC g)],[],[acc.length]⟩ =
     some (.exit 2,⟨[(0,.pv (.aE (ds.map Dt.pv))),(4,.pv (vI 3)),(14,.aB 14 0),(15,.pv (.aE [])),(16,.aB 16 0),(17,.own (hs.map Hd.pv) 0),(21,.pv (vI ds.length)),(78,.pv (.bool false))],[(14,xR),(16,tC g)],[],[hs.length]⟩)
 | 0,i,hn,hi,acc,ha,ho=>by
   have:i=ds.length:=by omega
   subst this
   refine ⟨acc,by omega,ho,?_⟩
   rw [g362L1e]
   simp [g362B1,xR,tC]
 | n+1,i,hn,hi,acc,ha,ho=>by
   have hi:i<ds.length:=by omega
   obtain ⟨d,hd⟩:=bM hi
   have hc8:=(er d (hD.all d (bA hd))).2.1
   obtain ⟨l,q1,q2,e⟩:=Po hg hD hd (T:=acc.length+32) (by omega) _ 0 rfl (by omega) acc (by omega) ho
   obtain ⟨hs,h1,h2,e'⟩:=Pq hg hD hT n (i+1) (by omega) (by omega) l (by omega) q2
   refine ⟨hs,h1,h2,?_⟩
   have hl:=hD.len
   rw [g362L1e] at e' ⊢
   rw [g362L2e] at e
   simp [xR,tC] at e' e
   simp (disch:=omega) [-getElem?_pos,g362B1,xR,tC,hd,hi,az]
   rw [g362L2e]
   simp (disch:=omega) [e,az]
   rw [g362L1e]
   simp [e']
theorem c362 {g:Ty} (hg:cv g) {ds:List Dt} (hD:t_ ds) {l:List En} (hl:l.length≤10000) (hc:∀x∈l,lO x.sc) (hnm:∀x∈l,x.name.length≤100):∃hs:List Hd,hs.length≤100000∧(∀h∈hs,tW h) ∧
   (aL AP).p 362 [.aE (ds.map Dt.pv),.aE (l.map En.pv),g.pv,.aE [],vI 3]=some [.aE (hs.map Hd.pv)]:=by
 obtain ⟨a,b,c,k1,_⟩:=c194g hg.ok
 have hdl:=hD.len
 cases c with
 | true=>
   refine ⟨[],by simp,by simp,?_⟩
   simp at k1
   rw [ah (af:=g362) rfl rfl (by decide)]
   simp [g362,k1]
 | false=>
   have hsub:∀x∈dX l,lO x.sc:=fun x hx=>hc x (ml l x hx)
   have hsl:=tI l
   obtain ⟨vs,hv,_,k2⟩:=c376 (S:=[]) (by simp) (by simp) (Fi hg.kn (by simp) hg.ok) (l:=l) (by unfold Sm;omega) (by omega) (fun x hx=>Fi (hc x hx).kn (by simp) (hc x hx).ok)
   have hv0:vs=[]:=by
     rw [hv]
     refine Ow ?_
     intro t ht
     simp only [List.mem_cons,List.mem_map] at ht
     rcases ht with rfl | ⟨x,hx,rfl⟩
     · exact ⟨KG,hg.kn,by simp⟩
     · exact ⟨KC,(hsub x hx).kn,by simp⟩
   subst hv0
   have k3:=c46 (s:=[]) (by simp [Sm]) hg.ok
   rw [AR] at k3
   have k4:=c201 (l:=l) (by unfold Sm;omega)
   obtain ⟨o1,a1,a2,h1⟩:=Pn hg (ds:=ds) (E:=dX l) (by unfold Sm;omega) hsub (fun x hx=>hnm x (ml l x hx)) (T:=40000) (by omega) _ 0 rfl (by omega) [] (by simp;omega) (by simp)
   obtain ⟨o2,b1,b2,h2⟩:=Pq hg hD (T:=100000) (by omega) _ 0 rfl (by omega) o1 (by omega) a2
   refine ⟨o2,b1,b2,?_⟩
   rw [g362L0e] at h1
   rw [g362L1e] at h2
   generalize dX l=E at *
   simp [xR,tC] at h1 h2
   simp at k1 k3 k4
   simp [uB,il] at k2
   rw [ah (af:=g362) rfl rfl (by decide)]
   simp [g362,k1,k2,k3,k4,g362L0e,h1,g362L1e,h2]
end Go.Ab.Lw
namespace Go.Ab.Lw
open Ev
structure Tape (L:List Int) (tm:Nat) (TP:Int→Sh):Prop where
 get:∀i,(TP i)[tm]?=some (some [.pv (.aE (L.map vI)),.pv (vI i)])
 set:∀i j,(TP i).set tm (some [.pv (.aE (L.map vI)),.pv (vI j)])=TP j
 quiet:∀i,bN (TP i)
theorem Tape.norm {L:List Int} {tm:Nat} {TP:Int→Sh} (h:Tape L tm TP):∀i aQ ts,cf aQ ts (TP i)=(TP i,aQ,ts):=fun i=>(h.quiet i).norm
theorem Tape.shift {L:List Int} {tm:Nat} {TP:Int→Sh} (h:Tape L tm TP):∀i n,ix n (TP i)=TP i:=fun i=>(h.quiet i).shift
theorem Tape.take {L:List Int} {tm:Nat} {TP:Int→Sh} (h:Tape L tm TP):∀i j,(TP j).take (TP i).length=TP j:=by
 intro i j
 refine List.take_of_length_le ?_
 rw [←h.set i j,List.length_set]
 exact Nat.le_refl _
theorem Fj {L:List Int} {A B:Sh} (hA:bN A) (hB:bN B):Tape L A.length (fun i=>A++[some [.pv (.aE (L.map vI)),.pv (vI i)]]++B) where
 get:=fun i=>by simp
 set:=fun i j=>by simp [List.set_append]
 quiet:=fun i=>(hA.app (bN.one (by intro v hv;simp at hv;rcases hv with rfl | rfl<;>exact ⟨_,rfl⟩))).app hB
theorem oj {L:List Int} {tm:Nat} {TP:Int→Sh} (hT:Tape L tm TP) (hL:Sm L) {i:Nat} (hi:i≤L.length) {n:Int} (h1:1≤n) (h2:n<4611686018427387904) :
   ∃(r:Int) (j:Nat),(aL AP).i 68 [.aZ tm 0,.pv (vI n)] (TP i) []=some ([.pv (vI r)],TP j,[])∧0≤r∧r<n∧j≤L.length:=by
 unfold Sm at hL
 have tn:=hT.norm
 have tsh:=hT.shift
 have tg:=hT.get
 have tset:=hT.set
 have tl:=hT.take
 rw [aP (af:=g68) rfl (by simp [g68])]
 by_cases h:i<L.length
 · obtain ⟨x,hx⟩:=bM h
   obtain ⟨r,e,e1,e2⟩:=c26 (n:=x) h1 h2
   refine ⟨r,i+1,?_,e1,e2,h⟩
   have h':¬L.length≤i:=by omega
   simp (disch:=omega) [-getElem?_pos,g68,h',az,hx,e,tn,tsh,tg,tset,tl]
 · have h':L.length≤i:=by omega
   refine ⟨0,i,?_,by omega,by omega,hi⟩
   simp [-getElem?_pos,g68,h',tn,tsh,tg,tset,tl]
theorem IT {L:List Int} {tm:Nat} {TP:Int→Sh} (hT:Tape L tm TP) (hL:Sm L) {i:Nat} (hi:i≤L.length):∃(s:List UInt8) (j:Nat),(aL AP).i 175 [.aZ tm 0] (TP i) []=some ([.pv (.str s)],TP j,[])∧s∈varNames∧j≤L.length:=by
 have tn:=hT.norm
 have tsh:=hT.shift
 have tl:=hT.take
 obtain ⟨k,j,e,k0,k8,hj⟩:=oj hT hL hi (n:=8) (by omega) (by omega)
 obtain ⟨m,rfl,hm⟩:=nY (n:=varNames.length) k0 (by simpa [varNames] using k8)
 obtain ⟨s,hs⟩:=bM hm
 refine ⟨s,j,?_,bA hs,hj⟩
 try simp [tn,tsh,tl] at e
 rw [aP (af:=g175) rfl (by simp [tn,tsh,tl,g175])]
 have hs':([PV.str [120],.str [121],.str [122],.str [102],.str [103],.str [118,49],.str [118,50],.str [105,100]]:List PV)[m]?=some (.str s):=by
   have:([PV.str [120],.str [121],.str [122],.str [102],.str [103],.str [118,49],.str [118,50],.str [105,100]]:List PV)=varNames.map PV.str:=rfl
   rw [this];simp [tn,tsh,tl,hs]
 simp [tn,tsh,tl,-getElem?_pos,g175,e,hs']
def pz (L:List Int) (tm:Nat) (TP:Int→Sh) (ds:List Dt) (lv:List Ty) (dep:Nat):Prop:=∀i:Nat,i≤L.length→∃(t:Ty) (j:Nat),
 (aL AP).i 27 [.aZ tm 0,.pv (.aE (ds.map Dt.pv)),.pv (.aE (lv.map Ty.pv)),.pv (vI dep)] (TP i) []=some ([t.av],TP j,[])∧ic (·∈ds) lv dep t∧j≤L.length
theorem SN {L:List Int} {tm:Nat} {TP:Int→Sh} (hT:Tape L tm TP) {ds:List Dt} {lv:List Ty} {dep:Nat} (hdep:dep<1000) (hg:pz L tm TP ds lv dep) {d:Dt} (hS:Sm d.params):∀(n k:Nat),d.params.length-k=n→k≤d.params.length→∀(acc:List Ty) (i:Nat),acc.length=k→(∀x∈acc,ic (·∈ds) lv dep x)→i≤L.length →
   ∃(r:List Ty) (j:Nat),cl AP g27L0 ⟨[(0,.aZ tm 0),(1,.pv (.aE (ds.map Dt.pv))),(2,.pv (.aE (lv.map Ty.pv))),(3,.pv (vI (dep+1))),(8,.aB 8 0),(10,.aB 10 0),(11,.own (acc.map Ty.pv) 0),(12,.pv (vI k))],
     [(8,[.pv (vI 0),.pv (.str []),.pv (vI 0),.pv (vI 0),.own [] 1]),(10,[.pv (vI d.pos),.pv (.str d.name),.pv (.aE (d.params.map .str)),.pv (.aE (d.cons.map nc.pv))])],TP i,[acc.length,0]⟩ =
     some (.exit 1,⟨[(0,.aZ tm 0),(1,.pv (.aE (ds.map Dt.pv))),(2,.pv (.aE (lv.map Ty.pv))),(3,.pv (vI (dep+1))),(8,.aB 8 0),(10,.aB 10 0),(11,.own (r.map Ty.pv) 0),(12,.pv (vI d.params.length)),(65,.pv (.bool false))],
     [(8,[.pv (vI 0),.pv (.str []),.pv (vI 0),.pv (vI 0),.own [] 1]),(10,[.pv (vI d.pos),.pv (.str d.name),.pv (.aE (d.params.map .str)),.pv (.aE (d.cons.map nc.pv))])],TP j,[r.length,0]⟩) ∧
     r.length=d.params.length∧(∀x∈r,ic (·∈ds) lv dep x)∧j≤L.length
 | 0,k,hn,hk,acc,i,ha,hm,hi=>by
   have tn:=hT.norm
   have tsh:=hT.shift
   have tl:=hT.take
   have:k=d.params.length:=by omega
   subst this
   refine ⟨acc,i,?_,ha,hm,hi⟩
   rw [g27L0e]
   simp [tn,tsh,tl,g27B0]
 | n+1,k,hn,hk,acc,i,ha,hm,hi=>by
   have tn:=hT.norm
   have tsh:=hT.shift
   have tl:=hT.take
   unfold Sm at hS
   have hk:k<d.params.length:=by omega
   have hb:(acc.length+1)*64≤140737488355328:=by omega
   obtain ⟨t,j,e,mt,hj⟩:=hg i hi
   try simp [tn,tsh,tl] at e
   obtain ⟨r,j',e',hr,hm',hj'⟩:=SN hT hdep hg hS n (k+1) (by omega) (by omega) (acc++[t]) j (by simp;omega) (by
     intro x hx;simp at hx;rcases hx with hx | rfl
     · exact hm x hx
     · exact mt) hj
   try simp [tn,tsh,tl] at e'
   refine ⟨r,j',?_,hr,hm',hj'⟩
   rw [g27L0e]
   have h1:(dep:Int)+1-1=dep:=by omega
   simp (disch:=omega) [tn,tsh,tl,-getElem?_pos,g27B0,hk,az,h1,e,hb]
   rw [e']
theorem SO {L:List Int} {tm:Nat} {TP:Int→Sh} (hT:Tape L tm TP) (hL:Sm L) {ds:List Dt} {lv:List Ty} (hlv:Sm lv):pz L tm TP ds lv 0:=by
 have tn:=hT.norm
 have tsh:=hT.shift
 have tl:=hT.take
 intro i hi
 obtain ⟨k,j1,e1,k0,k7,hj1⟩:=oj hT hL hi (n:=7) (by omega) (by omega)
 try simp [tn,tsh,tl] at e1
 unfold Sm at hlv
 by_cases h1:k<3
 · by_cases h2:lv=[]
   · subst h2
     refine ⟨bu,j1,?_,.int,hj1⟩
     have c:=c34
     try simp [tn,tsh,tl] at c
     rw [aP (af:=g27) rfl (by simp [tn,tsh,tl,g27])]
     simp [tn,tsh,tl,-getElem?_pos,g27,e1,h1,c,bu]
   · have hp:0<lv.length:=List.length_pos_iff.2 h2
     obtain ⟨r,j2,e2,r0,r1,hj2⟩:=oj hT hL hj1 (n:=lv.length) (by omega) (by omega)
     obtain ⟨m,rfl,hm⟩:=nY r0 r1
     obtain ⟨x,hx⟩:=bM hm
     try simp [tn,tsh,tl] at e2
     refine ⟨x,j2,?_,.leaf (bA hx),hj2⟩
     rw [aP (af:=g27) rfl (by simp [tn,tsh,tl,g27])]
     simp [tn,tsh,tl,-getElem?_pos,g27,e1,h1,hp,e2,hx]
 · refine ⟨bu,j1,?_,.int,hj1⟩
   have c:=c34
   try simp [tn,tsh,tl] at c
   rw [aP (af:=g27) rfl (by simp [tn,tsh,tl,g27])]
   simp [tn,tsh,tl,-getElem?_pos,g27,e1,h1,c,bu]
theorem SP {L:List Int} {tm:Nat} {TP:Int→Sh} (hT:Tape L tm TP) (hL:Sm L) {ds:List Dt} (hds:ds.length≤20) (hda:∀d∈ds,d.params.length≤8) {lv:List Ty} (hlv:Sm lv) {dep:Nat} (hdep:dep<1000) (hg:pz L tm TP ds lv dep):pz L tm TP ds lv (dep+1):=by
 have tn:=hT.norm
 have tsh:=hT.shift
 have tl:=hT.take
 intro i hi
 obtain ⟨k,j1,e1,k0,k7,hj1⟩:=oj hT hL hi (n:=7) (by omega) (by omega)
 try simp [tn,tsh,tl] at e1
 unfold Sm at hlv
 have hd1:¬((dep:Int)+1<1):=by omega
 have hd2:(dep:Int)+1-1=dep:=by omega
 have leafCase:∀h1:k<3,∀h2:¬lv=[],∃(t:Ty) (j:Nat),(aL AP).i 27 [.aZ tm 0,.pv (.aE (ds.map Dt.pv)),.pv (.aE (lv.map Ty.pv)),.pv (vI ((dep+1:Nat):Int))] (TP i) []=some ([t.av],TP j,[])∧ic (·∈ds) lv (dep+1) t∧j≤L.length:=by
   intro h1 h2
   have hp:0<lv.length:=List.length_pos_iff.2 h2
   obtain ⟨r,j2,e2,r0,r1,hj2⟩:=oj hT hL hj1 (n:=lv.length) (by omega) (by omega)
   obtain ⟨m,rfl,hm⟩:=nY r0 r1
   obtain ⟨x,hx⟩:=bM hm
   try simp [tn,tsh,tl] at e2
   refine ⟨x,j2,?_,.leaf (bA hx),hj2⟩
   rw [aP (af:=g27) rfl (by simp [tn,tsh,tl,g27])]
   simp [tn,tsh,tl,-getElem?_pos,g27,e1,h1,hp,e2,hx]
 by_cases h1:k<3∧¬lv=[]
 · exact leafCase h1.1 h1.2
 · have h1':¬k<3∨lv=[]:=by
     by_cases h:k<3
     · right;by_cases h':lv=[]
       · exact h'
       · exact absurd ⟨h,h'⟩ h1
     · exact .inl h
   by_cases h2:k<4
   · refine ⟨bu,j1,?_,.int,hj1⟩
     have c:=c34
     try simp [tn,tsh,tl] at c
     rw [aP (af:=g27) rfl (by simp [tn,tsh,tl,g27])]
     rcases h1' with h | h
     · simp [tn,tsh,tl,-getElem?_pos,g27,e1,h,h2,c,bu]
     · subst h
       simp [tn,tsh,tl,-getElem?_pos,g27,e1,h2,c,bu]
   · have h3:¬k<3:=by omega
     by_cases h4:(k=4∨k=5)∧¬ds=[]
     · obtain ⟨h4,h5⟩:=h4
       have hp:0<ds.length:=List.length_pos_iff.2 h5
       obtain ⟨r,j2,e2,r0,r1,hj2⟩:=oj hT hL hj1 (n:=ds.length) (by omega) (by omega)
       obtain ⟨m,rfl,hm⟩:=nY r0 r1
       obtain ⟨d,hx⟩:=bM hm
       try simp [tn,tsh,tl] at e2
       have hdm:=bA hx
       have hps:Sm d.params:=by
         unfold Sm
         have:=hda d hdm
         omega
       obtain ⟨as,j3,e3,ha,hm3,hj3⟩:=SN hT hdep hg hps d.params.length 0 rfl (by omega) [] j2 rfl (by simp) hj2
       rw [g27L0e] at e3
       try simp [tn,tsh,tl] at e3
       have hsa:Sm as:=by unfold Sm at hps ⊢;omega
       have c:=c62 (s:=d.name) (l:=as) hsa
       try simp [tn,tsh,tl] at c
       refine ⟨⟨4,d.name,0,0,as⟩,j3,?_,.gU hdm ha hm3,hj3⟩
       rw [aP (af:=g27) rfl (by simp [tn,tsh,tl,g27])]
       rcases h4 with rfl | rfl
       · simp [tn,tsh,tl,-getElem?_pos,g27,e1,hp,hd1,e2,hx,g27L0e,e3,c]
       · simp [tn,tsh,tl,-getElem?_pos,g27,e1,hp,hd1,e2,hx,g27L0e,e3,c]
     · obtain ⟨a,j2,ea,ma,hj2⟩:=hg j1 hj1
       obtain ⟨b,j3,eb,mb,hj3⟩:=hg j2 hj2
       try simp [tn,tsh,tl] at ea eb
       have c:=c69 (a:=a) (b:=b)
       try simp [tn,tsh,tl] at c
       refine ⟨⟨4,[45,62],0,0,[a,b]⟩,j3,?_,.arrow ma mb,hj3⟩
       rw [aP (af:=g27) rfl (by simp [tn,tsh,tl,g27])]
       by_cases h5:ds=[]
       · subst h5
         try simp [tn,tsh,tl] at ea eb
         simp (disch:=omega) [tn,tsh,tl,-getElem?_pos,g27,e1,h2,h3,hd1,hd2,az,ea,eb,c]
       · have h6:¬k=4∧¬k=5:=by
           constructor
           · intro h;exact h4 ⟨.inl h,h5⟩
           · intro h;exact h4 ⟨.inr h,h5⟩
         simp (disch:=omega) [tn,tsh,tl,-getElem?_pos,g27,e1,h2,h3,h6.1,h6.2,hd1,hd2,az,ea,eb,c]
theorem QD {L:List Int} {tm:Nat} {TP:Int→Sh} (hT:Tape L tm TP) (hL:Sm L) {ds:List Dt} (hds:ds.length≤20) (hda:∀d∈ds,d.params.length≤8) {lv:List Ty} (hlv:Sm lv):∀dep:Nat,dep<1000→pz L tm TP ds lv dep
 | 0,_=>SO hT hL hlv
 | dep+1,h=>SP hT hL hds hda hlv (by omega) (QD hT hL hds hda hlv dep (by omega))
def rP (L:List Int) (tm:Nat) (TP:Int→Sh) (ds:List Dt) (dep:Nat):Prop:=∀i:Nat,i≤L.length→∃(e:Ex) (fk fa fg:Bool) (j:Nat),
 (aL AP).i 247 [.aZ tm 0,.pv (.aE (ds.map Dt.pv)),.pv (vI dep)] (TP i) []=some ([.agg (eB fk fa fg e)],TP j,[])∧gD ds dep e∧j≤L.length
theorem vP {L:List Int} {tm:Nat} {TP:Int→Sh} (hT:Tape L tm TP) (hL:Sm L) {ds:List Dt} (hds:ds.length≤8) (hD:∀d∈ds,D8 d) {dep:Nat} {i j1:Nat} {k:Int} (hj1:j1≤L.length)
   (e1:(aL AP).i 68 [.aZ tm 0,.pv (vI 14)] (TP i) []=some ([.pv (vI k)],TP j1,[])) (k0:0≤k) (hk:if dep=0 then True else k<5) :
   ∃(e:Ex) (fk fa fg:Bool) (j:Nat),(aL AP).i 247 [.aZ tm 0,.pv (.aE (ds.map Dt.pv)),.pv (vI dep)] (TP i) []=some ([.agg (eB fk fa fg e)],TP j,[])∧gD ds dep e∧j≤L.length:=by
 have tn:=hT.norm
 have tsh:=hT.shift
 have tl:=hT.take
 try simp [tn,tsh,tl] at e1
 obtain ⟨r,hr,hr0,hr1⟩:∃r:Int,(if dep=0 then k.tmod 5 else k)=r∧0≤r∧r<5:=by
   by_cases h:dep=0
   · refine ⟨k.tmod 5,by simp [tn,tsh,tl,h],?_,?_⟩
     · exact Int.tmod_nonneg 5 k0
     · exact Int.tmod_lt_of_pos k (by omega)
   · simp [tn,tsh,tl,h] at hk
     exact ⟨k,by simp [tn,tsh,tl,h],k0,hk⟩
 have hcase:r=0∨r=1∨r=2∨r=3∨r=4:=by omega
 have hd:dep=0∧k.tmod 5=r∨¬((dep:Int)<1)∧k=r:=by
   by_cases h:dep=0
   · simp [tn,tsh,tl,h] at hr;exact .inl ⟨h,hr⟩
   · simp [tn,tsh,tl,h] at hr;exact .inr ⟨by omega,hr⟩
 clear hr
 have hvar:r=0∨r=1→∃(e:Ex) (fk fa fg:Bool) (j:Nat),(aL AP).i 247 [.aZ tm 0,.pv (.aE (ds.map Dt.pv)),.pv (vI dep)] (TP i) []=some ([.agg (eB fk fa fg e)],TP j,[])∧gD ds dep e∧j≤L.length:=by
   intro h
   obtain ⟨s,j,e2,hs,hj⟩:=IT hT hL hj1
   try simp [tn,tsh,tl] at e2
   refine ⟨⟨1,0,s,0,[],[],bO⟩,true,true,true,j,?_,.var hs,hj⟩
   rw [aP (af:=g247) rfl (by simp [tn,tsh,tl,g247])]
   rcases h with rfl | rfl<;>rcases hd with ⟨rfl,h2⟩ | ⟨h1,rfl⟩
   · simp [tn,tsh,tl,g247,e1,h2,e2,eB,gV,bO]
   · simp [tn,tsh,tl,g247,e1,h1,e2,eB,gV,bO]
   · simp [tn,tsh,tl,g247,e1,h2,e2,eB,gV,bO]
   · simp [tn,tsh,tl,g247,e1,h1,e2,eB,gV,bO]
 rcases hcase with rfl | rfl | rfl | rfl | rfl
 · exact hvar (.inl rfl)
 · exact hvar (.inr rfl)
 · obtain ⟨m,j,e2,m0,m4,hj⟩:=oj hT hL hj1 (n:=4) (by omega) (by omega)
   try simp [tn,tsh,tl] at e2
   refine ⟨⟨3,0,[],m,[],[],bO⟩,true,true,true,j,?_,.int m0 m4,hj⟩
   rw [aP (af:=g247) rfl (by simp [tn,tsh,tl,g247])]
   rcases hd with ⟨rfl,h2⟩ | ⟨h1,rfl⟩
   · simp [tn,tsh,tl,g247,e1,h2,e2,eB,gV,bO]
   · simp [tn,tsh,tl,g247,e1,h1,e2,eB,gV,bO]
 · by_cases h0:ds=[]
   · subst h0
     refine ⟨⟨2,0,[71,111,110,101],0,[],[],bO⟩,true,true,true,j1,?_,.gone,hj1⟩
     rw [aP (af:=g247) rfl (by simp [tn,tsh,tl,g247])]
     rcases hd with ⟨rfl,h2⟩ | ⟨h1,rfl⟩
     · simp [tn,tsh,tl,g247,e1,h2,eB,gV,bO]
     · simp [tn,tsh,tl,g247,e1,h1,eB,gV,bO]
   · have hp:0<ds.length:=List.length_pos_iff.2 h0
     obtain ⟨n,j2,e2,n0,n1,hj2⟩:=oj hT hL hj1 (n:=ds.length) (by omega) (by omega)
     obtain ⟨m,rfl,hm⟩:=nY n0 n1
     obtain ⟨d,hx⟩:=bM hm
     obtain ⟨_,hc0,hc8,_⟩:=hD d (bA hx)
     obtain ⟨n',j3,e3,n0',n1',hj3⟩:=oj hT hL hj2 (n:=d.cons.length) (by omega) (by omega)
     obtain ⟨m',rfl,hm'⟩:=nY n0' n1'
     obtain ⟨c,hy⟩:=bM hm'
     try simp [tn,tsh,tl] at e2 e3
     refine ⟨⟨2,0,c.name,0,[],[],bO⟩,true,true,true,j3,?_,.gU (bA hx) (bA hy),hj3⟩
     rw [aP (af:=g247) rfl (by simp [tn,tsh,tl,g247])]
     rcases hd with ⟨rfl,h2⟩ | ⟨h1,rfl⟩
     · simp [tn,tsh,tl,-getElem?_pos,g247,e1,h2,e2,e3,hp,hx,hy,eB,gV,bO]
     · simp [tn,tsh,tl,-getElem?_pos,g247,e1,h1,e2,e3,hp,hx,hy,eB,gV,bO]
 · refine ⟨⟨10,0,[],0,[],[],bO⟩,true,true,true,j1,?_,.hole,hj1⟩
   rw [aP (af:=g247) rfl (by simp [tn,tsh,tl,g247])]
   rcases hd with ⟨rfl,h2⟩ | ⟨h1,rfl⟩
   · simp [tn,tsh,tl,g247,e1,h2,eB,gV,bO]
   · simp [tn,tsh,tl,g247,e1,h1,eB,gV,bO]
theorem IU {L:List Int} {tm:Nat} {TP:Int→Sh} (hT:Tape L tm TP) (hL:Sm L) {ds:List Dt} (hds:ds.length≤8) (hD:∀d∈ds,D8 d) {dep:Nat} (hdep:dep<1000) (hg:rP L tm TP ds dep) {i j1:Nat} {k:Int} (hj1:j1≤L.length)
   (e1:(aL AP).i 68 [.aZ tm 0,.pv (vI 14)] (TP i) []=some ([.pv (vI k)],TP j1,[])) (k5:5≤k) (k12:k≤12) :
   ∃(e:Ex) (fk fa fg:Bool) (j:Nat),(aL AP).i 247 [.aZ tm 0,.pv (.aE (ds.map Dt.pv)),.pv (vI (dep+1:Nat))] (TP i) []=some ([.agg (eB fk fa fg e)],TP j,[])∧gD ds (dep+1) e∧j≤L.length:=by
 have tn:=hT.norm
 have tsh:=hT.shift
 have tl:=hT.take
 try simp [tn,tsh,tl] at e1
 have h1:¬((dep:Int)+1<1):=by omega
 have h2:(dep:Int)+1-1=dep:=by omega
 have hc:k=5∨k=6∨k=7∨k=8∨k=9∨k=10∨k=11∨k=12:=by omega
 have hlam:k=5∨k=6→∃(e:Ex) (fk fa fg:Bool) (j:Nat),(aL AP).i 247 [.aZ tm 0,.pv (.aE (ds.map Dt.pv)),.pv (vI (dep+1:Nat))] (TP i) []=some ([.agg (eB fk fa fg e)],TP j,[])∧gD ds (dep+1) e∧j≤L.length:=by
   intro h
   obtain ⟨s,j2,e2,hs,hj2⟩:=IT hT hL hj1
   obtain ⟨a,f1,f2,f3,j3,e3,ha,hj3⟩:=hg j2 hj2
   have hA:=ez f1 f2 f3 a
   generalize eB f1 f2 f3 a=A at e3 hA
   try simp [tn,tsh,tl] at e2 e3
   refine ⟨⟨4,0,s,0,[a],[],bO⟩,true,true,true,j3,?_,.lam hs ha,hj3⟩
   rw [aP (af:=g247) rfl (by simp [tn,tsh,tl,g247])]
   have ac:=Ex.bQ a
   rcases h with rfl | rfl<;>simp (disch:=omega) [tn,tsh,tl,g247,e1,h1,h2,az,e2,e3,hA.dL,hA.flat,hA.iP,hA.len,hA.leaf,ac,eB,gV,bO]
 have happ:k=7∨k=8∨k=9→∃(e:Ex) (fk fa fg:Bool) (j:Nat),(aL AP).i 247 [.aZ tm 0,.pv (.aE (ds.map Dt.pv)),.pv (vI (dep+1:Nat))] (TP i) []=some ([.agg (eB fk fa fg e)],TP j,[])∧gD ds (dep+1) e∧j≤L.length:=by
   intro h
   obtain ⟨a,f1,f2,f3,j2,e2,ha,hj2⟩:=hg j1 hj1
   obtain ⟨b,f4,f5,f6,j3,e3,hb,hj3⟩:=hg j2 hj2
   have hA:=ez f1 f2 f3 a
   generalize eB f1 f2 f3 a=A at e2 hA
   have hB:=ez f4 f5 f6 b
   generalize eB f4 f5 f6 b=B at e3 hB
   try simp [tn,tsh,tl] at e2 e3
   refine ⟨⟨5,0,[],0,[a,b],[],bO⟩,true,true,true,j3,?_,.app ha hb,hj3⟩
   rw [aP (af:=g247) rfl (by simp [tn,tsh,tl,g247])]
   have ac:=Ex.bQ a
   have bc:=Ex.bQ b
   have tA:A.take 11=A:=List.take_of_length_le (by rw [hA.len];omega)
   rcases h with rfl | rfl | rfl<;>simp (disch:=omega) [tn,tsh,tl,g247,e1,h1,h2,az,e2,e3,hA.dL,hA.flat,hA.iP,hA.len,hA.leaf,hB.dL,hB.flat,hB.iP,hB.len,hB.leaf,tA,ac,bc,aI,eB,gV,bO]
 rcases hc with h | h | h | h | h | rfl | rfl | rfl
 · exact hlam (.inl h)
 · exact hlam (.inr h)
 · exact happ (.inl h)
 · exact happ (.inr (.inl h))
 · exact happ (.inr (.inr h))
 · obtain ⟨r,j2,e2,r0,r1,hj2⟩:=oj hT hL hj1 (n:=2) (by omega) (by omega)
   obtain ⟨s,j3,e3,hs,hj3⟩:=IT hT hL hj2
   obtain ⟨a,f1,f2,f3,j4,e4,ha,hj4⟩:=hg j3 hj3
   obtain ⟨b,f4,f5,f6,j5,e5,hb,hj5⟩:=hg j4 hj4
   have hA:=ez f1 f2 f3 a
   generalize eB f1 f2 f3 a=A at e4 hA
   have hB:=ez f4 f5 f6 b
   generalize eB f4 f5 f6 b=B at e5 hB
   try simp [tn,tsh,tl] at e2 e3 e4 e5
   have ac:=Ex.bQ a
   have bc:=Ex.bQ b
   have tA:A.take 11=A:=List.take_of_length_le (by rw [hA.len];omega)
   have hk:6+r=6∨6+r=7:=by omega
   refine ⟨⟨6+r,0,s,0,[a,b],[],bO⟩,true,true,true,j5,?_,.xA hk hs ha hb,hj5⟩
   rw [aP (af:=g247) rfl (by simp [tn,tsh,tl,g247])]
   simp (disch:=omega) [tn,tsh,tl,g247,e1,h1,h2,az,e2,e3,e4,e5,hA.dL,hA.flat,hA.iP,hA.len,hA.leaf,hB.dL,hB.flat,hB.iP,hB.len,hB.leaf,tA,ac,bc,aI,eB,gV,bO]
 · obtain ⟨a,f1,f2,f3,j2,e2,ha,hj2⟩:=hg j1 hj1
   have hA:=ez f1 f2 f3 a
   generalize eB f1 f2 f3 a=A at e2 hA
   obtain ⟨t,j3,e3,ht,hj3⟩:=QD hT hL (ds:=ds) (by omega) (fun d hd=>(hD d hd).1) (lv:=[]) (by simp [tn,tsh,tl,Sm]) 2 (by omega) j2 hj2
   simp [tn,tsh,tl,Ty.av] at e2 e3
   have ac:=Ex.bQ a
   refine ⟨⟨9,0,[],0,[a],[],t⟩,true,true,false,j3,?_,.N1 ha ht,hj3⟩
   rw [aP (af:=g247) rfl (by simp [tn,tsh,tl,g247])]
   simp (disch:=omega) [tn,tsh,tl,g247,e1,h1,h2,az,e2,e3,hA.dL,hA.flat,hA.iP,hA.len,hA.leaf,ac,eB,gV,bO]
 · obtain ⟨a,f1,f2,f3,j2,e2,ha,hj2⟩:=hg j1 hj1
   have hA:=ez f1 f2 f3 a
   generalize eB f1 f2 f3 a=A at e2 hA
   try simp [tn,tsh,tl] at e2
   have ac:=Ex.bQ a
   refine ⟨⟨11,0,[],0,[a],[],bO⟩,true,true,true,j2,?_,.held ha,hj2⟩
   rw [aP (af:=g247) rfl (by simp [tn,tsh,tl,g247])]
   simp (disch:=omega) [tn,tsh,tl,g247,e1,h1,h2,az,e2,hA.dL,hA.flat,hA.iP,hA.len,hA.leaf,ac,eB,gV,bO]
theorem Mp {L:List Int} {tm:Nat} {TP:Int→Sh} (hT:Tape L tm TP) (hL:Sm L) {ds:List Dt} {dep:Nat} {d:Dt} {a:Ex} {as:List Ar} {ci:Nat} {c:nc} (hc:d.cons[ci]?=some c) (h8:c.fields.length≤8):∀(n k:Nat),c.fields.length-k=n→k≤c.fields.length→∀(vs:List cm) (i:Nat),vs.length=k→(∀v∈vs,v∈nZ)→i≤L.length →
   ∃(r:List cm) (j:Nat),cl AP g247L1 ⟨[(0,.aZ tm 0),(1,.pv (.aE (ds.map Dt.pv))),(2,.pv (vI (dep+1))),(6,.aB 6 0),(13,.aB 13 0),(14,.aB 14 0),(15,.pv (vI ci)),(16,.aB 16 0),(17,.pv (vI k))],
     [(6,m6),(13,rJ d),(14,N5 a as),(16,Sb c vs)],TP i,[0,0,0,1,as.length,0,vs.length,0,0,0]⟩ =
     some (.exit 3,⟨[(0,.aZ tm 0),(1,.pv (.aE (ds.map Dt.pv))),(2,.pv (vI (dep+1))),(6,.aB 6 0),(13,.aB 13 0),(14,.aB 14 0),(15,.pv (vI ci)),(16,.aB 16 0),(17,.pv (vI c.fields.length)),(179,.pv (.bool false))],
     [(6,m6),(13,rJ d),(14,N5 a as),(16,Sb c r)],TP j,[0,0,0,1,as.length,0,r.length,0,0,0]⟩) ∧
     r.length=c.fields.length∧(∀v∈r,v∈nZ)∧j≤L.length
 | 0,k,hn,hk,vs,i,hv,hm,hi=>by
   have tn:=hT.norm
   have tsh:=hT.shift
   have tl:=hT.take
   have:k=c.fields.length:=by omega
   subst this
   refine ⟨vs,i,?_,hv,hm,hi⟩
   have hcl:=(List.getElem?_eq_some_iff.1 hc).1
   rw [g247L1e]
   simp [tn,tsh,tl,-getElem?_pos,g247B1,m6,rJ,N5,Sb,hc,hcl]
 | n+1,k,hn,hk,vs,i,hv,hm,hi=>by
   have tn:=hT.norm
   have tsh:=hT.shift
   have tl:=hT.take
   have hk:k<c.fields.length:=by omega
   have hcl:=(List.getElem?_eq_some_iff.1 hc).1
   have hb:(vs.length+1)*16≤140737488355328:=by omega
   obtain ⟨s,j,e,hs,hj⟩:=IT hT hL hi
   try simp [tn,tsh,tl] at e
   obtain ⟨r,j',e',hr,hm',hj'⟩:=Mp hT hL hc h8 (a:=a) (as:=as) (ds:=ds) (dep:=dep) n (k+1) (by omega) (by omega) (vs++[s]) j (by simp;omega) (by
     intro x hx;simp at hx;rcases hx with hx | rfl
     · exact hm x hx
     · exact hs) hj
   refine ⟨r,j',?_,hr,hm',hj'⟩
   simp [tn,tsh,tl,m6,rJ,N5,Sb] at e' ⊢
   rw [g247L1e]
   simp (disch:=omega) [tn,tsh,tl,-getElem?_pos,g247B1,hc,hcl,hk,az,e,hb,aI]
   exact e'
theorem Mq {L:List Int} {tm:Nat} {TP:Int→Sh} (hT:Tape L tm TP) (hL:Sm L) {ds:List Dt} {dep:Nat} (hdep:dep<1000) (hg:rP L tm TP ds dep) {d:Dt} (hD:D8 d) {a:Ex}:∀(n k:Nat),d.cons.length-k=n→k≤d.cons.length→∀(as:List Ar) (i:Nat),as.length=k→D4 ds dep d as→i≤L.length →
   ∃(r:List Ar) (j:Nat),cl AP g247L0 ⟨[(0,.aZ tm 0),(1,.pv (.aE (ds.map Dt.pv))),(2,.pv (vI (dep+1))),(6,.aB 6 0),(13,.aB 13 0),(14,.aB 14 0),(15,.pv (vI k))],
     [(6,m6),(13,rJ d),(14,N5 a as)],TP i,[0,0,0,1,as.length,0]⟩ =
     some (.exit 1,⟨[(0,.aZ tm 0),(1,.pv (.aE (ds.map Dt.pv))),(2,.pv (vI (dep+1))),(6,.aB 6 0),(13,.aB 13 0),(14,.aB 14 0),(15,.pv (vI d.cons.length)),(161,.pv (.bool false))],
     [(6,m6),(13,rJ d),(14,N5 a r)],TP j,[0,0,0,1,r.length,0]⟩) ∧
     r.length=d.cons.length∧D4 ds dep d r∧j≤L.length
 | 0,k,hn,hk,as,i,ha,hm,hi=>by
   have tn:=hT.norm
   have tsh:=hT.shift
   have tl:=hT.take
   have:k=d.cons.length:=by omega
   subst this
   refine ⟨as,i,?_,ha,hm,hi⟩
   rw [g247L0e]
   simp [tn,tsh,tl,g247B0,m6,rJ,N5]
 | n+1,k,hn,hk,as,i,ha,hm,hi=>by
   have tn:=hT.norm
   have tsh:=hT.shift
   have tl:=hT.take
   have hk:k<d.cons.length:=by omega
   obtain ⟨c,hc⟩:=bM hk
   obtain ⟨_,_,h8,hf⟩:=hD
   obtain ⟨vs,j,e,hv,hvm,hj⟩:=Mp hT hL (ds:=ds) (dep:=dep) (a:=a) (as:=as) hc (hf c (bA hc)) _ 0 rfl (by omega) [] i rfl (by simp) hi
   obtain ⟨b,f1,f2,f3,j2,e2,hb,hj2⟩:=hg j hj
   have hB:=ez f1 f2 f3 b
   generalize eB f1 f2 f3 b=B at e2 hB
   have bc:=Ex.bQ b
   have tB:B.take 11=B:=List.take_of_length_le (by rw [hB.len];omega)
   have hbb:(as.length+1)*200≤140737488355328:=by omega
   have hm2:D4 ds dep d (as++[⟨0,c.name,vs,b⟩]):=by
     refine ⟨?_,?_,?_⟩
     · intro x hx
       try simp [tn,tsh,tl] at hx
       rcases hx with hx | rfl
       · exact hm.1 x hx
       · exact hb
     · intro x hx
       try simp [tn,tsh,tl] at hx
       rcases hx with hx | rfl
       · exact hm.2.1 x hx
       · exact ⟨rfl,hvm⟩
     · intro i c' x h1 h2
       by_cases hlt:i<as.length
       · rw [List.getElem?_append_left hlt] at h2
         exact hm.2.2 i c' x h1 h2
       · rw [List.getElem?_append_right (by omega)] at h2
         have:i-as.length=0:=by
           have:=(List.getElem?_eq_some_iff.1 h2).1
           simpa using this
         have hik:i=k:=by omega
         subst hik
         rw [hc] at h1
         cases h1
         rw [this] at h2
         try simp [tn,tsh,tl] at h2
         subst h2
         exact ⟨rfl,hv⟩
   obtain ⟨r,j',e',hr,hm',hj'⟩:=Mq hT hL hdep hg ⟨by assumption,by assumption,h8,hf⟩ (a:=a) n (k+1) (by omega) (by omega) (as++[⟨0,c.name,vs,b⟩]) j2 (by simp;omega) hm2 hj2
   refine ⟨r,j',?_,hr,hm',hj'⟩
   have hd1:(dep:Int)+1-1=dep:=by omega
   rw [g247L1e] at e
   rw [g247L0e] at e'
   simp [tn,tsh,tl,m6,rJ,N5,Sb] at e e' e2 ⊢
   rw [g247L0e]
   simp (disch:=omega) [tn,tsh,tl,-getElem?_pos,g247B0,hc,hk,az,hd1,g247L1e,e,e2,hbb,aI,hB.dL,hB.flat,hB.iP,hB.len,hB.leaf,tB,bc]
   rw [g247L0e]
   simp [tn,tsh,tl,e']
theorem IV {L:List Int} {tm:Nat} {TP:Int→Sh} (hT:Tape L tm TP) (hL:Sm L) {ds:List Dt} (hds:ds.length≤8) (hD:∀d∈ds,D8 d) {dep:Nat} (hdep:dep<1000) (hg:rP L tm TP ds dep) {i j1:Nat} {k:Int} (hj1:j1≤L.length)
   (e1:(aL AP).i 68 [.aZ tm 0,.pv (vI 14)] (TP i) []=some ([.pv (vI k)],TP j1,[])) (k13:k=13) :
   ∃(e:Ex) (fk fa fg:Bool) (j:Nat),(aL AP).i 247 [.aZ tm 0,.pv (.aE (ds.map Dt.pv)),.pv (vI (dep+1:Nat))] (TP i) []=some ([.agg (eB fk fa fg e)],TP j,[])∧gD ds (dep+1) e∧j≤L.length:=by
 have tn:=hT.norm
 have tsh:=hT.shift
 have tl:=hT.take
 subst k13
 try simp [tn,tsh,tl] at e1
 have h1:¬((dep:Int)+1<1):=by omega
 have h2:(dep:Int)+1-1=dep:=by omega
 by_cases h0:ds=[]
 · subst h0
   obtain ⟨a,f1,f2,f3,j2,e2,ha,hj2⟩:=hg j1 hj1
   refine ⟨a,f1,f2,f3,j2,?_,.up ha,hj2⟩
   rw [aP (af:=g247) rfl (by simp [tn,tsh,tl,g247])]
   cases f1<;>cases f2<;>cases f3<;>simp [tn,tsh,tl,eB,gV] at e2<;>simp (disch:=omega) [tn,tsh,tl,g247,e1,h1,h2,az,e2,eB,gV,aI]
 · have hp:0<ds.length:=List.length_pos_iff.2 h0
   obtain ⟨r,j2,e2,r0,r1,hj2⟩:=oj hT hL hj1 (n:=ds.length) (by omega) (by omega)
   obtain ⟨m,rfl,hm⟩:=nY r0 r1
   obtain ⟨d,hx⟩:=bM hm
   have hDd:=hD d (bA hx)
   obtain ⟨a,f1,f2,f3,j3,e3,ha,hj3⟩:=hg j2 hj2
   have hA:=ez f1 f2 f3 a
   generalize eB f1 f2 f3 a=A at e3 hA
   have ac:=Ex.bQ a
   obtain ⟨as,j4,e4,NX,hao,hj4⟩:=Mq hT hL hdep hg hDd (a:=a) _ 0 rfl (by omega) [] j3 rfl ⟨by simp,by simp,by simp⟩ hj3
   try simp [tn,tsh,tl] at e2 e3
   refine ⟨⟨8,0,[],0,[a],as,bO⟩,false,false,false,j4,?_,.qX (bA hx) ha NX hao.1 hao.2.1 hao.2.2,hj4⟩
   rw [aP (af:=g247) rfl (by simp [tn,tsh,tl,g247])]
   rw [g247L0e] at e4
   simp [tn,tsh,tl,m6,rJ,N5] at e4
   simp (disch:=omega) [tn,tsh,tl,-getElem?_pos,g247,e1,h1,h2,h0,az,e2,e3,hp,hx,hA.dL,hA.flat,hA.iP,hA.len,hA.leaf,ac,g247L0e,e4,aI,eB,gV,bO]
theorem SQ {L:List Int} {tm:Nat} {TP:Int→Sh} (hT:Tape L tm TP) (hL:Sm L) {ds:List Dt} (hds:ds.length≤8) (hD:∀d∈ds,D8 d):∀dep:Nat,dep<1000→rP L tm TP ds dep
 | 0,_=>fun i hi=>by
   have tn:=hT.norm
   have tsh:=hT.shift
   have tl:=hT.take
   obtain ⟨k,j1,e1,k0,k14,hj1⟩:=oj hT hL hi (n:=14) (by omega) (by omega)
   exact vP hT hL hds hD hj1 e1 k0 (by simp)
 | dep+1,h=>fun i hi=>by
   have tn:=hT.norm
   have tsh:=hT.shift
   have tl:=hT.take
   obtain ⟨k,j1,e1,k0,k14,hj1⟩:=oj hT hL hi (n:=14) (by omega) (by omega)
   have hg:=SQ hT hL hds hD dep (by omega)
   by_cases h5:k<5
   · exact vP hT hL hds hD hj1 e1 k0 (by simpa using h5)
   · by_cases h12:k≤12
     · exact IU hT hL hds hD (by omega) hg hj1 e1 (by omega) h12
     · exact IV hT hL hds hD (by omega) hg hj1 e1 (by omega)
end Go.Ab.Lw
namespace Go.Ab.Lw
open Ev
theorem iW:bO.Ok:=df rfl
end Go.Ab.Lw
namespace Go.Ab.Lw
open Ev
structure vQ (n:Nat) (e:Ex):Prop where
 sc:Az e
 h:e.A0 n
 w:e.sz≤wN n
 tx:mr e
theorem km {n m:Nat} {e:Ex} (h:e.A0 n):n≤m→e.A0 m:=by
 induction h generalizing m with
 | mk _ ih=>
   intro hm
   obtain ⟨k,rfl⟩:∃k,m=k+1:=⟨m-1,by omega⟩
   exact .mk fun x hx=>ih x hx (by omega)
theorem vQ.up {n m:Nat} {e:Ex} (h:vQ n e) (hm:n≤m):vQ m e:=⟨h.sc,km h.h hm,Nat.le_trans h.w (R_ hm),h.tx⟩
theorem iX:bO.Cw:=⟨fun _=>rfl,by simp [bO]⟩
theorem AS {m:Nat} {l:List Ex} (hl:l.length≤10) (h:∀x∈l,x.sz≤50 ^ m):1+(l.map Ex.sz).sum≤50 ^ (m+1):=by
 have h1:=tM h
 have h2:l.length*50 ^ m≤10*50 ^ m:=Nat.mul_le_mul_right _ hl
 have h3:1≤50 ^ m:=Nat.one_le_pow m 50 (by decide)
 rw [Nat.pow_succ]
 generalize 50 ^ m=P at *
 omega
theorem fY {n:Nat} {k:Int} {s:cm} {m:Int} {l:List Ex} {t:Ty} (hk:k≠8) (hl:l.length≤10) (ht:t.Ok) (hc:t.Cw) (hx:∀x∈l,vQ (12*n) x) (tx:mr ⟨k,0,s,m,l,[],t⟩):vQ (12*(n+1)) ⟨k,0,s,m,l,[],t⟩ where
 sc:=⟨.mk (by simp only;omega) (by simp) (by simp) ht (by simpa [Ex.ch] using fun x h=>(hx x h).sc.ok),.mk (fun h=>absurd h hk) (by simpa [Ex.ch] using fun x h=>(hx x h).sc.one),.mk hc (by simpa [Ex.ch] using fun x h=>(hx x h).sc.cw)⟩
 h:=km (n:=12*n+1) (.mk (by simpa [Ex.ch] using fun x h=>(hx x h).h)) (by omega)
 w:=by
   rw [tO,Ex.ph]
   have e:(⟨k,0,s,m,l,[],t⟩:Ex).ch=l:=by simp [Ex.ch]
   rw [e]
   exact AS hl fun x h=>by have:=(hx x h).w;rwa [tO] at this
 tx:=tx
theorem eM {k:Int} {s:cm} {m:Int} (hk:(k=1∨k=2)∧s.length≤100∨k=3∧0≤m∧m<4∨k=10):vQ 12 ⟨k,0,s,m,[],[],bO⟩:=fY (n:=0) (by omega) (by simp) iW iX (by simp) (.leaf hk rfl rfl)
theorem Ox {n r:Nat} (hr:r<11) {k:Int} {s:cm} {m:Int} {ks:List Ex} {y:Ex} (hf:vQ (12*n+r) ⟨k,0,s,m,ks,[],bO⟩) (hy:vQ (12*n) y):vQ (12*n+r+1) ⟨5,0,[],0,[⟨k,0,s,m,ks,[],bO⟩,y],[],bO⟩ where
 sc:=⟨.mk (by simp) (by simp) (by simp) iW (by simpa [Ex.ch] using ⟨hf.sc.ok,hy.sc.ok⟩),.mk (fun h=>absurd (show (5:Int)=8 from h) (by decide)) (by simpa [Ex.ch] using ⟨hf.sc.one,hy.sc.one⟩),.mk iX (by simpa [Ex.ch] using ⟨hf.sc.cw,hy.sc.cw⟩)⟩
 h:=.mk (by simpa [Ex.ch] using ⟨hf.h,km hy.h (by omega)⟩)
 w:=by
   have h1:=hf.w
   have h2:=hy.w
   rw [tO] at h2
   have h3:1≤50 ^ n:=Nat.one_le_pow n 50 (by decide)
   rw [Ex.ph]
   have e:(⟨5,0,[],0,[⟨k,0,s,m,ks,[],bO⟩,y],[],bO⟩:Ex).ch=[⟨k,0,s,m,ks,[],bO⟩,y]:=by simp [Ex.ch]
   rw [e]
   simp only [List.map_cons,List.map_nil,List.sum_cons,List.sum_nil]
   unfold wN at h1 ⊢
   have e1:(12*n+r) / 12=n:=by omega
   have e2:(12*n+r) % 12=r:=by omega
   have e3:(12*n+r+1) / 12=n:=by omega
   have e4:(12*n+r+1) % 12=r+1:=by omega
   rw [e1,e2] at h1
   rw [e3,e4]
   have e5:50 ^ n*(2*(r+1)+1)=50 ^ n*(2*r+1)+2*50 ^ n:=by rw [show 2*(r+1)+1=(2*r+1)+2 from by omega,Nat.mul_add];omega
   rw [e5]
   omega
 tx:=.app rfl rfl rfl hf.tx hy.tx
theorem QE {L:List Int} {tm:Nat} {TP:Int→Sh} (hT:Tape L tm TP) {I:Nat} {g:Ty} (hg:cv g) {E:List En} (hE:E.length≤10000) (hc:∀x∈E,lO x.sc) (hnm:∀x∈E,x.name.length≤100):∀(n i:Nat),E.length-i=n→i≤E.length→∀acc:List cm,acc.length≤i→(∀s∈acc,s.length≤100) →
   ∃fs:List cm,fs.length≤E.length∧(∀s∈fs,s.length≤100)∧cl AP g348L0 ⟨[(0,.aZ tm 0),(7,.aB 7 0),(8,.aB 8 0),(9,.own (acc.map .str) 0),(10,.pv (.aE (E.map En.pv))),(11,.pv (vI i))],[(7,tC g),(8,pj 1)],TP I,[acc.length,0,0,0]⟩ =
     some (.exit 0,⟨[(0,.aZ tm 0),(7,.aB 7 0),(8,.aB 8 0),(9,.own (fs.map .str) 0),(10,.pv (.aE (E.map En.pv))),(11,.pv (vI E.length)),(19,.pv (.bool false))],[(7,tC g),(8,pj 1)],TP I,[fs.length,0,0,0]⟩)
 | 0,i,hn,hi,acc,ha,hsn=>by
   have tn:=hT.norm
   have tsh:=hT.shift
   have tl:=hT.take
   have:i=E.length:=by omega
   subst this
   refine ⟨acc,ha,hsn,?_⟩
   rw [g348L0e]
   simp [tn,tsh,tl,g348B0,tC,pj]
 | n+1,i,hn,hi,acc,ha,hsn=>by
   have tn:=hT.norm
   have tsh:=hT.shift
   have tl:=hT.take
   have hi:i<E.length:=by omega
   obtain ⟨x,hx⟩:=bM hi
   obtain ⟨K,q1,q2,q3⟩:=(hc x (bA hx)).SM
   have k:=c238 (N:=K) (by omega) (p:=x.sc.ty) hg.ok q3
   have hb:(acc.length+1)*16≤140737488355328:=by omega
   cases hI:Mk K x.sc.ty g with
   | none=>
     obtain ⟨fs,h1,h1n,e'⟩:=QE hT (L:=L) (I:=I) hg hE hc hnm n (i+1) (by omega) (by omega) acc (by omega) hsn
     refine ⟨fs,h1,h1n,?_⟩
     rw [hI] at k
     rw [g348L0e] at e' ⊢
     simp [tn,tsh,tl,tC,pj] at e'
     simp [tn,tsh,tl,rI] at k
     simp (disch:=omega) [tn,tsh,tl,-getElem?_pos,g348B0,tC,pj,hx,hi,q1,k,az]
     rw [g348L0e]
     simp [tn,tsh,tl,e']
   | some l=>
     obtain ⟨fs,h1,h1n,e'⟩:=QE hT (L:=L) (I:=I) hg hE hc hnm n (i+1) (by omega) (by omega) (acc++[x.name]) (by simp;omega) (by
       intro s hs;simp only [List.mem_append,List.mem_singleton] at hs;rcases hs with hs | rfl
       · exact hsn s hs
       · exact hnm x (bA hx))
     refine ⟨fs,h1,h1n,?_⟩
     rw [hI] at k
     rw [g348L0e] at e' ⊢
     simp [tn,tsh,tl,tC,pj] at e'
     simp [tn,tsh,tl,rI] at k
     simp (disch:=omega) [tn,tsh,tl,-getElem?_pos,g348B0,tC,pj,hx,hi,q1,k,hb,az]
     rw [g348L0e]
     simp [tn,tsh,tl,e']
def na (L:List Int) (tm:Nat) (TP:Int→Sh) (n:Nat) (r:Option (List AV×Sh×aH)):Prop:=∃(e:Ex) (fk fa fg:Bool) (j:Nat),r=some ([.agg (eB fk fa fg e)],TP j,[])∧vQ n e∧j≤L.length
structure Ctx (n:Nat) (l:List En):Prop where
 len:l.length≤n
 SR:∀x∈l,lO x.sc
 nm:∀x∈l,x.name.length≤100
theorem c348 {L:List Int} {tm:Nat} {TP:Int→Sh} (hT:Tape L tm TP) (hL:Sm L) {ds:List Dt} {l:List En} (hl:Ctx 10000 l) {g:Ty} (hg:cv g) {i:Nat} (hi:i≤L.length) :
   na L tm TP 12 ((aL AP).i 348 [.aZ tm 0,.pv (.aE (ds.map Dt.pv)),.pv (.aE (l.map En.pv)),.pv g.pv] (TP i) []):=by
 have tn:=hT.norm
 have tsh:=hT.shift
 have tl:=hT.take
 have hsl:=tI l
 have hll:=hl.len
 have k1:=c201 (l:=l) (by unfold Sm;omega)
 obtain ⟨fs,hf,hfn,e⟩:=QE hT (L:=L) (I:=i) hg (E:=dX l) (by omega) (fun x hx=>hl.SR x (ml l x hx)) (fun x hx=>hl.nm x (ml l x hx)) _ 0 rfl (by omega) [] (by simp) (by simp)
 generalize dX l=E at *
 have k2:=c20 (a:=g) (b:=bu) hg.ok
 have k3:=c34
 rw [g348L0e] at e
 simp [tn,tsh,tl,tC,pj] at e k1 k3
 have tail:∀j,j≤L.length→(g=bu∧∃r j1,0≤r∧j1≤L.length∧(aL AP).i 68 [.aZ tm 0,.pv (vI 4)] (TP j) []=some ([.pv (vI r)],TP j1,[]))∨¬g=bu:=by
   intro j hj
   by_cases q:g=bu
   · obtain ⟨r,j1,e1,r0,_,hj1⟩:=oj hT hL hj (n:=4) (by omega) (by omega)
     exact .inl ⟨q,r,j1,r0,hj1,e1⟩
   · exact .inr q
 by_cases RL:fs=[]
 · subst RL
   try simp [tn,tsh,tl] at e
   rcases tail i hi with ⟨q,r,j1,r0,hj1,e1⟩ | q
   · rw [decide_eq_true q] at k2
     subst q
     try simp [tn,tsh,tl] at k2 e1
     by_cases hr:0<r
     · obtain ⟨m,j2,e2,m0,m1,hj2⟩:=oj hT hL hj1 (n:=3) (by omega) (by omega)
       refine ⟨⟨3,0,[],m,[],[],bO⟩,true,true,true,j2,?_,eM (.inr (.inl ⟨rfl,m0,by omega⟩)),hj2⟩
       try simp [tn,tsh,tl] at e2
       simp [tn,tsh,tl,bu] at k2 k3 e
       rw [aP (af:=g348) rfl (by simp [tn,tsh,tl,g348])]
       simp [tn,tsh,tl,g348,k1,g348L0e,e,k3,k2,e1,hr,e2,eB,gV,bO,bu]
     · refine ⟨⟨10,0,[],0,[],[],bO⟩,true,true,true,j1,?_,eM (.inr (.inr rfl)),hj1⟩
       simp [tn,tsh,tl,bu] at k2 k3 e
       rw [aP (af:=g348) rfl (by simp [tn,tsh,tl,g348])]
       simp [tn,tsh,tl,g348,k1,g348L0e,e,k3,k2,e1,hr,eB,gV,bO,bu]
   · rw [decide_eq_false q] at k2
     refine ⟨⟨10,0,[],0,[],[],bO⟩,true,true,true,i,?_,eM (.inr (.inr rfl)),hi⟩
     simp [tn,tsh,tl,bu] at k2 k3
     rw [aP (af:=g348) rfl (by simp [tn,tsh,tl,g348])]
     simp [tn,tsh,tl,g348,k1,g348L0e,e,k3,k2,eB,gV,bO,bu]
 · have hp:0<fs.length:=List.length_pos_iff.2 RL
   obtain ⟨r6,j6,e6,r60,_,hj6⟩:=oj hT hL hi (n:=6) (by omega) (by omega)
   try simp [tn,tsh,tl] at e6
   by_cases h6:0<r6
   · obtain ⟨m,j7,e7,m0,m1,hj7⟩:=oj hT hL hj6 (n:=fs.length) (by omega) (by omega)
     obtain ⟨m,rfl,hm⟩:=nY m0 m1
     obtain ⟨s,hs⟩:=bM hm
     refine ⟨⟨1,0,s,0,[],[],bO⟩,true,true,true,j7,?_,eM (.inl ⟨.inl rfl,hfn s (bA hs)⟩),hj7⟩
     try simp [tn,tsh,tl] at e7
     rw [aP (af:=g348) rfl (by simp [tn,tsh,tl,g348])]
     simp [tn,tsh,tl,-getElem?_pos,g348,k1,g348L0e,e,hp,e6,h6,e7,hs,eB,gV,bO]
   · rcases tail j6 hj6 with ⟨q,r,j1,r0,hj1,e1⟩ | q
     · rw [decide_eq_true q] at k2
       subst q
       try simp [tn,tsh,tl] at k2 e1
       by_cases hr:0<r
       · obtain ⟨m,j2,e2,m0,m1,hj2⟩:=oj hT hL hj1 (n:=3) (by omega) (by omega)
         refine ⟨⟨3,0,[],m,[],[],bO⟩,true,true,true,j2,?_,eM (.inr (.inl ⟨rfl,m0,by omega⟩)),hj2⟩
         try simp [tn,tsh,tl] at e2
         simp [tn,tsh,tl,bu] at k2 k3 e
         rw [aP (af:=g348) rfl (by simp [tn,tsh,tl,g348])]
         simp [tn,tsh,tl,g348,k1,g348L0e,e,hp,e6,h6,k3,k2,e1,hr,e2,eB,gV,bO,bu]
       · refine ⟨⟨10,0,[],0,[],[],bO⟩,true,true,true,j1,?_,eM (.inr (.inr rfl)),hj1⟩
         simp [tn,tsh,tl,bu] at k2 k3 e
         rw [aP (af:=g348) rfl (by simp [tn,tsh,tl,g348])]
         simp [tn,tsh,tl,g348,k1,g348L0e,e,hp,e6,h6,k3,k2,e1,hr,eB,gV,bO,bu]
     · rw [decide_eq_false q] at k2
       refine ⟨⟨10,0,[],0,[],[],bO⟩,true,true,true,j6,?_,eM (.inr (.inr rfl)),hj6⟩
       simp [tn,tsh,tl,bu] at k2 k3
       rw [aP (af:=g348) rfl (by simp [tn,tsh,tl,g348])]
       simp [tn,tsh,tl,g348,k1,g348L0e,e,hp,e6,h6,k3,k2,eB,gV,bO,bu]
end Go.Ab.Lw
namespace Go.Ab.Lw
open Ev
def ko (L:List Int) (tm:Nat) (TP:Int→Sh) (ds:List Dt) (dep:Nat):Prop:=∀(i:Nat) (l:List En) (g:Ty),i≤L.length→Ctx (1000-20*dep) l→cv g→g.nodes.length≤6000-20*dep →
 na L tm TP (12*(dep+1)) ((aL AP).i 326 [.aZ tm 0,.pv (.aE (ds.map Dt.pv)),.pv (.aE (l.map En.pv)),.pv g.pv,.pv (vI dep)] (TP i) [])
theorem Ctx.push {n m:Nat} {l:List En} (h:Ctx n l) {s:cm} {c:Sc} (hc:lO c) (hs:s.length≤100) (hm:n+1≤m):Ctx m (l++[⟨s,c⟩]):=⟨by have:=h.len;simp;omega,by
 intro x hx;simp at hx;rcases hx with hx | rfl
 · exact h.SR x hx
 · exact hc,by
 intro x hx;simp at hx;rcases hx with hx | rfl
 · exact h.nm x hx
 · exact hs⟩
theorem Ctx.ik {n m:Nat} {l:List En} (h:Ctx n l) (hm:n≤m):Ctx m l:=⟨by have:=h.len;omega,h.SR,h.nm⟩
theorem lz {D:Dt→Prop} (hD:∀d,D d→d.params.length≤8) (hN:∀d,D d→d.name.length≤100) {lv:List Ty} (h:∀t∈lv,t.args=[]∧t.kind=3∧t.name=[]) {n:Nat} {t:Ty} (m:ic D lv n t):cv t:=by
 refine ⟨m.ok hD (fun t ht=>(h t ht).1),?_⟩
 induction m with
 | leaf hl=>exact .bare (h _ hl).1 (fun _=>by rw [(h _ hl).2.1];simp) (by rw [(h _ hl).2.2];simp)
 | int=>exact .bare rfl (by simp [bu]) (by simp [bu])
 | gU hd _ _ ih=>exact .mk (by simp) (hN _ hd) ih
 | arrow _ _ iha ihb=>exact .mk (by simp) (by simp) (by intro x hx;simp at hx;rcases hx with rfl | rfl<;>assumption)
theorem cv.arrow {a b:Ty} (ha:cv a) (hb:cv b):cv ⟨4,[45,62],0,0,[a,b]⟩:=⟨⟨by simp [Sm],by intro x hx;simp at hx;rcases hx with rfl | rfl;exact ha.ok;exact hb.ok⟩,.mk (by simp) (by simp) (by intro x hx;simp at hx;rcases hx with rfl | rfl;exact ha.kn;exact hb.kn)⟩
theorem gh:∀s∈varNames,s.length≤100:=by
 intro s hs
 simp only [varNames,List.mem_cons,List.not_mem_nil,or_false] at hs
 rcases hs with rfl | rfl | rfl | rfl | rfl | rfl | rfl | rfl<;>simp
theorem SS {g:Ty} (hg:cv g) (h:g.kj 3=false):g.Kn KT:=by
 have hk:=hg.kn
 clear hg
 induction hk with
 | @mk t hh hn _ ih=>
   rw [Ty.Fb,Bool.or_eq_false_iff,List.any_eq_false] at h
   refine .mk (fun q=>?_) hn fun x hx=>ih x hx (by simpa using h.2 x hx)
   obtain ⟨a,b⟩:=hh q
   refine ⟨?_,b⟩
   have:=h.1
   simp at a this ⊢
   omega
variable {L: List Int}  {tm:Nat} {TP:Int→Sh} {ds:List Dt} {dep:Nat} {l:List En} {g:Ty} {i:Nat}
def tX (L:List Int) (tm:Nat) (TP:Int→Sh) (ds:List Dt) (dep:Nat) (l:List En) (g:Ty) (i:Nat):Prop:=
 na L tm TP (12*(dep+1)) ((aL AP).i 326 [.aZ tm 0,.pv (.aE (ds.map Dt.pv)),.pv (.aE (l.map En.pv)),.pv g.pv,.pv (vI dep)] (TP i) [])
theorem Mr (hT:Tape L tm TP) (hL:Sm L) (hl:Ctx 10000 l) (hg:cv g) (hi:i≤L.length):tX L tm TP ds 0 l g i:=by
 have tn:=hT.norm
 have tsh:=hT.shift
 have tl:=hT.take
 obtain ⟨e,f1,f2,f3,j,k,ht,hj⟩:=c348 hT hL (ds:=ds) hl hg hi
 refine ⟨e,f1,f2,f3,j,?_,ht.up (by omega),hj⟩
 rw [aP (af:=g326) rfl (by simp [tn,tsh,tl,g326])]
 cases f1<;>cases f2<;>cases f3<;>simp [tn,tsh,tl,eB,gV] at k<;>simp [tn,tsh,tl,g326,k,eB,gV,aI]
theorem Oy (hT:Tape L tm TP) (hL:Sm L) (hdep:dep<100) (hl:Ctx 10000 l) (hg:cv g) {j9:Nat} (hj9:j9≤L.length) (e9:(aL AP).i 68 [.aZ tm 0,.pv (vI 9)] (TP i) []=some ([.pv (vI 0)],TP j9,[])):tX L tm TP ds (dep+1) l g i:=by
 have tn:=hT.norm
 have tsh:=hT.shift
 have tl:=hT.take
 obtain ⟨e,f1,f2,f3,j,k,ht,hj⟩:=c348 hT hL (ds:=ds) hl hg hj9
 refine ⟨e,f1,f2,f3,j,?_,ht.up (by omega),hj⟩
 have h1:¬((dep:Int)+1<1):=by omega
 try simp [tn,tsh,tl] at e9
 rw [aP (af:=g326) rfl (by simp [tn,tsh,tl,g326])]
 cases f1<;>cases f2<;>cases f3<;>simp [tn,tsh,tl,eB,gV] at k<;>simp [tn,tsh,tl,g326,h1,e9,k,eB,gV,aI]
structure Ms (L:List Int) (tm:Nat) (TP:Int→Sh) (g:Ty) (i:Nat) (a b:Ty) (ar:Bool) (k r9:Int) (j9 j:Nat):Prop where
 nz:¬r9=0
 e9:(aL AP).i 68 [.aZ tm 0,.pv (vI 9)] (TP i) []=some ([.pv (vI r9)],TP j9,[])
 arr:(aL AP).p 194 [g.pv]=some [a.pv,b.pv,.bool ar]
 tY:(aL AP).i 68 [.aZ tm 0,.pv (vI 10)] (TP j9) []=some ([.pv (vI k)],TP j,[])
 hj:j≤L.length
theorem QF (hT:Tape L tm TP) (hL:Sm L) (hdep:dep<10) (hG:ko L tm TP ds dep) (hl:Ctx (1000-20*(dep+1)) l) {a b:Ty} {k r9:Int} {j9 j:Nat} (P:Ms L tm TP g i a b true k r9 j9 j) (hk:k<7) (ha:cv a) (hb:cv b) (hbn:b.nodes.length≤6000-20*dep):tX L tm TP ds (dep+1) l g i:=by
 have tn:=hT.norm
 have tsh:=hT.shift
 have tl:=hT.take
 obtain ⟨nz,e9,arr,tY,hj⟩:=P
 obtain ⟨s,j1,e1,hs,hj1⟩:=IT hT hL hj
 have hll:=hl.len
 have k1:=c176 (t:=a)
 have k2:=c179 (l:=l) (by unfold Sm;omega) (n:=s) (c:=⟨0,a⟩)
 obtain ⟨e,f1,f2,f3,j2,e2,he,hj2⟩:=hG j1 (l++[⟨s,⟨0,a⟩⟩]) b hj1 (hl.push ha.mono (gh _ hs) (by omega)) hb hbn
 have hA:=ez f1 f2 f3 e
 generalize eB f1 f2 f3 e=A at e2 hA
 have ac:=Ex.bQ e
 refine ⟨⟨4,0,s,0,[e],[],bO⟩,true,true,true,j2,?_,(fY (by decide) (by simp) iW iX (by simpa using he) (.lam rfl (gh _ hs) rfl rfl he.tx)).up (by omega),hj2⟩
 have h1:¬((dep:Int)+1<1):=by omega
 have h2:(dep:Int)+1-1=dep:=by omega
 try simp [tn,tsh,tl] at e9 arr tY e1 k1 k2 e2
 rw [aP (af:=g326) rfl (by simp [tn,tsh,tl,g326])]
 simp (disch:=omega) [tn,tsh,tl,g326,h1,h2,nz,e9,arr,tY,hk,e1,k1,k2,e2,az,hA.dL,hA.flat,hA.iP,hA.len,hA.leaf,ac,eB,gV,bO]
theorem QG (hT:Tape L tm TP) (hL:Sm L) (hdep:dep<10) (hds:ds.length≤20) (hda:∀d∈ds,d.params.length≤8) (hdn:∀d∈ds,d.name.length≤100) (hG:ko L tm TP ds dep) (hl:Ctx (1000-20*(dep+1)) l) (hg:cv g) (hgn:g.nodes.length≤6000-20*(dep+1)) {a b:Ty} {k r9:Int} {j9 j:Nat} (P:Ms L tm TP g i a b false k r9 j9 j) (hk:k<2):tX L tm TP ds (dep+1) l g i:=by
 have tn:=hT.norm
 have tsh:=hT.shift
 have tl:=hT.take
 obtain ⟨nz,e9,arr,tY,hj⟩:=P
 obtain ⟨t,j1,e1,mt,hj1⟩:=QD hT hL hds hda (lv:=[]) (by simp [tn,tsh,tl,Sm]) 1 (by omega) j hj
 have gt:cv t:=lz hda hdn (by simp) mt
 have tn9:=mt.small hda (by simp)
 have k1:=c69 (a:=t) (b:=g)
 have hl':Ctx (1000-20*dep) l:=hl.ik (by omega)
 obtain ⟨x,f1,f2,f3,j2,e2,hx,hj2⟩:=hG j1 l _ hj1 hl' (gt.arrow hg) (by rw [Ty.aS];simp;omega)
 obtain ⟨y,f4,f5,f6,j3,e3,hy,hj3⟩:=hG j2 l _ hj2 hl' gt (by omega)
 have hA:=ez f1 f2 f3 x
 generalize eB f1 f2 f3 x=A at e2 hA
 have hB:=ez f4 f5 f6 y
 generalize eB f4 f5 f6 y=B at e3 hB
 have ac:=Ex.bQ x
 have bc:=Ex.bQ y
 have tA:A.take 11=A:=List.take_of_length_le (by rw [hA.len];omega)
 refine ⟨⟨5,0,[],0,[x,y],[],bO⟩,true,true,true,j3,?_,(fY (by decide) (by simp) iW iX (by simpa using ⟨hx,hy⟩) (.app rfl rfl rfl hx.tx hy.tx)).up (by omega),hj3⟩
 have h1:¬((dep:Int)+1<1):=by omega
 have h2:(dep:Int)+1-1=dep:=by omega
 simp [tn,tsh,tl,Ty.av] at e9 arr tY e1 k1 e2 e3
 rw [aP (af:=g326) rfl (by simp [tn,tsh,tl,g326])]
 simp (disch:=omega) [tn,tsh,tl,g326,h1,h2,nz,e9,arr,tY,hk,e1,k1,e2,e3,az,hA.dL,hA.flat,hA.iP,hA.len,hA.leaf,hB.dL,hB.flat,hB.iP,hB.len,hB.leaf,tA,ac,bc,aI,eB,gV,bO]
theorem QH (hT:Tape L tm TP) (hL:Sm L) (hdep:dep<10) (hG:ko L tm TP ds dep) (hl:Ctx (1000-20*(dep+1)) l) (hg:cv g) (hgn:g.nodes.length≤6000-20*(dep+1)) {a b:Ty} {r9:Int} {j9 j:Nat} (P:Ms L tm TP g i a b false 4 r9 j9 j) (h3:g.kj 3=false) (h4:g.kj 1=false):tX L tm TP ds (dep+1) l g i:=by
 have tn:=hT.norm
 have tsh:=hT.shift
 have tl:=hT.take
 obtain ⟨nz,e9,arr,tY,hj⟩:=P
 have k1:=c351 (k:=3) hg.ok
 have k2:=c351 (k:=1) hg.ok
 rw [h3] at k1
 rw [h4] at k2
 have hl':Ctx (1000-20*dep) l:=hl.ik (by omega)
 obtain ⟨x,f1,f2,f3,j2,e2,hx,hj2⟩:=hG j l _ hj hl' hg (by omega)
 have hA:=ez f1 f2 f3 x
 generalize eB f1 f2 f3 x=A at e2 hA
 have ac:=Ex.bQ x
 refine ⟨⟨9,0,[],0,[x],[],g⟩,true,true,false,j2,?_,(fY (by decide) (by simp) hg.ok hg.kn.cw (by simpa using hx) (.N1 rfl rfl rfl (SS hg h3) (by simp only;omega) hx.tx)).up (by omega),hj2⟩
 have h1:¬((dep:Int)+1<1):=by omega
 have h2:(dep:Int)+1-1=dep:=by omega
 try simp [tn,tsh,tl] at e9 arr tY k1 k2 e2
 rw [aP (af:=g326) rfl (by simp [tn,tsh,tl,g326])]
 simp (disch:=omega) [tn,tsh,tl,g326,h1,h2,nz,e9,arr,tY,k1,k2,e2,az,hA.dL,hA.flat,hA.iP,hA.len,hA.leaf,ac,eB,gV,bO]
theorem Oz (hT:Tape L tm TP) (hL:Sm L) (hdep:dep<10) (hG:ko L tm TP ds dep) (hl:Ctx (1000-20*(dep+1)) l) (hg:cv g) (hgn:g.nodes.length≤6000-20*(dep+1)) {a b:Ty} {r9:Int} {j9 j:Nat} (P:Ms L tm TP g i a b false 5 r9 j9 j):tX L tm TP ds (dep+1) l g i:=by
 have tn:=hT.norm
 have tsh:=hT.shift
 have tl:=hT.take
 obtain ⟨nz,e9,arr,tY,hj⟩:=P
 have hl':Ctx (1000-20*dep) l:=hl.ik (by omega)
 obtain ⟨x,f1,f2,f3,j2,e2,hx,hj2⟩:=hG j l _ hj hl' hg (by omega)
 have hA:=ez f1 f2 f3 x
 generalize eB f1 f2 f3 x=A at e2 hA
 have ac:=Ex.bQ x
 refine ⟨⟨11,0,[],0,[x],[],bO⟩,true,true,true,j2,?_,(fY (by decide) (by simp) iW iX (by simpa using hx) (.held rfl rfl rfl hx.tx)).up (by omega),hj2⟩
 have h1:¬((dep:Int)+1<1):=by omega
 have h2:(dep:Int)+1-1=dep:=by omega
 try simp [tn,tsh,tl] at e9 arr tY e2
 rw [aP (af:=g326) rfl (by simp [tn,tsh,tl,g326])]
 simp (disch:=omega) [tn,tsh,tl,g326,h1,h2,nz,e9,arr,tY,e2,az,hA.dL,hA.flat,hA.iP,hA.len,hA.leaf,ac,eB,gV,bO]
end Go.Ab.Lw
namespace Go.Ab.Lw
open Ev
structure Ub (x u:Ty):Prop where
 ok:u.Ok
 kn:u.Kn KS
 vr:∀y∈u.nodes,y.kind=1→∃z∈x.nodes,z.kind=3∧z.home=99∧y.id=IntKind.i64.wrap (900+z.id)
 n:u.nodes.length≤x.nodes.length
structure SU (x u:Ty):Prop where
 ok:u.Ok
 kn:u.Kn KS
 vr:∀y∈u.nodes,y.kind=1→∃z∈x.nodes,z.kind=3∧z.home=99∧y.id=IntKind.i64.wrap (900+z.id)
theorem Pr {x:Ty} (hx:x.Ok) (IH:∀a∈x.args,∃u:Ty,(aL AP).p 375 [a.pv]=some [u.pv]∧Ub a u):∀(k i:Nat),x.args.length-i=k→i≤x.args.length→∀acc:List Ty,acc.length=i→(∀u∈acc,SU x u)→(acc.flatMap Ty.nodes).length≤((x.args.take i).flatMap Ty.nodes).length→∃us:List Ty,
   cl AP g375L0 ⟨[(1,.aB 1 0),(2,.aB 2 0),(3,.aB 3 0),(4,.pv (vI i))],[(1,tC x),(2,zC 0),(3,uC x acc 1)],[],[0,acc.length]⟩ =
     some (.exit 0,⟨[(1,.aB 1 0),(2,.aB 2 0),(3,.aB 3 0),(4,.pv (vI x.args.length)),(23,.pv (.bool false))],[(1,tC x),(2,zC 0),(3,uC x us 1)],[],[0,us.length]⟩)∧us.length=x.args.length∧(∀u∈us,SU x u)∧(us.flatMap Ty.nodes).length≤(x.args.flatMap Ty.nodes).length
 | 0,i,hk,hi,acc,ha,hu,hc=>by
   have:i=x.args.length:=by omega
   subst this
   refine ⟨acc,?_,ha,hu,by simpa using hc⟩
   rw [g375L0e]
   simp [g375B0,tC,zC,uC]
 | k+1,i,hk,hi,acc,ha,hu,hc=>by
   have hi:i<x.args.length:=by omega
   obtain ⟨a,hax⟩:=bM hi
   have hsm:=hx.sm
   unfold Sm at hsm
   obtain ⟨u,e,hO⟩:=IH a (bA hax)
   have hnn:=hO.n
   obtain ⟨us,e',h1,h2,h3⟩:=Pr hx IH k (i+1) (by omega) (by omega) (acc++[u]) (by simp;omega) (by
     intro y hy;simp at hy;rcases hy with hy | rfl
     · exact hu y hy
     · exact ⟨hO.ok,hO.kn,fun z hz q=>by obtain ⟨w,hw,hr⟩:=hO.vr z hz q;exact ⟨w,IQ a (bA hax) w hw,hr⟩⟩) (by rw [List.take_add_one,hax,List.flatMap_append,List.length_append,List.flatMap_append,List.length_append];simp only [Option.toList_some,List.flatMap_cons,List.flatMap_nil,List.append_nil];omega)
   refine ⟨us,?_,h1,h2,h3⟩
   have hb:(acc.length+1)*64≤140737488355328:=by omega
   rw [g375L0e] at e' ⊢
   simp at e
   simp [tC,zC,uC] at e'
   simp (disch:=omega) [-getElem?_pos,g375B0,tC,zC,uC,hi,hax,az,e,hb]
   rw [g375L0e]
   simp [e']
theorem c375x {t:Ty} (hG:cv t):∃u:Ty,(aL AP).p 375 [t.pv]=some [u.pv]∧Ub t u:=by
 revert hG
 refine Ty.gg (p:=fun t=>cv t→∃u:Ty,(aL AP).p 375 [t.pv]=some [u.pv]∧Ub t u) ?_ t
 intro t ih hG
 have hself:t∈t.nodes:=by rw [Ty.aS];simp
 have hpos:1≤t.nodes.length:=by rw [Ty.aS];simp
 by_cases q:t.kind=3∧t.home=99
 · have k:=c63 (n:=IntKind.i64.wrap (900+t.id))
   refine ⟨⟨1,[],IntKind.i64.wrap (900+t.id),0,[]⟩,?_,⟨df rfl,.bare rfl (by simp) (by simp),?_,by rw [Ty.aS];simpa using hpos⟩⟩
   · simp at k
     rw [ah (af:=g375) rfl rfl (by decide)]
     simp [g375,q.1,q.2,k]
   · intro y hy _
     rw [Ty.aS] at hy
     simp at hy
     subst hy
     exact ⟨t,hself,q.1,q.2,rfl⟩
 · obtain ⟨us,e,h1,h2,h3⟩:=Pr hG.ok (fun a ha=>ih a ha (hG.iv a ha)) _ 0 rfl (by omega) [] rfl (by simp) (by simp)
   refine ⟨⟨t.kind,t.name,t.id,t.home,us⟩,?_,⟨⟨by have:=hG.ok.sm;unfold Sm at *;simp only;omega,fun y hy=>(h2 y hy).ok⟩,.mk (fun r=>?_) hG.kn.nm fun y hy=>(h2 y hy).kn,?_,by rw [Ty.aS,Ty.aS t];simp only [List.length_cons];omega⟩⟩
   · rw [ah (af:=g375) rfl rfl (by decide)]
     rw [g375L0e] at e
     simp [tC,zC,uC] at e
     by_cases q1:t.kind=3
     · have q2:¬t.home=99:=fun h=>q ⟨q1,h⟩
       simp [q1] at e
       simp [g375,q1,q2,g375L0e,e]
     · simp [g375,q1,g375L0e,e]
   · have:=hG.kn.hd r
     refine ⟨O0 _ this.1,?_⟩
     rw [this.2] at h1
     exact List.length_eq_zero_iff.1 h1
   · intro y hy hk
     rw [Ty.aS] at hy
     simp only [List.mem_cons,List.mem_flatMap] at hy
     rcases hy with rfl | ⟨u,hu,hy⟩
     · have:=(hG.kn.hd (by change t.kind=1 at hk;rw [hk];decide)).1
       change t.kind=1 at hk
       rw [hk] at this
       simp at this
     · exact (h2 u hu).vr y hy hk
theorem Mu {l:List Ty}:∀{out:List Ty} {y:Ty},y∈out∨y∈l→y∈l.foldl ig out:=by
 induction l with
 | nil=>intro out y h;simpa using h
 | cons a r ih=>
   intro out y h
   rw [List.foldl_cons]
   refine ih ?_
   rcases h with h | h
   · left;unfold ig;split
     · exact h
     · simp [h]
   · simp only [List.mem_cons] at h
     rcases h with rfl | h
     · left;unfold ig;split
       · assumption
       · simp
     · exact .inr h
theorem c59x {u:Ty} (hu:u.Ok) (hn:u.nodes.length≤4000):∃r:List Ty,(aL AP).p 59 [.aE [u.pv]]=some [.aE (r.map Ty.pv)]∧Sm r∧∀y∈u.ff 3,y∈r:=by
 have hl:=pk (k:=3) (t:=u)
 have c0:gC (u.ff 3) []:=⟨by simp,by simp,by omega,fun x hx=>df (mA x hx)⟩
 have hk:∀x∈[u].flatMap (Ty.ff 3),x∈u.ff 3:=by simp
 have h:=TX (S:=u.ff 3) (l:=[u]) (by simp [Sm]) (by simpa using hu) hk _ 0 rfl (by omega) [] c0
 have hc:=c0.fold hk
 refine ⟨_,?_,hc.len,fun y hy=>Mu (.inr (by simpa using hy))⟩
 rw [ah (af:=g59) rfl rfl (by decide)]
 rw [g59L0e] at h
 simp at h
 simp [g59,g59L0e,h]
theorem Mv {k:Int} {t:Ty}:∀y∈t.nodes,y.kind=k→y.args=[]→y∈t.ff k:=by
 refine Ty.gg (p:=fun t=>∀y∈t.nodes,y.kind=k→y.args=[]→y∈t.ff k) ?_ t
 intro t ih y hy hk ha
 rw [Ty.aS] at hy
 rw [Ty.mj]
 simp only [List.mem_cons,List.mem_flatMap] at hy
 rcases hy with rfl | ⟨a,ham,hy⟩
 · rw [if_pos ⟨hk,by rw [ha];rfl⟩];simp
 · have:¬(t.kind=k∧t.args.length=0):=by
     rintro ⟨_,h⟩
     rw [List.length_eq_zero_iff.1 h] at ham
     cases ham
   rw [if_neg this]
   simp only [List.mem_flatMap]
   exact ⟨a,ham,ih a ham y hy hk ha⟩
theorem Mw {r:List Ty} (hr:Sm r) {t:Ty}:∀(n i:Nat),r.length-i=n→i≤r.length→∀acc:List Int,acc.length≤i→∃ids:List Int,ids.length≤r.length∧(∀v∈acc,v∈ids)∧(∀z∈r.drop i,z.home=99→IntKind.i64.wrap (900+z.id)∈ids) ∧
   cl AP g361L0 ⟨[(1,.aB 1 0),(2,.aB 2 0),(3,.own (acc.map vI) 0),(4,.pv (.aE (r.map Ty.pv))),(5,.pv (vI i))],[(1,tC t),(2,gz 1)],[],[acc.length,0]⟩ =
     some (.exit 0,⟨[(1,.aB 1 0),(2,.aB 2 0),(3,.own (ids.map vI) 0),(4,.pv (.aE (r.map Ty.pv))),(5,.pv (vI r.length)),(12,.pv (.bool false))],[(1,tC t),(2,gz 1)],[],[ids.length,0]⟩)
 | 0,i,hn,hi,acc,ha=>by
   have:i=r.length:=by omega
   subst this
   refine ⟨acc,ha,fun _ h=>h,by simp,?_⟩
   rw [g361L0e]
   simp [g361B0,tC,gz]
 | n+1,i,hn,hi,acc,ha=>by
   have hi:i<r.length:=by omega
   obtain ⟨x,hx⟩:=bM hi
   have hr':=hr
   unfold Sm at hr
   have hb:(acc.length+1)*8≤140737488355328:=by omega
   have hh:bF 1 (acc.map vI)=true:=p8.head acc
   rw [cX hx]
   by_cases q:x.home=99
   · obtain ⟨ids,h1,h2,h3,e⟩:=Mw (t:=t) hr' n (i+1) (by omega) (by omega) (acc++[IntKind.i64.wrap (900+x.id)]) (by simp;omega)
     refine ⟨ids,h1,fun v hv=>h2 v (by simp [hv]),?_,?_⟩
     · intro z hz hh
       simp only [List.mem_cons] at hz
       rcases hz with rfl | hz
       · exact h2 _ (by simp)
       · exact h3 z hz hh
     · rw [g361L0e] at e ⊢
       simp [tC,gz] at e
       simp (disch:=omega) [-getElem?_pos,g361B0,tC,gz,hx,hi,q,hb,hh]
       rw [g361L0e]
       have w1:IntKind.i64.wrap ((i:Int)+1)=(i:Int)+1:=az (by omega) (by omega)
       simp [w1,e]
   · obtain ⟨ids,h1,h2,h3,e⟩:=Mw (t:=t) hr' n (i+1) (by omega) (by omega) acc (by omega)
     refine ⟨ids,h1,h2,?_,?_⟩
     · intro z hz hh
       simp only [List.mem_cons] at hz
       rcases hz with rfl | hz
       · exact absurd hh q
       · exact h3 z hz hh
     · rw [g361L0e] at e ⊢
       simp [tC,gz] at e
       simp (disch:=omega) [-getElem?_pos,g361B0,tC,gz,hx,hi,q,az]
       rw [g361L0e]
       simp [e]
theorem om {ids:List Int}:∀(vs:List Int) (acc:List As),(∀a∈acc,∃k:Nat,k<acc.length∧a.ty=cV k)→(∀a∈dr ids vs acc,∃k:Nat,k<(dr ids vs acc).length∧a.ty=cV k)∧(dr ids vs acc).length≤acc.length+vs.length∧(∀v,(∃x,lg acc v=some x)→∃x,lg (dr ids vs acc) v=some x)∧∀v∈vs,v∈ids→∃x,lg (dr ids vs acc) v=some x
 | [],acc,h=>⟨h,by simp [dr],fun _ h=>h,by simp⟩
 | v::r,acc,h=>by
   simp only [dr]
   by_cases q:v∈ids
   · rw [if_pos q]
     obtain ⟨h1,h2,h3,h4⟩:=om (ids:=ids) r (acc++[⟨v,cV acc.length⟩]) (by
       intro a ha
       simp at ha
       rcases ha with ha | rfl
       · obtain ⟨k,hk,e⟩:=h a ha;exact ⟨k,by simp;omega,e⟩
       · exact ⟨acc.length,by simp,rfl⟩)
     refine ⟨h1,by simp at h2 ⊢;omega,?_,?_⟩
     · rintro w ⟨x,hx⟩
       exact h3 w ⟨x,by rw [xy,hx];rfl⟩
     · intro w hw hi
       simp only [List.mem_cons] at hw
       rcases hw with rfl | hw
       · refine h3 w ?_
         rw [xy]
         cases lg acc w with
         | some x=>exact ⟨x,rfl⟩
         | none=>exact ⟨cV acc.length,by simp [lg]⟩
       · exact h4 w hw hi
   · rw [if_neg q]
     obtain ⟨h1,h2,h3,h4⟩:=om (ids:=ids) r acc h
     refine ⟨h1,by simp;omega,h3,?_⟩
     intro w hw hi
     simp only [List.mem_cons] at hw
     rcases hw with rfl | hw
     · exact absurd hi q
     · exact h4 w hw hi
theorem IW {s:List As} {t:Ty}:∀y∈(t.sub s).nodes,(∃i x,lg s i=some x∧y∈x.nodes)∨∃z∈t.nodes,y.kind=z.kind:=by
 refine Ty.gg (p:=fun t=>∀y∈(t.sub s).nodes,(∃i x,lg s i=some x∧y∈x.nodes)∨∃z∈t.nodes,y.kind=z.kind) ?_ t
 intro t ih y hy
 have iv:∀a∈t.args,y∈(a.sub s).nodes→(∃i x,lg s i=some x∧y∈x.nodes)∨∃z∈t.nodes,y.kind=z.kind:=by
   intro a ha h
   rcases ih a ha y h with h | ⟨z,hz,h⟩
   · exact .inl h
   · exact .inr ⟨z,IQ a ha z hz,h⟩
 have hself:t∈t.nodes:=by rw [Ty.aS];simp
 rw [Ty.sub_eq] at hy
 split at hy
 · cases e:lg s t.id with
   | some x=>rw [e] at hy;exact .inl ⟨_,x,e,hy⟩
   | none=>rw [e] at hy;exact .inr ⟨y,by simpa using hy,rfl⟩
 · rw [Ty.aS] at hy
   simp only [List.mem_cons,List.mem_flatMap,List.mem_map] at hy
   rcases hy with rfl | ⟨b,⟨a,ha,rfl⟩,hy⟩
   · exact .inr ⟨t,hself,rfl⟩
   · exact iv a ha hy
theorem vR:∀{l:List Ty} {out:List Int},(l.foldl eN out).length≤out.length+l.length
 | [],out=>by simp
 | a::r,out=>by
   have h:=vR (l:=r) (out:=eN out a)
   have:(eN out a).length≤out.length+1:=by unfold eN;split<;>simp
   simp only [List.foldl_cons,List.length_cons]
   omega
theorem OA {u:Ty}:(vars [u]).length≤u.nodes.length:=by
 have:=vR (l:=[u].flatMap Ty.nodes) (out:=[])
 simpa [vars] using this
theorem vS {l:List Ty}:∀{out:List Int} {y:Ty},y∈l→y.kind=1→y.id∈l.foldl eN out:=by
 have bl:∀(l:List Ty) (out:List Int) (v:Int),v∈out→v∈l.foldl eN out:=by
   intro l
   induction l with
   | nil=>intro out v h;exact h
   | cons a r ih=>intro out v h;rw [List.foldl_cons];refine ih _ v ?_;unfold eN;split<;>simp [h]
 induction l with
 | nil=>intro out y h;simp at h
 | cons a r ih=>
   intro out y h hk
   rw [List.foldl_cons]
   simp only [List.mem_cons] at h
   rcases h with rfl | h
   · refine bl r _ _ ?_
     unfold eN
     by_cases q:y.id∈out<;>simp [q,hk]
   · exact ih h hk
theorem c361x {x:Ty} (hG:cv x) (hn:x.nodes.length≤90):∃c:Sc,(aL AP).p 361 [x.pv]=some [c.pv]∧lO c:=by
 obtain ⟨r,k1,hr,hl3⟩:=c59x hG.ok (by omega)
 obtain ⟨u,k2,T⟩:=c375x hG
 obtain ⟨ids,hi,_,hin,h⟩:=Mw (t:=x) hr _ 0 rfl (by omega) [] (by simp)
 have hl:=pk (k:=1) (t:=u)
 have hun:=T.n
 have k3:=c208 (t:=u) ⟨T.ok,T.kn.wf,u.ff 1,by omega,fun y hy=>df (mA y hy),fun y hy=>hy⟩ (ids:=ids) (by unfold Sm at *;omega)
 have hv:=OA (u:=u)
 obtain ⟨c1,c2,_,c4⟩:=om (ids:=ids) (vars [u]) [] (by simp)
 have hall:∀y∈u.nodes,y.kind=1→∃z,lg (dr ids (vars [u]) []) y.id=some z:=by
   intro y hy hk
   refine c4 _ (vS (by simpa using hy) hk) ?_
   obtain ⟨z,hz,z3,z99,e⟩:=T.vr y hy hk
   rw [e]
   refine hin z (by
     rw [List.drop_zero]
     refine hl3 z ?_
     have hb:=(hG.kn.nodes z hz (by rw [z3];decide)).2
     exact Mv z hz z3 hb) z99
 refine ⟨pd ids u (vars [u]),?_,⟨D0 T.ok,?_,(dr ids (vars [u]) []).length,rfl,by simp at c2;omega,?_⟩⟩
 · generalize pd ids u (vars [u])=c at *
   rw [g361L0e] at h
   simp [tC,gz] at h
   simp at k1 k2 k3
   rw [ah (af:=g361) rfl rfl (by decide)]
   simp [g361,k1,k2,k3,g361L0e,h]
 · refine D2 (K:=KS) T.kn (by simp only [KS,KC];omega) ?_ (.inr hall)
   intro i z hz
   obtain ⟨a,ha,rfl⟩:=mY hz
   obtain ⟨k,_,e⟩:=c1 a ha
   rw [e]
   exact .bare rfl (by simp [cV]) (by simp [cV])
 · intro y hy hk
   rcases IW y hy with ⟨i,z,hz,hy⟩ | ⟨z,hz,e⟩
   · obtain ⟨a,ha,rfl⟩:=mY hz
     obtain ⟨k,hk2,e⟩:=c1 a ha
     rw [e,Ty.aS] at hy
     simp [cV] at hy
     subst hy
     simp only
     omega
   · have:=(T.kn.nodes z hz (by rw [←e,hk];decide)).1
     rw [←e,hk] at this
     simp at this
end Go.Ab.Lw
namespace Go.Ab.Lw
open Ev
def Mx:List Ty:=[⟨3,[],0,99,[]⟩,⟨3,[],1,99,[]⟩]
theorem c349 {L:List Int} {tm:Nat} {TP:Int→Sh} (hT:Tape L tm TP) {ds:List Dt} {dep:Nat} {l:List En} {g:Ty} {i:Nat} (hL:Sm L) (hdep:dep<10) (hds:ds.length≤20) (hda:∀d∈ds,d.params.length≤8) (hdn:∀d∈ds,d.name.length≤100) (hG:ko L tm TP ds dep) (hl:Ctx (1000-20*(dep+1)) l) (hg:cv g) (hgn:g.nodes.length≤6000-20*(dep+1)) (hi:i≤L.length) :
   na L tm TP (12*(dep+2)) ((aL AP).i 349 [.aZ tm 0,.pv (.aE (ds.map Dt.pv)),.pv (.aE (l.map En.pv)),.pv g.pv,.pv (vI (dep+1:Nat))] (TP i) []):=by
 have tn:=hT.norm
 have tsh:=hT.shift
 have tl:=hT.take
 obtain ⟨r,j1,e1,r0,r1,hj1⟩:=oj hT hL hi (n:=2) (by omega) (by omega)
 obtain ⟨s,j2,e2,hs,hj2⟩:=IT hT hL hj1
 obtain ⟨p,j3,e3,p0,p1,hj3⟩:=oj hT hL hj2 (n:=2) (by omega) (by omega)
 have hlv:∀t∈(if p=0 then Mx else []),t.args=[]∧t.kind=3∧t.name=[]:=by
   intro t ht
   split at ht
   · simp [tn,tsh,tl,Mx] at ht;rcases ht with rfl | rfl<;>exact ⟨rfl,rfl,rfl⟩
   · cases ht
 obtain ⟨x,j4,e4,mx,hj4⟩:=QD hT hL hds hda (lv:=if p=0 then Mx else []) (by unfold Sm;split<;>simp [tn,tsh,tl,Mx]) 2 (by omega) j3 hj3
 have gx:cv x:=lz hda hdn hlv mx
 have hxn:=mx.small hda (fun t ht=>(hlv t ht).1)
 obtain ⟨c,kc,sc⟩:=c361x gx (by omega)
 have hll:=hl.len
 have k1:=c176 (t:=x)
 have k2:=c179 (l:=l) (by unfold Sm;omega) (n:=s) (c:=⟨0,x⟩)
 have hl':Ctx (1000-20*dep) l:=hl.ik (by omega)
 have hlx:Ctx (1000-20*dep) (if r=1 then l++[⟨s,⟨0,x⟩⟩] else l):=by
   split
   · exact hl.push gx.mono (gh _ hs) (by omega)
   · exact hl'
 obtain ⟨a,f1,f2,f3,j5,e5,ha,hj5⟩:=hG j4 _ x hj4 hlx gx (by omega)
 obtain ⟨b10,k3⟩:=c307 ha.sc.ok 10
 obtain ⟨b11,k4⟩:=c307 ha.sc.ok 11
 have k5:=c34
 have k6:=c176 (t:=bu)
 obtain ⟨c',hc',Ps⟩:∃c':Sc,c'=(if b10=true∨b11=true then ⟨0,bu⟩ else c)∧lO c':=by
   refine ⟨_,rfl,?_⟩
   split
   · exact rO.mono
   · exact sc
 have k7:=c179 (l:=l) (by unfold Sm;omega) (n:=s) (c:=c')
 obtain ⟨b,f4,f5,f6,j6,e6,hb,hj6⟩:=hG j5 _ g hj5 (hl.push (s:=s) Ps (gh _ hs) (by omega)) hg (by omega)
 have hA:=ez f1 f2 f3 a
 generalize eB f1 f2 f3 a=A at e5 hA
 have hB:=ez f4 f5 f6 b
 generalize eB f4 f5 f6 b=B at e6 hB
 have ac:=Ex.bQ a
 have bc:=Ex.bQ b
 have tA:A.take 11=A:=List.take_of_length_le (by rw [hA.len];omega)
 have hk:6+r≠8:=by omega
 refine ⟨⟨6+r,0,s,0,[a,b],[],bO⟩,true,true,true,j6,?_,(fY hk (by simp) iW iX (by simpa using ⟨ha,hb⟩) (.xA (by simp only;omega) (gh _ hs) rfl rfl ha.tx hb.tx)).up (by omega),hj6⟩
 have h2:(dep:Int)+1-1=dep:=by omega
 have q1:=c71 (n:=99) (m:=0)
 have q2:=c71 (n:=99) (m:=1)
 have hr:r=0∨r=1:=by omega
 simp [tn,tsh,tl,Ty.av] at e1 e2 e3 e4 kc k1 k2 k3 k4 e5
 rw [aP (af:=g349) rfl (by simp [tn,tsh,tl,g349])]
 rcases hr with rfl | rfl<;>by_cases hp:p=0<;>cases b10<;>cases b11<;>subst hc'<;>simp [tn,tsh,tl,bu] at k5 k6 k7 e6<;>simp [tn,tsh,tl,hp,Mx] at e4 e5 q1 q2 <;>
 simp (disch:=omega) [tn,tsh,tl,g349,h2,e1,e2,e3,hp,e4,kc,k1,k2,k3,k4,k5,k6,k7,e5,e6,q1,q2,az,hA.dL,hA.flat,hA.iP,hA.len,hA.leaf,hB.dL,hB.flat,hB.iP,hB.len,hB.leaf,tA,ac,bc,aI,eB,gV,bO]
end Go.Ab.Lw
namespace Go.Ab.Lw
open Ev
theorem IX {vs:List Int} {x:Ty} {v:Int} (h:v∈vs):lg (vs.map fun v=>As.mk v x) v=some x:=by
 induction vs with
 | nil=>simp at h
 | cons a r ih=>
   simp only [List.map_cons,lg]
   by_cases e:a=v
   · simp [e]
   · simp only [List.mem_cons] at h
     rcases h with h | h
     · exact absurd h.symm e
     · simp [e,ih h]
theorem tZ {vs:List Int} {x y:Ty} {v:Int} (h:lg (vs.map fun v=>As.mk v x) v=some y):y=x:=by
 obtain ⟨a,ha,rfl⟩:=mY h
 simp only [List.mem_map] at ha
 obtain ⟨w,_,rfl⟩:=ha
 rfl
theorem OB {s:List As} (hs:∀i x,lg s i=some x→x.nodes.length≤1) (t:Ty):(t.sub s).nodes.length≤t.nodes.length:=by
 refine Ty.gg (p:=fun t=>(t.sub s).nodes.length≤t.nodes.length) ?_ t
 intro t ih
 rw [Ty.sub_eq]
 split
 · cases e:lg s t.id with
   | some x=>
     have:=hs _ _ e
     rw [Ty.aS t]
     simp only [Option.getD_some,List.length_cons]
     omega
   | none=>exact Nat.le_refl _
 · rw [Ty.aS,Ty.aS t]
   simp only [List.length_cons,List.length_flatMap,List.map_map]
   have:(t.args.map ((fun x=>x.nodes.length) ∘ Ty.sub s)).sum≤(t.args.map fun x=>x.nodes.length).sum:=by
     generalize t.args=l at ih
     induction l with
     | nil=>simp
     | cons a r ih2=>
       have h1:=ih a (by simp)
       have h2:=ih2 fun x hx=>ih x (by simp [hx])
       simp only [List.map_cons,List.sum_cons,Function.comp_apply]
       omega
   omega
theorem c363x {t:Ty} (h:IN t):∃u:Ty,(aL AP).p 363 [t.pv]=some [u.pv]∧cv u∧u.nodes.length≤4000:=by
 have hl:=pk (k:=1) (t:=t)
 have hn:=h.2
 refine ⟨_,c363 (S:=t.ff 1) (by omega) (fun x hx=>df (mA x hx)) (t:=t) ⟨h.1.1,h.1.2.wf,fun x hx=>hx⟩,⟨?_,?_⟩,Nat.le_trans (OB (fun i x hx=>by rw [tZ hx,Ty.aS];simp [bu]) t) h.2⟩
 · refine DY ?_ h.1.1
   intro a ha
   simp only [List.mem_map] at ha
   obtain ⟨w,_,rfl⟩:=ha
   exact rO.ok
 · refine D2 (K:=KS) h.1.2 (by simp only [KS,KG];omega) ?_ (.inr ?_)
   · intro i x hx
     rw [tZ hx]
     exact rO.kn
   · intro y hy hk
     exact ⟨bu,IX (vS (by simpa using hy) hk)⟩
def Q_ (h:Hd):List AV:=[.pv (.str h.name),.pv (.bool h.gU),.pv (.aE (h.args.map Ty.pv)),.pv (.aE (h.types.map Ty.pv))]
def Q' (k:Int) (s:cm) (ks:List Ex):List AV:=[.pv (vI k),.pv (vI 0),.pv (.str s),.pv (vI 0),.own (ks.map Ex.pv) 3,.own [] 4,.pv (vI 0),.pv (.str []),.pv (vI 0),.pv (vI 0),.own [] 5]
theorem SV {L:List Int} {tm:Nat} {TP:Int→Sh} (hT:Tape L tm TP) {ds:List Dt} {dep:Nat} {l:List En} (hdep:dep<10) (hG:ko L tm TP ds dep) (hl:Ctx (1000-20*dep) l) {h:Hd} (hh:tW h):∀(n i:Nat),h.args.length-i=n→i≤h.args.length→∀(k:Int) (s:cm) (ks:List Ex) (I N:Nat),vQ N ⟨k,0,s,0,ks,[],bO⟩→12*(dep+1)≤N→N+n≤12*(dep+1)+11→I≤L.length→∃(k':Int) (s':cm) (ks':List Ex) (J:Nat),vQ (N+n) ⟨k',0,s',0,ks',[],bO⟩∧J≤L.length ∧
   cl AP g352L0 ⟨[(0,.aZ tm 0),(1,.pv (.aE (ds.map Dt.pv))),(2,.pv (.aE (l.map En.pv))),(4,.pv (vI (dep+1))),(10,.aB 10 0),(12,.aB 12 0),(13,.aB 13 0),(14,.pv (vI i))],[(10,pj 0),(12,Q_ h),(13,Q' k s ks)],TP I,[0,0,0,ks.length,0,0]⟩ =
     some (.exit 0,⟨[(0,.aZ tm 0),(1,.pv (.aE (ds.map Dt.pv))),(2,.pv (.aE (l.map En.pv))),(4,.pv (vI (dep+1))),(10,.aB 10 0),(12,.aB 12 0),(13,.aB 13 0),(14,.pv (vI h.args.length)),(45,.pv (.bool false))],[(10,pj 0),(12,Q_ h),(13,Q' k' s' ks')],TP J,[0,0,0,ks'.length,0,0]⟩)
 | 0,i,hn,hi,k,s,ks,I,N,hY,hN,hN2,hI=>by
   have tn:=hT.norm
   have tsh:=hT.shift
   have tl:=hT.take
   have:i=h.args.length:=by omega
   subst this
   refine ⟨k,s,ks,I,hY,hI,?_⟩
   rw [g352L0e]
   simp [tn,tsh,tl,g352B0,pj,Q_,Q']
 | n+1,i,hn,hi,k,s,ks,I,N,hY,hN,hN2,hI=>by
   have tn:=hT.norm
   have tsh:=hT.shift
   have tl:=hT.take
   have hi:i<h.args.length:=by omega
   obtain ⟨t,ht⟩:=bM hi
   obtain ⟨u,k1,gu,gn⟩:=c363x (hh.2.1 t (bA ht))
   obtain ⟨y,f1,f2,f3,j,k2,hy,hj⟩:=hG I l u hI hl gu (by omega)
   have hY2:vQ (N+1) ⟨5,0,[],0,[⟨k,0,s,0,ks,[],bO⟩,y],[],bO⟩:=by
     obtain ⟨r,rfl⟩:∃r,N=12*(dep+1)+r:=⟨N-12*(dep+1),by omega⟩
     exact Ox (by omega) hY hy
   obtain ⟨k',s',ks',J,q1,q2,e'⟩:=SV hT hdep hG hl hh n (i+1) (by omega) (by omega) 5 [] [⟨k,0,s,0,ks,[],bO⟩,y] j (N+1) hY2 (by omega) (by omega) hj
   refine ⟨k',s',ks',J,q1.up (by omega),q2,?_⟩
   have hA:=ez f1 f2 f3 y
   generalize eB f1 f2 f3 y=A at k2 hA
   have ac:=Ex.bQ y
   have tA:A.take 11=A:=List.take_of_length_le (by rw [hA.len];omega)
   have h2:(dep:Int)+1-1=dep:=by omega
   have ha:=hh.1
   rw [g352L0e] at e' ⊢
   simp [tn,tsh,tl,pj,Q_,Q',bO] at e'
   try simp [tn,tsh,tl] at k1 k2
   simp (disch:=omega) [tn,tsh,tl,-getElem?_pos,g352B0,pj,Q_,Q',ht,hi,h2,k1,k2,az,hA.dL,hA.flat,hA.iP,hA.len,hA.leaf,tA,ac,aI]
   rw [g352L0e]
   simp [tn,tsh,tl,e']
theorem c352 {L:List Int} {tm:Nat} {TP:Int→Sh} (hT:Tape L tm TP) {ds:List Dt} {dep:Nat} {l:List En} {g:Ty} {i:Nat} (hL:Sm L) (hdep:dep<10) (hD:t_ ds) (hG:ko L tm TP ds dep) (hl:Ctx (1000-20*(dep+1)) l) (hg:cv g) (hi:i≤L.length) :
   na L tm TP (12*(dep+2)) ((aL AP).i 352 [.aZ tm 0,.pv (.aE (ds.map Dt.pv)),.pv (.aE (l.map En.pv)),.pv g.pv,.pv (vI (dep+1:Nat))] (TP i) []):=by
 have tn:=hT.norm
 have tsh:=hT.shift
 have tl:=hT.take
 have hll:=hl.len
 obtain ⟨hs,n1,hO,k1⟩:=c362 hg hD (l:=l) (by omega) hl.SR hl.nm
 by_cases z:hs=[]
 · subst z
   obtain ⟨e,f1,f2,f3,j,k,ht,hj⟩:=c348 hT hL (ds:=ds) (hl.ik (by omega)) hg hi
   refine ⟨e,f1,f2,f3,j,?_,ht.up (by omega),hj⟩
   try simp [tn,tsh,tl] at k1
   rw [aP (af:=g352) rfl (by simp [tn,tsh,tl,g352])]
   cases f1<;>cases f2<;>cases f3<;>simp [tn,tsh,tl,eB,gV] at k<;>simp [tn,tsh,tl,g352,k1,k,eB,gV,aI]
 · have hp:0<hs.length:=List.length_pos_iff.2 z
   obtain ⟨m,j,e1,m0,m1,hj⟩:=oj hT hL hi (n:=hs.length) (by omega) (by omega)
   obtain ⟨m,rfl,hm⟩:=nY m0 m1
   obtain ⟨h,hx⟩:=bM hm
   have hhO:=hO h (bA hx)
   have ha:=hhO.1
   obtain ⟨k',s',ks',J,q1,q2,e2⟩:=SV hT (L:=L) (l:=l) hdep hG (hl.ik (by omega)) hhO _ 0 rfl (by omega) (if h.gU=true then 2 else 1) h.name [] j (12*(dep+1)) ((eM (.inl ⟨by split<;>simp,hhO.2.2⟩)).up (by omega)) (by omega) (by omega) hj
   refine ⟨⟨k',0,s',0,ks',[],bO⟩,false,false,false,J,?_,q1.up (by omega),q2⟩
   rw [g352L0e] at e2
   try simp [tn,tsh,tl] at k1 e1
   rw [aP (af:=g352) rfl (by simp [tn,tsh,tl,g352])]
   cases hc:h.gU<;>simp [tn,tsh,tl,pj,Q_,Q',hc] at e2<;>simp [tn,tsh,tl,-getElem?_pos,g352,k1,z,e1,hx,hc,g352L0e,e2,eB,gV,bO,aI]
end Go.Ab.Lw
namespace Go.Ab.Lw
open Ev
theorem OC:∀d∈bU,d.params.length≤100∧∀c∈d.cons,∀f∈c.fields,Ou ⟨d.params.length,f.mB d.params⟩=true:=by decide +kernel
theorem AT {K:Nat} {t:Ty} (h:lO ⟨K,t⟩) {as:List Ty} (ha:as.length=K) (hg:∀a∈as,cv a):cv (t.m7 as):=by
 obtain ⟨K',h1,_,h3⟩:=h.SM
 have:K'=K:=by simp at h1;omega
 subst this
 exact ⟨L0 (fun a h=>(hg a h).ok) h.ok,L1 h.kn (by simp only [KC,KG];omega) (fun a h=>(hg a h).kn) (fun y hy hk=>by have:=h3 y hy hk;omega)⟩
theorem AU {ds:List Dt} (hD:t_ ds) {s:cm} {as:List Ty} (hg:∀a∈as,cv a):((fieldsOf ds s as).getD []).length≤8∧∀f∈(fieldsOf ds s as).getD [],cv f:=by
 cases e:fieldsOf ds s as with
 | none=>simp
 | some fs=>
   simp only [fieldsOf,Option.bind_eq_some_iff] at e
   obtain ⟨q,_,d,hd,c,hc,e⟩:=e
   split at e
   · rename_i hl
     cases e
     have dA:=hD.all d (bA hd)
     obtain ⟨_,_,h8⟩:=er d dA
     obtain ⟨hb,hb2⟩:=OC d dA
     refine ⟨by simpa using (h8 c (bA hc)).1,?_⟩
     intro f hf
     simp only [Option.getD_some,List.mem_map] at hf
     obtain ⟨x,hx,rfl⟩:=hf
     exact AT (Fg rfl hb (hb2 c (bA hc) x hx)) hl hg
   · cases e
theorem t_.small {ds:List Dt} (h:t_ ds):Small ds where
 num:=by have:=h.len;unfold Sm;omega
 gU:=fun d hd=>by have:=(er d (h.all d hd)).2.1;unfold Sm;omega
 UF:=by have:=h.len;have:=Oe (b:=8) fun d hd=>(er d (h.all d hd)).2.1;unfold Sm;omega
 par:=fun d hd=>by have:=(er d (h.all d hd)).1;unfold Sm;omega
 Uq:=fun d hd c hc=>by
   obtain ⟨a,b,c2⟩:=Fh (h.all d hd) c hc
   exact ⟨a,b,fun x hx=>(c2 x hx).cw⟩
theorem Pt {L:List Int} {tm:Nat} {TP:Int→Sh} (hT:Tape L tm TP) (hL:Sm L) {ds:List Dt} (hds:ds.length≤20) (hda:∀d∈ds,d.params.length≤8) (hdn:∀d∈ds,d.name.length≤100) {p2:PV} {p4:PV} {g:Ty} {d:Dt} (hd8:d.params.length≤8):∀(n k:Nat),d.params.length-k=n→k≤d.params.length→∀(acc:List Ty) (i:Nat),acc.length=k→(∀x∈acc,cv x∧x.nodes.length≤9)→i≤L.length →
   ∃(r:List Ty) (j:Nat),r.length=d.params.length∧(∀x∈r,cv x∧x.nodes.length≤9)∧j≤L.length ∧
   cl AP g350L0 ⟨[(0,.aZ tm 0),(1,.pv (.aE (ds.map Dt.pv))),(2,.pv p2),(4,.pv p4),(8,.aB 8 0),(10,.aB 10 0),(11,.aB 11 0),(12,.own (acc.map Ty.pv) 0),(13,.pv (vI k))],[(8,tC g),(10,pj 1),(11,rJ d)],TP i,[acc.length,0,0,0]⟩ =
     some (.exit 0,⟨[(0,.aZ tm 0),(1,.pv (.aE (ds.map Dt.pv))),(2,.pv p2),(4,.pv p4),(8,.aB 8 0),(10,.aB 10 0),(11,.aB 11 0),(12,.own (r.map Ty.pv) 0),(13,.pv (vI d.params.length)),(41,.pv (.bool false))],[(8,tC g),(10,pj 1),(11,rJ d)],TP j,[r.length,0,0,0]⟩)
 | 0,k,hn,hk,acc,i,ha,hm,hi=>by
   have tn:=hT.norm
   have tsh:=hT.shift
   have tl:=hT.take
   have:k=d.params.length:=by omega
   subst this
   refine ⟨acc,i,ha,hm,hi,?_⟩
   rw [g350L0e]
   simp [tn,tsh,tl,g350B0,tC,pj,rJ]
 | n+1,k,hn,hk,acc,i,ha,hm,hi=>by
   have tn:=hT.norm
   have tsh:=hT.shift
   have tl:=hT.take
   have hk:k<d.params.length:=by omega
   obtain ⟨t,j1,e1,mt,hj1⟩:=QD hT hL hds hda (lv:=[]) (by simp [tn,tsh,tl,Sm]) 1 (by omega) i hi
   have gt:cv t:=lz hda hdn (by simp) mt
   have gn:=mt.small hda (by simp)
   obtain ⟨r,j,h1,h2,h3,e'⟩:=Pt hT hL hds hda hdn (p2:=p2) (p4:=p4) (g:=g) hd8 n (k+1) (by omega) (by omega) (acc++[t]) j1 (by simp;omega) (by
     intro x hx;simp at hx;rcases hx with hx | rfl
     · exact hm x hx
     · exact ⟨gt,by omega⟩) hj1
   refine ⟨r,j,h1,h2,h3,?_⟩
   have hb:(acc.length+1)*64≤140737488355328:=by omega
   rw [g350L0e] at e' ⊢
   simp [tn,tsh,tl,tC,pj,rJ] at e'
   simp [tn,tsh,tl,Ty.av] at e1
   simp (disch:=omega) [tn,tsh,tl,-getElem?_pos,g350B0,tC,pj,rJ,hk,e1,hb,az]
   rw [g350L0e]
   simp [tn,tsh,tl,e']
def MG (x:Ex) (as:List Ar):List AV:=[.pv (vI 8),.pv (vI 0),.pv (.str []),.pv (vI 0),.own [x.pv] 4,.own (as.map Ar.pv) 5,.pv (vI 0),.pv (.str []),.pv (vI 0),.pv (vI 0),.own [] 6]
def Ra (c:nc) (vs:List cm):List AV:=[.pv (vI 0),.pv (.str c.name),.own (vs.map .str) 7,.pv (vI 0),.pv (vI 0),.pv (.str []),.pv (vI 0),.own [] 8,.own [] 9,.pv (vI 0),.pv (.str []),.pv (vI 0),.pv (vI 0),.own [] 10]
def SW:List cm:=[[120],[121],[122],[119]]
theorem Fk:∀s∈SW,s.length≤100:=by
 intro s hs
 simp only [SW,List.mem_cons,List.not_mem_nil,or_false] at hs
 rcases hs with rfl | rfl | rfl | rfl<;>simp
theorem Pu {L:List Int} {tm:Nat} {TP:Int→Sh} (hT:Tape L tm TP) {I:Nat} {p1 p2 p4:PV} {g:Ty} {d:Dt} {as:List Ty} {x:Ex} {ar:List Ar} {C:Nat} {c:nc} {f:List Ty} (hf8:f.length≤8) (hf:∀t∈f,cv t) {N:Nat} (hN:N≤10000):∀(n k:Nat),f.length-k=n→k≤f.length→∀(vs:List cm) (l:List En),vs.length=k→(∀v∈vs,v.length≤100)→Ctx (N+k) l →
   ∃(r:List cm) (l':List En),r.length=f.length∧(∀v∈r,v.length≤100)∧Ctx (N+f.length) l' ∧
   cl AP g350L2 ⟨[(0,.aZ tm 0),(1,.pv p1),(2,.pv p2),(4,.pv p4),(8,.aB 8 0),(10,.aB 10 0),(11,.aB 11 0),(12,.own (as.map Ty.pv) 0),(14,.aB 14 0),(15,.pv (vI C)),(16,.pv (.aE (f.map Ty.pv))),(18,.aB 18 0),(19,.pv (.aE (l.map En.pv))),(20,.pv (vI k))],
     [(8,tC g),(10,pj 1),(11,rJ d),(14,MG x ar),(18,Ra c vs)],TP I,[as.length,0,0,0,1,ar.length,0,vs.length,0,0,0]⟩ =
     some (.exit 4,⟨[(0,.aZ tm 0),(1,.pv p1),(2,.pv p2),(4,.pv p4),(8,.aB 8 0),(10,.aB 10 0),(11,.aB 11 0),(12,.own (as.map Ty.pv) 0),(14,.aB 14 0),(15,.pv (vI C)),(16,.pv (.aE (f.map Ty.pv))),(18,.aB 18 0),(19,.pv (.aE (l'.map En.pv))),(20,.pv (vI f.length)),(92,.pv (.bool false))],
     [(8,tC g),(10,pj 1),(11,rJ d),(14,MG x ar),(18,Ra c r)],TP I,[as.length,0,0,0,1,ar.length,0,r.length,0,0,0]⟩)
 | 0,k,hn,hk,vs,l,hv,hvn,hl=>by
   have tn:=hT.norm
   have tsh:=hT.shift
   have tl:=hT.take
   have:k=f.length:=by omega
   subst this
   refine ⟨vs,l,hv,hvn,hl,?_⟩
   rw [g350L2e]
   simp [tn,tsh,tl,g350B2,tC,pj,rJ,MG,Ra]
 | n+1,k,hn,hk,vs,l,hv,hvn,hl=>by
   have tn:=hT.norm
   have tsh:=hT.shift
   have tl:=hT.take
   have hk:k<f.length:=by omega
   obtain ⟨t,ht⟩:=bM hk
   have hll:=hl.len
   obtain ⟨q,hrem,hq⟩:∃q:Nat,(k:Int).tmod 4=q∧q<4:=⟨((k:Int) % 4).toNat,by rw [Int.tmod_eq_emod_of_nonneg (by omega)];omega,by omega⟩
   obtain ⟨s,hs⟩:=bM (l:=SW) (i:=q) (by simpa [SW] using hq)
   have k1:=c176 (t:=t)
   have k2:=c179 (l:=l) (by unfold Sm;omega) (n:=s) (c:=⟨0,t⟩)
   obtain ⟨r,l',h1,h1n,h2,e'⟩:=Pu hT (L:=L) (I:=I) (p1:=p1) (p2:=p2) (p4:=p4) (g:=g) (d:=d) (as:=as) (x:=x) (ar:=ar) (C:=C) (c:=c) hf8 hf hN n (k+1) (by omega) (by omega) (vs++[s]) (l++[⟨s,⟨0,t⟩⟩]) (by simp;omega) (by
     intro v hv;simp only [List.mem_append,List.mem_singleton] at hv;rcases hv with hv | rfl
     · exact hvn v hv
     · exact Fk _ (bA hs)) (hl.push (hf t (bA ht)).mono (Fk _ (bA hs)) (by omega))
   refine ⟨r,l',h1,h1n,h2,?_⟩
   have hb:(vs.length+1)*16≤140737488355328:=by omega
   have hs':([PV.str [120],.str [121],.str [122],.str [119]]:List PV)[q]?=some (.str s):=by
     have:([PV.str [120],.str [121],.str [122],.str [119]]:List PV)=SW.map PV.str:=rfl
     rw [this];simp [tn,tsh,tl,hs]
   rw [g350L2e] at e' ⊢
   simp [tn,tsh,tl,tC,pj,rJ,MG,Ra] at e'
   try simp [tn,tsh,tl] at k1 k2
   simp (disch:=omega) [tn,tsh,tl,-getElem?_pos,g350B2,tC,pj,rJ,MG,Ra,hk,ht,hrem,hs',k1,k2,hb,az,aI]
   rw [g350L2e]
   simp [tn,tsh,tl,e']
end Go.Ab.Lw
namespace Go.Ab.Lw
open Ev
def QI (n:Nat) (a:Ar):Prop:=(a.gU.length≤100∧a.vars.length≤10∧∀v∈a.vars,v.length≤100)∧vQ n a.body
theorem AW {n:Nat} {x:Ex} {as:List Ar} (hx:vQ (12*n) x) (ha:as.length≤9) (h:∀a∈as,QI (12*n) a):vQ (12*(n+1)) ⟨8,0,[],0,[x],as,bO⟩:=by
 have hc:∀y∈(⟨8,0,[],0,[x],as,bO⟩:Ex).ch,vQ (12*n) y:=by
   intro y hy
   simp [Ex.ch] at hy
   rcases hy with rfl | ⟨a,ha,rfl⟩
   · exact hx
   · exact (h a ha).2
 refine ⟨⟨.mk (by simp) (by simp only;omega) (fun a hm=>by have:=(h a hm).1.2.1;omega) iW fun y hy=>(hc y hy).sc.ok,.mk (fun _=>rfl) fun y hy=>(hc y hy).sc.one,.mk iX fun y hy=>(hc y hy).sc.cw⟩,km (n:=12*n+1) (.mk fun y hy=>(hc y hy).h) (by omega),?_,.qX rfl rfl hx.tx (by simp only;omega) (fun a hm=>(h a hm).1) (fun a hm=>(h a hm).2.tx)⟩
 rw [tO,Ex.ph]
 exact AS (by rw [Ex.mm];simp only [List.length_singleton];omega) fun y hy=>by have:=(hc y hy).w;rwa [tO] at this
theorem Pv {L:List Int} {tm:Nat} {TP:Int→Sh} (hT:Tape L tm TP) {ds:List Dt} {dep:Nat} {l:List En} {g:Ty} (hdep:dep<10) (hD:t_ ds) (hG:ko L tm TP ds dep) (hl:Ctx (1000-20*(dep+1)) l) (hg:cv g) (hgn:g.nodes.length≤6000-20*(dep+1)) {d:Dt} (hdm:d∈ds) {as:List Ty} (has:as.length≤8) (hga:∀a∈as,cv a) {x:Ex}:∀(n k:Nat),d.cons.length-k=n→k≤d.cons.length→∀(ar:List Ar) (i:Nat),ar.length=k→(∀a∈ar,QI (12*(dep+1)) a)→i≤L.length →
   ∃(r:List Ar) (j:Nat),r.length=d.cons.length∧(∀a∈r,QI (12*(dep+1)) a)∧j≤L.length ∧
   cl AP g350L1 ⟨[(0,.aZ tm 0),(1,.pv (.aE (ds.map Dt.pv))),(2,.pv (.aE (l.map En.pv))),(4,.pv (vI (dep+1))),(8,.aB 8 0),(10,.aB 10 0),(11,.aB 11 0),(12,.own (as.map Ty.pv) 0),(14,.aB 14 0),(15,.pv (vI k))],
     [(8,tC g),(10,pj 1),(11,rJ d),(14,MG x ar)],TP i,[as.length,0,0,0,1,ar.length,0]⟩ =
     some (.exit 2,⟨[(0,.aZ tm 0),(1,.pv (.aE (ds.map Dt.pv))),(2,.pv (.aE (l.map En.pv))),(4,.pv (vI (dep+1))),(8,.aB 8 0),(10,.aB 10 0),(11,.aB 11 0),(12,.own (as.map Ty.pv) 0),(14,.aB 14 0),(15,.pv (vI d.cons.length)),(66,.pv (.bool false))],
     [(8,tC g),(10,pj 1),(11,rJ d),(14,MG x r)],TP j,[as.length,0,0,0,1,r.length,0]⟩)
 | 0,k,hn,hk,ar,i,ha,hm,hi=>by
   have tn:=hT.norm
   have tsh:=hT.shift
   have tl:=hT.take
   have:k=d.cons.length:=by omega
   subst this
   refine ⟨ar,i,ha,hm,hi,?_⟩
   rw [g350L1e]
   simp [tn,tsh,tl,g350B1,tC,pj,rJ,MG]
 | n+1,k,hn,hk,ar,i,ha,hm,hi=>by
   have tn:=hT.norm
   have tsh:=hT.shift
   have tl:=hT.take
   have hk:k<d.cons.length:=by omega
   obtain ⟨c,hc⟩:=bM hk
   have hc8:=(er d (hD.all d hdm)).2.1
   have k1:=c207 hD.small (as:=as) (by unfold Sm;omega) (s:=c.name)
   obtain ⟨hf8,hf⟩:=AU hD (s:=c.name) hga
   generalize hff:fieldsOf ds c.name as=F at *
   generalize hfe:F.getD []=f at *
   obtain ⟨vs,l',hv,hvn,hl',e1⟩:=Pu hT (L:=L) (I:=i) (p1:=.aE (ds.map Dt.pv)) (p2:=.aE (l.map En.pv)) (p4:=vI (dep+1)) (g:=g) (d:=d) (as:=as) (x:=x) (ar:=ar) (C:=k) (c:=c) hf8 hf (N:=1000-20*(dep+1)) (by omega) _ 0 rfl (by omega) [] l rfl (by simp) (hl.ik (by omega))
   obtain ⟨b,f1,f2,f3,j2,e2,hb,hj2⟩:=hG i l' g hi (hl'.ik (by omega)) hg (by omega)
   obtain ⟨r,j,q1,q2,q3,e'⟩:=Pv hT hdep hD hG hl hg hgn hdm has hga (x:=x) n (k+1) (by omega) (by omega) (ar++[⟨0,c.name,vs,b⟩]) j2 (by simp;omega) (by
     intro a h;simp at h;rcases h with h | rfl
     · exact hm a h
     · exact ⟨⟨(ly d (hD.all d hdm)).2 c (bA hc),by simp only;omega,hvn⟩,hb⟩) hj2
   refine ⟨r,j,q1,q2,q3,?_⟩
   have hB:=ez f1 f2 f3 b
   generalize eB f1 f2 f3 b=B at e2 hB
   have bc:=Ex.bQ b
   have tB:B.take 11=B:=List.take_of_length_le (by rw [hB.len];omega)
   have hbb:(ar.length+1)*200≤140737488355328:=by omega
   have hd1:(dep:Int)+1-1=dep:=by omega
   rw [g350L2e] at e1
   rw [g350L1e] at e'
   simp [tn,tsh,tl,tC,pj,rJ,MG,Ra] at e1 e' e2 ⊢
   simp [tn,tsh,tl,SA,hfe] at k1
   rw [g350L1e]
   simp (disch:=omega) [tn,tsh,tl,-getElem?_pos,g350B1,hc,hk,k1,az,hd1,g350L2e,e1,e2,hbb,aI,hB.dL,hB.flat,hB.iP,hB.len,hB.leaf,tB,bc]
   rw [g350L1e]
   simp [tn,tsh,tl,e']
theorem c350 {L:List Int} {tm:Nat} {TP:Int→Sh} (hT:Tape L tm TP) {ds:List Dt} {dep:Nat} {l:List En} {g:Ty} {i:Nat} (hL:Sm L) (hdep:dep<10) (hD:t_ ds) (hG:ko L tm TP ds dep) (hl:Ctx (1000-20*(dep+1)) l) (hg:cv g) (hgn:g.nodes.length≤6000-20*(dep+1)) (hi:i≤L.length) :
   na L tm TP (12*(dep+2)) ((aL AP).i 350 [.aZ tm 0,.pv (.aE (ds.map Dt.pv)),.pv (.aE (l.map En.pv)),.pv g.pv,.pv (vI (dep+1:Nat))] (TP i) []):=by
 have tn:=hT.norm
 have tsh:=hT.shift
 have tl:=hT.take
 have hll:=hl.len
 by_cases z:ds=[]
 · subst z
   obtain ⟨e,f1,f2,f3,j,k,ht,hj⟩:=c348 hT hL (ds:=[]) (hl.ik (by omega)) hg hi
   refine ⟨e,f1,f2,f3,j,?_,ht.up (by omega),hj⟩
   rw [aP (af:=g350) rfl (by simp [tn,tsh,tl,g350])]
   cases f1<;>cases f2<;>cases f3<;>simp [tn,tsh,tl,eB,gV] at k<;>simp [tn,tsh,tl,g350,k,eB,gV,aI]
 · have hp:0<ds.length:=List.length_pos_iff.2 z
   have hdl:=hD.len
   have hda:∀d∈ds,d.params.length≤8:=fun d hd=>(er d (hD.all d hd)).1
   obtain ⟨m,j1,e1,m0,m1,hj1⟩:=oj hT hL hi (n:=ds.length) (by omega) (by omega)
   obtain ⟨m,rfl,hm⟩:=nY m0 m1
   obtain ⟨d,hd⟩:=bM hm
   have hdm:=bA hd
   obtain ⟨as,j2,a1,a2,hj2,e2⟩:=Pt hT hL (by omega) hda (fun d hd=>(ly d (hD.all d hd)).1) (p2:=.aE (l.map En.pv)) (p4:=vI (dep+1)) (g:=g) (hda d hdm) _ 0 rfl (by omega) [] j1 rfl (by simp) hj1
   have hd8:=hda d hdm
   have hd10:=(er d (hD.all d hdm)).2.1
   have k1:=c62 (s:=d.name) (l:=as) (by unfold Sm;omega)
   have gt:cv ⟨4,d.name,0,0,as⟩:=⟨⟨by unfold Sm;simp only;omega,fun x hx=>(a2 x hx).1.ok⟩,.mk (by simp) (ly d (hD.all d hdm)).1 fun x hx=>(a2 x hx).1.kn⟩
   have gtn:(⟨4,d.name,0,0,as⟩:Ty).nodes.length≤100:=by
     rw [Ty.aS]
     simp only [List.length_cons,List.length_flatMap]
     have:=tM (f:=fun x:Ty=>x.nodes.length) fun x hx=>(a2 x hx).2
     omega
   obtain ⟨x,f1,f2,f3,j3,e3,hx,hj3⟩:=hG j2 l _ hj2 (hl.ik (by omega)) gt (by omega)
   obtain ⟨r,j4,b1,b2,hj4,e4⟩:=Pv hT hdep hD hG hl hg hgn hdm (by omega) (fun a ha=>(a2 a ha).1) (x:=x) _ 0 rfl (by omega) [] j3 rfl (by simp) hj3
   refine ⟨⟨8,0,[],0,[x],r,bO⟩,false,false,false,j4,?_,(AW hx (by omega) b2).up (by omega),hj4⟩
   have hA:=ez f1 f2 f3 x
   generalize eB f1 f2 f3 x=A at e3 hA
   have ac:=Ex.bQ x
   have hd1:(dep:Int)+1-1=dep:=by omega
   rw [g350L0e] at e2
   rw [g350L1e] at e4
   simp [tn,tsh,tl,tC,pj,rJ,MG] at e1 e2 e3 e4 k1
   rw [aP (af:=g350) rfl (by simp [tn,tsh,tl,g350])]
   simp (disch:=omega) [tn,tsh,tl,-getElem?_pos,g350,z,hd1,az,e1,hd,g350L0e,e2,k1,e3,hA.dL,hA.flat,hA.iP,hA.len,hA.leaf,ac,g350L1e,e4,aI,eB,gV,bO]
theorem c326 {L:List Int} {tm:Nat} {TP:Int→Sh} (hT:Tape L tm TP) {ds:List Dt} (hL:Sm L) (hD:t_ ds):∀dep:Nat,dep≤10→ko L tm TP ds dep
 | 0,_=>fun i l g hi hl hg _=>Mr hT hL (hl.ik (by omega)) hg hi
 | dep+1,hdep=>fun i l g hi hl hg hgn=>by
   have tn:=hT.norm
   have tsh:=hT.shift
   have tl:=hT.take
   have hG:=c326 hT hL hD dep (by omega)
   have hdl:=hD.len
   have hda:∀d∈ds,d.params.length≤8:=fun d hd=>(er d (hD.all d hd)).1
   have hdn:∀d∈ds,d.name.length≤100:=fun d hd=>(ly d (hD.all d hd)).1
   obtain ⟨r9,j9,e9,r0,r1,hj9⟩:=oj hT hL hi (n:=9) (by omega) (by omega)
   by_cases nz:r9=0
   · subst nz
     exact Oy hT hL (by omega) (hl.ik (by omega)) hg hj9 e9
   · obtain ⟨a,b,ar,arr,_,_,hab⟩:=c194g hg.ok
     obtain ⟨k,j,tY,k0,k1,hj⟩:=oj hT hL hj9 (n:=10) (by omega) (by omega)
     have P:Ms L tm TP g i a b ar k r9 j9 j:=⟨nz,e9,arr,tY,hj⟩
     have h1:¬((dep:Int)+1<1):=by omega
     have headed:(ar=true→7≤k)→(ar=false→¬k<2∧k≠2∧k≠3∧k≠5∧(k=4→¬(g.kj 3=false∧g.kj 1=false)))→tX L tm TP ds (dep+1) l g i:=by
       intro H1 H2
       obtain ⟨e,f1,f2,f3,j',kk,ht,hj'⟩:=c352 hT hL (by omega) hD hG hl hg hj
       refine ⟨e,f1,f2,f3,j',?_,ht,hj'⟩
       have c3:=c351 (k:=3) hg.ok
       have c1:=c351 (k:=1) hg.ok
       try simp [tn,tsh,tl] at e9 arr tY c3 c1
       rw [aP (af:=g326) rfl (by simp [tn,tsh,tl,g326])]
       cases ar with
       | true=>
         have q:=H1 rfl
         have q7:¬k<7:=by omega
         have q2:¬k<2:=by omega
         have q3:¬k=2:=by omega
         have q4:¬k=3:=by omega
         have q5:¬k=4:=by omega
         have q6:¬k=5:=by omega
         cases f1<;>cases f2<;>cases f3<;>simp [tn,tsh,tl,eB,gV] at kk<;>simp [tn,tsh,tl,g326,h1,nz,e9,arr,tY,q7,q2,q3,q4,q5,q6,kk,eB,gV,aI]
       | false=>
         obtain ⟨q2,q3,q4,q6,q5⟩:=H2 rfl
         by_cases h4:k=4
         · have:=q5 h4
           subst h4
           cases g3:g.kj 3 with
           | true=>
             rw [g3] at c3
             cases f1<;>cases f2<;>cases f3<;>simp [tn,tsh,tl,eB,gV] at kk<;>simp [tn,tsh,tl,g326,h1,nz,e9,arr,tY,c3,kk,eB,gV,aI]
           | false=>
             rw [g3] at c3
             have g1:g.kj 1=true:=by
               cases g1:g.kj 1 with
               | true=>rfl
               | false=>exact absurd ⟨g3,g1⟩ this
             rw [g1] at c1
             cases f1<;>cases f2<;>cases f3<;>simp [tn,tsh,tl,eB,gV] at kk<;>simp [tn,tsh,tl,g326,h1,nz,e9,arr,tY,c3,c1,kk,eB,gV,aI]
         · cases f1<;>cases f2<;>cases f3<;>simp [tn,tsh,tl,eB,gV] at kk<;>simp [tn,tsh,tl,g326,h1,nz,e9,arr,tY,q2,q3,q4,h4,q6,kk,eB,gV,aI]
     cases ar with
     | true=>
       have hq:=hab rfl
       by_cases h7:k<7
       · exact QF hT hL (by omega) hG hl P h7 (hg.iv a (by rw [hq];simp)) (hg.iv b (by rw [hq];simp)) (by
           have:=tN (f:=fun x:Ty=>x.nodes.length) (l:=g.args) (x:=b) (by rw [hq];simp)
           rw [Ty.aS] at hgn
           simp only [List.length_cons,List.length_flatMap] at hgn
           omega)
       · exact headed (fun _=>by omega) (by simp)
     | false=>
       by_cases h2:k<2
       · exact QG hT hL (by omega) (by omega) hda hdn hG hl hg hgn P h2
       · by_cases h3:k=2
         · subst h3
           obtain ⟨e,f1,f2,f3,j',kk,ht,hj'⟩:=c349 hT hL (by omega) (by omega) hda hdn hG hl hg hgn hj
           refine ⟨e,f1,f2,f3,j',?_,ht,hj'⟩
           try simp [tn,tsh,tl] at e9 arr tY
           rw [aP (af:=g326) rfl (by simp [tn,tsh,tl,g326])]
           cases f1<;>cases f2<;>cases f3<;>simp [tn,tsh,tl,eB,gV] at kk<;>simp [tn,tsh,tl,g326,h1,nz,e9,arr,tY,kk,eB,gV,aI]
         · by_cases h4:k=3
           · subst h4
             obtain ⟨e,f1,f2,f3,j',kk,ht,hj'⟩:=c350 hT hL (by omega) hD hG hl hg hgn hj
             refine ⟨e,f1,f2,f3,j',?_,ht,hj'⟩
             try simp [tn,tsh,tl] at e9 arr tY
             rw [aP (af:=g326) rfl (by simp [tn,tsh,tl,g326])]
             cases f1<;>cases f2<;>cases f3<;>simp [tn,tsh,tl,eB,gV] at kk<;>simp [tn,tsh,tl,g326,h1,nz,e9,arr,tY,kk,eB,gV,aI]
           · by_cases h5:k=5
             · subst h5
               exact Oz hT hL (by omega) hG hl hg hgn P
             · by_cases h6:k=4∧g.kj 3=false∧g.kj 1=false
               · obtain ⟨rfl,q1,q2⟩:=h6
                 exact QH hT hL (by omega) hG hl hg hgn P q1 q2
               · exact headed (by simp) (fun _=>⟨h2,h3,h4,h5,fun q=>fun w=>h6 ⟨q,w⟩⟩)
end Go.Ab.Lw
namespace Go.Ab.Lw
open Ev
theorem OD {s:List cm} {y:cm} (h:y∈s):0≤pg s y∧pg s y<s.length:=by
 unfold pg
 cases e:gL (fun x=>decide (x=y)) s with
 | none=>have:=mZ.1 e y h;simp at this
 | some k=>
   have:k<s.length:=by
     clear h
     induction s generalizing k with
     | nil=>simp [gL] at e
     | cons a r ih=>
       simp only [gL] at e
       split at e
       · cases e;simp
       · simp only [Option.map_eq_some_iff] at e
         obtain ⟨j,hj,rfl⟩:=e
         have:=ih j hj
         simp;omega
   simp [IA];omega
theorem AX:∀{l out:List cm} {y:cm},y∈l→y∈l.foldl fE out
 | a::r,out,y,h=>by
   rw [List.foldl_cons]
   simp only [List.mem_cons] at h
   rcases h with rfl | h
   · refine vJ ?_
     unfold fE;split
     · assumption
     · simp
   · exact AX h
theorem vT:∀{l out:List cm},(l.foldl fE out).length≤out.length+l.length
 | [],out=>by simp
 | a::r,out=>by
   have h:=vT (l:=r) (out:=fE out a)
   have:(fE out a).length≤out.length+1:=by unfold fE;split<;>simp
   simp only [List.foldl_cons,List.length_cons]
   omega
theorem Ed {t:Ty}:t.gH.length≤t.nodes.length∧∀z∈t.nodes,z.kind=5→z.name∈t.gH:=by
 refine Ty.gg (p:=fun t=>t.gH.length≤t.nodes.length∧∀z∈t.nodes,z.kind=5→z.name∈t.gH) ?_ t
 intro t ih
 have key:∀l:List Ty,(∀a∈l,a.gH.length≤a.nodes.length)→(l.flatMap Ty.gH).length≤(l.flatMap Ty.nodes).length:=by
   intro l
   induction l with
   | nil=>intro _;simp
   | cons a r ihr=>
     intro h
     have h1:=h a (by simp)
     have h2:=ihr fun b hb=>h b (by simp [hb])
     simp only [List.flatMap_cons,List.length_append]
     omega
 rw [Ty.Fa,Ty.aS]
 refine ⟨?_,?_⟩
 · have:=key t.args fun a ha=>(ih a ha).1
   have h1:(if t.kind=5 then [t.name] else []).length≤1:=by split<;>simp
   simp only [List.length_append,List.length_cons]
   omega
 · intro z hz hk
   simp only [List.mem_cons,List.mem_flatMap] at hz
   rcases hz with rfl | ⟨a,ha,hz⟩
   · rw [if_pos hk];simp
   · refine List.mem_append_right _ ?_
     simp only [List.mem_flatMap]
     exact ⟨a,ha,(ih a ha).2 z hz hk⟩
theorem OE {l:List cm} {t:Ty} (h:t.Kn (·=5)) (hl:∀z∈t.nodes,z.kind=5→z.name∈l):(t.mB l).Kn KC∧Oo l.length (t.mB l):=by
 induction h with
 | @mk t hh hnn _ ih=>
   have hself:t∈t.nodes:=by rw [Ty.aS];simp
   rw [Ty.xH]
   by_cases k:t.kind=5
   · have hp:=OD (hl t hself k)
     rw [if_pos ⟨k,hp.1⟩]
     refine ⟨.bare rfl (by simp [cV]) (by simp [cV]),?_⟩
     intro y hy _
     rw [Ty.aS] at hy
     simp [cV] at hy
     subst hy
     exact hp
   · rw [if_neg (fun q=>k q.1)]
     have hk4:t.kind=4:=by
       by_cases q:t.kind=4
       · exact q
       · exact absurd (hh q).1 k
     refine ⟨.mk (fun q=>absurd hk4 q) hnn ?_,?_⟩
     · intro x hx
       simp only [List.mem_map] at hx
       obtain ⟨a,ha,rfl⟩:=hx
       exact (ih a ha fun z hz=>hl z (IQ a ha z hz)).1
     · intro y hy hy2
       rw [Ty.aS] at hy
       simp only [List.mem_cons,List.mem_flatMap,List.mem_map] at hy
       rcases hy with rfl | ⟨b,⟨a,ha,rfl⟩,hy⟩
       · simp only at hy2;omega
       · exact (ih a ha fun z hz=>hl z (IQ a ha z hz)).2 y hy hy2
theorem q8 {D:Dt→Prop} (hN:∀d,D d→d.name.length≤100) {lv:List Ty} (h:∀t∈lv,t.args=[]∧t.kind=5∧t.name.length≤100) {n:Nat} {t:Ty} (m:ic D lv n t):t.Kn (·=5):=by
 induction m with
 | leaf hl=>exact .bare (h _ hl).1 (fun _=>(h _ hl).2.1) (h _ hl).2.2
 | int=>exact .bare rfl (by simp [bu]) (by simp [bu])
 | gU hd _ _ ih=>exact .mk (by simp) (hN _ hd) ih
 | arrow _ _ iha ihb=>exact .mk (by simp) (by simp) (by intro x hx;simp at hx;rcases hx with rfl | rfl<;>assumption)
theorem t5 {h:Int}:∀{n:Nat} {x:Ty},x∈lr h n→∃i:Nat,x=lf h i
 | 0,x,hx=>by simp [lr] at hx
 | n+1,x,hx=>by
   simp [lr] at hx
   rcases hx with hx | rfl
   · exact t5 hx
   · exact ⟨n,rfl⟩
theorem vU {f:Ty→Ty} {l:List Ty} (h:∀x∈l,(f x).nodes.length≤x.nodes.length):((l.map f).flatMap Ty.nodes).length≤(l.flatMap Ty.nodes).length:=by
 induction l with
 | nil=>simp
 | cons a r ih=>
   have h1:=h a (by simp)
   have h2:=ih fun x hx=>h x (by simp [hx])
   simp only [List.map_cons,List.flatMap_cons,List.length_append]
   omega
theorem OF {l:List cm} (t:Ty):(t.mB l).nodes.length≤t.nodes.length:=by
 refine Ty.gg (p:=fun t=>(t.mB l).nodes.length≤t.nodes.length) ?_ t
 intro t ih
 rw [Ty.xH]
 split
 · rw [Ty.aS,Ty.aS t];simp [cV]
 · rw [Ty.aS,Ty.aS t]
   have:=vU (f:=Ty.mB l) ih
   simp only [List.length_cons]
   omega
theorem OG {l:List Ty} (hl:∀x∈l,x.nodes.length≤1) (t:Ty):(t.m7 l).nodes.length≤t.nodes.length:=by
 refine Ty.gg (p:=fun t=>(t.m7 l).nodes.length≤t.nodes.length) ?_ t
 intro t ih
 rw [Ty.mq]
 cases e:LY l t with
 | some x=>
   obtain ⟨_,_,_,hx⟩:=mo e
   have:=hl x (bA hx)
   rw [Ty.aS t]
   simp only [Option.getD_some,List.length_cons]
   omega
 | none=>
   simp only [Option.getD_none]
   rw [Ty.aS,Ty.aS t]
   have:=vU (f:=Ty.m7 l) ih
   simp only [List.length_cons]
   omega
structure IY (t:Ty):Prop where
 ok:t.Ok
 kn:t.Kn (·=5)
 n:t.nodes.length≤90
theorem IY.both {t:Ty} (h:IY t):∃(u:Ty) (c:Sc),(aL AP).p 325 [t.pv]=some [u.pv]∧(aL AP).p 327 [t.pv,vI 98]=some [u.pv,c.pv]∧cv u∧lO c∧u.nodes.length≤90:=by
 obtain ⟨s1,s2⟩:=Ed (t:=t)
 have hn:=h.n
 have k1:=c325 (S:=t.gH) (by omega) h.ok h.kn.cw (fun y hy=>hy)
 have k2:=c327 (S:=t.gH) (by omega) h.ok h.kn.cw (fun y hy=>hy) (h:=98)
 have hl:(eg t).length≤90:=by
   have:=vT (l:=t.gH) (out:=[])
   simp at this
   unfold eg;omega
 obtain ⟨b1,b2⟩:=OE (l:=eg t) h.kn (fun z hz hk=>AX (s2 z hz hk))
 have sc:lO ⟨(eg t).length,t.mB (eg t)⟩:=⟨D' h.ok,b1,(eg t).length,rfl,by omega,b2⟩
 refine ⟨_,_,k1,k2,?_,sc,Nat.le_trans (OG (fun x hx=>by obtain ⟨i,rfl⟩:=t5 hx;rw [Ty.aS];simp [lf]) _) (Nat.le_trans (OF t) hn)⟩
 refine AT sc (by rw [mC]) ?_
 intro a ha
 obtain ⟨i,rfl⟩:=t5 ha
 exact ⟨df rfl,.bare rfl (by simp [lf]) (by simp [lf])⟩
end Go.Ab.Lw
namespace Go.Ab.Lw
open Ev
structure Bd where
 pos:Int
 rc:Bool
 name:cm
 sg:Bool
 sig:Ty
 body:Ex
def Bd.cells (b:Bd):List PV:=[vI b.pos,.bool b.rc,.str b.name,.bool b.sg,vI b.sig.kind,.str b.sig.name,vI b.sig.id,vI b.sig.home,.aE (b.sig.args.map Ty.pv)]++b.body.cells
def Bd.pv (b:Bd):PV:=.agg b.cells
@[simp] theorem Bd.mg (b:Bd):b.pv=.agg [vI b.pos,.bool b.rc,.str b.name,.bool b.sg,vI b.sig.kind,.str b.sig.name,vI b.sig.id,vI b.sig.home,.aE (b.sig.args.map Ty.pv),.int .i64 b.body.kind,.int .i64 b.body.pos,.str b.body.name,.int .i64 b.body.num,.aE (b.body.kids.map Ex.pv),.aE (b.body.aY.map Ar.pv),.int .i64 b.body.ty.kind,.str b.body.ty.name,.int .i64 b.body.ty.id,.int .i64 b.body.ty.home,.aE (b.body.ty.args.map Ty.pv)]:=by
 rw [Bd.pv,Bd.cells,Ex.bQ];rfl
theorem mE:Row Bd.cells 20:=⟨by omega,fun b=>by rw [Bd.cells,Ex.bQ];rfl⟩
theorem SX:El Bd.pv 20 true:=⟨fun b=>by simp,fun b=>by simp⟩
@[simp] theorem Rb {l:List Bd}:bF 20 (l.map Bd.pv)=true:=SX.head l
theorem Ee {l:List Bd}:((fG (cq Bd.cells l)).bind (fh 20 true l.length)).map PV.aE=some (.aE (l.map Bd.pv)):=rG mE
theorem QJ {l:List Bd}:((l.map Bd.pv).flatMap bq).map AV.pv=cq Bd.cells l:=rH mE
structure qi (N:Nat) (b:Bd):Prop where
 sc:Az b.body
 h:b.body.A0 N
 so:b.sig.Ok
 sw:b.sig.Cw
 sn:b.sig.nodes.length≤90
 nm:b.name.length≤100
 st:b.sig.Kn KT
 w:b.body.sz≤70000*N
 tx:mr b.body
def rQ (L:List Int) (k:Nat) (bs:List Bd) (j:Int):Sh:=[]++[some [.pv (.aE (L.map vI)),.pv (vI j)]]++(nn k++[some (cq Bd.cells bs)])
theorem jE {L:List Int} {k:Nat} {bs:List Bd}:Tape L 0 (rQ L k bs):=Fj (A:=[]) (by intro cs h;simp at h) ((gE k).app (bN.one dh))
theorem Fl {L:List Int} {k:Nat} {bs:List Bd} {j:Int}:(rQ L k bs j)[1+k]?=some (some (cq Bd.cells bs)):=by
 simp [rQ,List.getElem?_append_right,Nat.add_comm,nn]
theorem OH {L:List Int} {k:Nat} {bs:List Bd} {j:Int} {F:List AV}:(rQ L k bs j).set (1+k) none++[some F]=[]++[some [.pv (.aE (L.map vI)),.pv (vI j)]]++(nn (k+1)++[some F]):=by
 simp [rQ,nn,Nat.add_comm 1 k,List.set_append,List.replicate_succ']
theorem OI {L:List Int} {k:Nat} {bs:List Bd} {j:Int}:(rQ L k bs j).length=1+k+1:=by simp [rQ,nn];omega
def Rc:List cm:=[[112],[113],[114],[115]]
theorem OJ {i:Nat} {s:cm} (h:Rc[i]?=some s):([PV.str [112],.str [113],.str [114],.str [115]]:List PV)[i]?=some (.str s):=by
 have:([PV.str [112],.str [113],.str [114],.str [115]]:List PV)=Rc.map PV.str:=rfl
 rw [this];simp [h]
end Go.Ab.Lw
namespace Go.Ab.Lw
open Ev
structure It (L:List Int) (tm:Nat) (TP:Int→Sh) (ds:List Dt) (l:List En) (nm:cm) (i:Nat) (r4 r3 r2:Int) (x1 x u:Ty) (sc c':Sc) (e:Ex) (A:List AV) (b10 b11:Bool) (j1 j2 j3 j4 j5 j6:Nat):Prop where
 e1:(aL AP).i 68 [.aZ tm 0,.pv (vI 4)] (TP i) []=some ([.pv (vI r4)],TP j1,[])
 k0:(aL AP).p 67 []=some [.aE (mi.map Ty.pv)]
 e2:(aL AP).i 27 [.aZ tm 0,.pv (.aE (ds.map Dt.pv)),.pv (.aE (mi.map Ty.pv)),.pv (vI 2)] (TP j1) []=some ([x1.av],TP j2,[])
 e3:(aL AP).i 68 [.aZ tm 0,.pv (vI 3)] (TP j2) []=some ([.pv (vI r3)],TP j3,[])
 e4:if r3=0 then (aL AP).i 27 [.aZ tm 0,.pv (.aE (ds.map Dt.pv)),.pv (.aE []),.pv (vI 2)] (TP j3) []=some ([x.av],TP j4,[]) else x=x1∧j4=j3
 e5:(aL AP).i 68 [.aZ tm 0,.pv (vI 2)] (TP j4) []=some ([.pv (vI r2)],TP j5,[])
 k1:(aL AP).p 325 [x.pv]=some [u.pv]
 k2:(aL AP).p 327 [x.pv,vI 98]=some [u.pv,sc.pv]
 k3:(aL AP).p 176 [u.pv]=some [(As.mk 0 u).pv]
 k4:(aL AP).p 179 [.aE (l.map En.pv),.str nm,(As.mk 0 u).pv]=some [.aE ((l++[En.mk nm ⟨0,u⟩]).map En.pv)]
 e6:(aL AP).i 326 [.aZ tm 0,.pv (.aE (ds.map Dt.pv)),.pv (.aE ((if r4=1 then l++[⟨nm,⟨0,u⟩⟩] else l).map En.pv)),.pv u.pv,.pv (vI 3)] (TP j5) []=some ([.agg A],TP j6,[])
 hA:Uo e A
 k5:(aL AP).p 307 [e.pv,vI 10]=some [.bool b10]
 k6:(aL AP).p 307 [e.pv,vI 11]=some [.bool b11]
 k7:(aL AP).p 34 []=some [bu.pv]
 k8:(aL AP).p 176 [bu.pv]=some [(As.mk 0 bu).pv]
 hc:c'=if ¬r2=0∧(b10=true∨b11=true) then ⟨0,bu⟩ else sc
 k9:(aL AP).p 179 [.aE (l.map En.pv),.str nm,c'.pv]=some [.aE ((l++[En.mk nm c']).map En.pv)]
 Ps:lO c'
 ty:vQ 48 e
 sx:IY x
 hj:j6≤L.length
theorem SY {L:List Int} {tm:Nat} {TP:Int→Sh} (hT:Tape L tm TP) (hL:Sm L) {ds:List Dt} (hD:t_ ds) {l:List En} (hl:Ctx 900 l) {i:Nat} (hi:i≤L.length) (nm:cm) (hnm:nm.length≤100) :
   ∃r4 r3 r2 x1 x u sc c' e A b10 b11 j1 j2 j3 j4 j5 j6,It L tm TP ds l nm i r4 r3 r2 x1 x u sc c' e A b10 b11 j1 j2 j3 j4 j5 j6:=by
 have hdl:=hD.len
 have hda:∀d∈ds,d.params.length≤8:=fun d hd=>(er d (hD.all d hd)).1
 have hdn:∀d∈ds,d.name.length≤100:=fun d hd=>(ly d (hD.all d hd)).1
 have hll:=hl.len
 have nL:∀t∈mi,t.args=[]∧t.kind=5∧t.name.length≤100:=by
   intro t ht
   simp [mi] at ht
   rcases ht with rfl | rfl | rfl<;>exact ⟨rfl,rfl,by decide⟩
 have sig:∀{lv:List Ty} {x:Ty},(∀t∈lv,t.args=[]∧t.kind=5∧t.name.length≤100)→ic (·∈ds) lv 2 x→IY x:=fun h m=>⟨m.ok hda (fun t ht=>(h t ht).1),q8 hdn h m,by have:=m.small hda (fun t ht=>(h t ht).1);omega⟩
 obtain ⟨r4,j1,e1,_,_,hj1⟩:=oj hT hL hi (n:=4) (by omega) (by omega)
 obtain ⟨x1,j2,e2,m1,hj2⟩:=QD hT hL (ds:=ds) (by omega) hda (lv:=mi) (by simp [Sm,mi]) 2 (by omega) j1 hj1
 obtain ⟨r3,j3,e3,_,_,hj3⟩:=oj hT hL hj2 (n:=3) (by omega) (by omega)
 obtain ⟨x,j4,e4,sx,hj4⟩:∃(x:Ty) (j4:Nat),(if r3=0 then (aL AP).i 27 [.aZ tm 0,.pv (.aE (ds.map Dt.pv)),.pv (.aE []),.pv (vI 2)] (TP j3) []=some ([x.av],TP j4,[]) else x=x1∧j4=j3)∧IY x∧j4≤L.length:=by
   by_cases h:r3=0
   · obtain ⟨x,j4,e4,m,hj4⟩:=QD hT hL (ds:=ds) (by omega) hda (lv:=[]) (by simp [Sm]) 2 (by omega) j3 hj3
     exact ⟨x,j4,by rw [if_pos h];exact e4,sig (by simp) m,hj4⟩
   · exact ⟨x1,j3,by rw [if_neg h];exact ⟨rfl,rfl⟩,sig nL m1,hj3⟩
 obtain ⟨r2,j5,e5,_,_,hj5⟩:=oj hT hL hj4 (n:=2) (by omega) (by omega)
 obtain ⟨u,sc,k1,k2,gu,hsc,un⟩:=sx.both
 have k3:=c176 (t:=u)
 have k4:=c179 (l:=l) (by unfold Sm;omega) (n:=nm) (c:=⟨0,u⟩)
 have hli:Ctx (1000-20*3) (if r4=1 then l++[⟨nm,⟨0,u⟩⟩] else l):=by
   split
   · exact hl.push gu.mono hnm (by omega)
   · exact hl.ik (by omega)
 obtain ⟨e,f1,f2,f3,j6,e6,he,hj6⟩:=c326 hT hL hD 3 (by omega) j5 _ u hj5 hli gu (by omega)
 obtain ⟨b10,k5⟩:=c307 he.sc.ok 10
 obtain ⟨b11,k6⟩:=c307 he.sc.ok 11
 have Ps:lO (if ¬r2=0∧(b10=true∨b11=true) then ⟨0,bu⟩ else sc):=by
   split
   · exact rO.mono
   · exact hsc
 exact ⟨r4,r3,r2,x1,x,u,sc,_,e,_,b10,b11,j1,j2,j3,j4,j5,j6,e1,c67,e2,e3,e4,e5,k1,k2,k3,k4,e6,ez f1 f2 f3 e,k5,k6,c34,c176,rfl,c179 (by unfold Sm;omega),Ps,he,sx,hj6⟩
theorem xM:∀s∈Rc,s.length≤100:=by
 intro s hs
 simp only [Rc,List.mem_cons,List.not_mem_nil,or_false] at hs
 rcases hs with rfl | rfl | rfl | rfl<;>simp
def lP (nm:cm) (r4 r2:Int) (x:Ty) (e:Ex):Bd:=⟨0,decide (r4=1),nm,decide (r2=0),if r2=0 then x else bO,e⟩
theorem Fm {nm:cm} {r4 r2:Int} {x:Ty} {e:Ex} (hnm:nm.length≤100) (sx:IY x) (ty:vQ 48 e):qi 100 (lP nm r4 r2 x e):=by
 refine ⟨ty.sc,km ty.h (by omega),?_,?_,?_,hnm,?_,by have:=ty.w;rw [show (48:Nat)=12*4 from rfl,tO] at this;simp only [lP];omega,ty.tx⟩<;>simp only [lP]<;>split
 · exact sx.ok
 · exact iW
 · exact sx.kn.cw
 · exact iX
 · exact sx.n
 · rw [Ty.aS];simp [bO]
 · exact sx.kn.imp (fun k hk=>.inr hk)
 · exact .bare rfl (by simp [bO]) (by simp [bO])
theorem SZ {L:List Int} (hL:Sm L) {ds:List Dt} (hD:t_ ds) {l:List En} (hl:Ctx 900 l) {N i k:Nat} (hi4:i<N) (hN:N≤4) {bs:List Bd} (hb0:bs.length=i) {j:Nat} (hj:j≤L.length):∃(b:Bd) (l':List En) (j':Nat),qi 100 b∧Ctx (l.length+1) l'∧j'≤L.length ∧
   cl AP g306L0 ⟨[(4,.aB 4 0),(5,.aZ 0 0),(6,.aB 6 0),(7,.pv (.aE (l.map En.pv))),(8,.pv (vI N)),(9,.pv (vI i))],[(4,[.own [] 0,.own [] 1]),(6,[.pv (.aE (ds.map Dt.pv)),.bz (1+k) 20 bs.length true])],rQ L k bs j,[0,0]⟩ =
   cl AP g306L0 ⟨[(4,.aB 4 0),(5,.aZ 0 0),(6,.aB 6 0),(7,.pv (.aE (l'.map En.pv))),(8,.pv (vI N)),(9,.pv (vI (i+1:Nat)))],[(4,[.own [] 0,.own [] 1]),(6,[.pv (.aE (ds.map Dt.pv)),.bz (1+k+1) 20 (bs++[b]).length true])],rQ L (k+1) (bs++[b]) j',[0,0]⟩:=by
 obtain ⟨nm,hnm⟩:=bM (l:=Rc) (i:=i) (by simp [Rc];omega)
 have hnm':=OJ hnm
 have hT:=jE (L:=L) (k:=k) (bs:=bs)
 obtain ⟨r4,r3,r2,x1,x,u,sc,c',e,A,b10,b11,j1,j2,j3,j4,j5,j6,I⟩:=SY hT hL hD hl hj nm (xM nm (bA hnm))
 obtain ⟨e1,k0,e2,e3,e4,e5,k1,k2,k3,k4,e6,hA,k5,k6,k7,k8,hc,k9,Ps,ty,sx,hj6⟩:=I
 refine ⟨lP nm r4 r2 x e,l++[⟨nm,c'⟩],j6,Fm (xM nm (bA hnm)) sx ty,⟨by simp,by
   intro y hy;simp at hy;rcases hy with hy | rfl
   · exact hl.SR y hy
   · exact Ps,by
   intro y hy;simp at hy;rcases hy with hy | rfl
   · exact hl.nm y hy
   · exact xM nm (bA hnm)⟩,hj6,?_⟩
 have tn:=hT.norm
 have tsh:=hT.shift
 have tl:=hT.take
 have g1:=Fl (L:=L) (k:=k) (bs:=bs) (j:=j6)
 have g2:=OH (L:=L) (k:=k) (bs:=bs) (j:=j6) (F:=cq Bd.cells (bs++[lP nm r4 r2 x e]))
 have g3:=OI (L:=L) (k:=k) (bs:=bs) (j:=j6)
 have hfl:cq Bd.cells (bs++[lP nm r4 r2 x e])=cq Bd.cells bs++(lP nm r4 r2 x e).cells.map .pv:=by rw [xB];simp [cq]
 have ec:=Ex.bQ e
 have bc:(lP nm r4 r2 x e).cells=[vI 0,.bool (decide (r4=1)),.str nm,.bool (decide (r2=0)),vI (if r2=0 then x else bO).kind,.str (if r2=0 then x else bO).name,vI (if r2=0 then x else bO).id,vI (if r2=0 then x else bO).home,.aE ((if r2=0 then x else bO).args.map Ty.pv)]++e.cells:=rfl
 have r1:(cq Bd.cells bs).length=bs.length*20:=eE mE
 have r2':c_ (cq Bd.cells bs)=false:=eK dh
 have r3':(cq Bd.cells bs).take (bs.length*20)=cq Bd.cells bs:=List.take_of_length_le (by omega)
 have hb2:(bs.length+1)*256≤140737488355328:=by omega
 have hi':(i:Int)<N:=by omega
 have hq:bN (rQ L (k+1) (bs++[lP nm r4 r2 x e]) j6):=(jE (L:=L) (k:=k+1) (bs:=bs++[lP nm r4 r2 x e])).quiet j6
 have tn2:=hq.norm
 have sheq:rQ L (k+1) (bs++[lP nm r4 r2 x e]) j6=(rQ L k bs j6).set (1+k) none++[some (cq Bd.cells bs++(lP nm r4 r2 x e).cells.map .pv)]:=by rw [←hfl,g2];rfl
 rw [sheq] at tn2 ⊢
 rw [bc] at tn2 ⊢
 generalize cq Bd.cells bs=F at *
 have tA:A.take 11=A:=List.take_of_length_le (by rw [hA.len];omega)
 generalize hTP:rQ L k bs=TP at *
 clear g2 hfl sheq
 generalize hS1:(TP j6).set (1+k) none=S1 at *
 rw [ec]
 rw [ec] at tn2
 simp [Ty.av] at e1 k0 e2 e3 e5 k1 k2 k3 k4 e6 k5 k6 k7 k8 k9
 by_cases h4:r4=1
 · by_cases h3:r3=0
   · simp [h3,Ty.av] at e4 e3
     by_cases h2:r2=0
     · simp [h4,h2,bO] at e1 e5 e6 hc tn2
       subst hc
       try simp at k9
       conv=>lhs;rw [g306L0e]
       simp (disch:=omega) [-getElem?_pos,g306B0,hi',hnm',e1,k0,e2,e3,e4,e5,k1,k2,k3,k4,e6,k5,k6,k7,k8,k9,h4,h3,h2,tn,tsh,tl,g1,g3,r1,r2',r3',hb2,tn2,az,aI,hA.dL,hA.flat,hA.iP,hA.len,hA.leaf,tA,ec,hS1,bO]
     · have h2b:(r2 == 0)=false:=by simpa using h2
       simp [h4,h2,bO] at e1 e5 e6 hc tn2
       cases b10
       · cases b11
         · simp at hc
           subst hc
           try simp at k9
           conv=>lhs;rw [g306L0e]
           simp (disch:=omega) [-getElem?_pos,g306B0,hi',hnm',e1,k0,e2,e3,e4,e5,k1,k2,k3,k4,e6,k5,k6,k7,k8,k9,h4,h3,h2,h2b,tn,tsh,tl,g1,g3,r1,r2',r3',hb2,tn2,az,aI,hA.dL,hA.flat,hA.iP,hA.len,hA.leaf,tA,ec,hS1,bO]
         · simp at hc
           subst hc
           simp [bu] at k7 k8 k9
           conv=>lhs;rw [g306L0e]
           simp (disch:=omega) [-getElem?_pos,g306B0,hi',hnm',e1,k0,e2,e3,e4,e5,k1,k2,k3,k4,e6,k5,k6,k7,k8,k9,h4,h3,h2,h2b,tn,tsh,tl,g1,g3,r1,r2',r3',hb2,tn2,az,aI,hA.dL,hA.flat,hA.iP,hA.len,hA.leaf,tA,ec,hS1,bO,bu]
       · simp at hc
         subst hc
         simp [bu] at k7 k8 k9
         conv=>lhs;rw [g306L0e]
         simp (disch:=omega) [-getElem?_pos,g306B0,hi',hnm',e1,k0,e2,e3,e4,e5,k1,k2,k3,k4,e6,k5,k6,k7,k8,k9,h4,h3,h2,h2b,tn,tsh,tl,g1,g3,r1,r2',r3',hb2,tn2,az,aI,hA.dL,hA.flat,hA.iP,hA.len,hA.leaf,tA,ec,hS1,bO,bu]
   · simp [h3] at e4
     obtain ⟨rfl,rfl⟩:=e4
     by_cases h2:r2=0
     · simp [h4,h2,bO] at e1 e5 e6 hc tn2
       subst hc
       try simp at k9
       conv=>lhs;rw [g306L0e]
       simp (disch:=omega) [-getElem?_pos,g306B0,hi',hnm',e1,k0,e2,e3,e5,k1,k2,k3,k4,e6,k5,k6,k7,k8,k9,h4,h3,h2,tn,tsh,tl,g1,g3,r1,r2',r3',hb2,tn2,az,aI,hA.dL,hA.flat,hA.iP,hA.len,hA.leaf,tA,ec,hS1,bO]
     · have h2b:(r2 == 0)=false:=by simpa using h2
       simp [h4,h2,bO] at e1 e5 e6 hc tn2
       cases b10
       · cases b11
         · simp at hc
           subst hc
           try simp at k9
           conv=>lhs;rw [g306L0e]
           simp (disch:=omega) [-getElem?_pos,g306B0,hi',hnm',e1,k0,e2,e3,e5,k1,k2,k3,k4,e6,k5,k6,k7,k8,k9,h4,h3,h2,h2b,tn,tsh,tl,g1,g3,r1,r2',r3',hb2,tn2,az,aI,hA.dL,hA.flat,hA.iP,hA.len,hA.leaf,tA,ec,hS1,bO]
         · simp at hc
           subst hc
           simp [bu] at k7 k8 k9
           conv=>lhs;rw [g306L0e]
           simp (disch:=omega) [-getElem?_pos,g306B0,hi',hnm',e1,k0,e2,e3,e5,k1,k2,k3,k4,e6,k5,k6,k7,k8,k9,h4,h3,h2,h2b,tn,tsh,tl,g1,g3,r1,r2',r3',hb2,tn2,az,aI,hA.dL,hA.flat,hA.iP,hA.len,hA.leaf,tA,ec,hS1,bO,bu]
       · simp at hc
         subst hc
         simp [bu] at k7 k8 k9
         conv=>lhs;rw [g306L0e]
         simp (disch:=omega) [-getElem?_pos,g306B0,hi',hnm',e1,k0,e2,e3,e5,k1,k2,k3,k4,e6,k5,k6,k7,k8,k9,h4,h3,h2,h2b,tn,tsh,tl,g1,g3,r1,r2',r3',hb2,tn2,az,aI,hA.dL,hA.flat,hA.iP,hA.len,hA.leaf,tA,ec,hS1,bO,bu]
 · have h4b:(r4 == 1)=false:=by simpa using h4
   by_cases h3:r3=0
   · simp [h3,Ty.av] at e4 e3
     by_cases h2:r2=0
     · simp [h4,h2,bO] at e1 e5 e6 hc tn2
       subst hc
       try simp at k9
       conv=>lhs;rw [g306L0e]
       simp (disch:=omega) [-getElem?_pos,g306B0,hi',hnm',e1,k0,e2,e3,e4,e5,k1,k2,k3,k4,e6,k5,k6,k7,k8,k9,h4,h3,h2,h4b,tn,tsh,tl,g1,g3,r1,r2',r3',hb2,tn2,az,aI,hA.dL,hA.flat,hA.iP,hA.len,hA.leaf,tA,ec,hS1,bO]
     · have h2b:(r2 == 0)=false:=by simpa using h2
       simp [h4,h2,bO] at e1 e5 e6 hc tn2
       cases b10
       · cases b11
         · simp at hc
           subst hc
           try simp at k9
           conv=>lhs;rw [g306L0e]
           simp (disch:=omega) [-getElem?_pos,g306B0,hi',hnm',e1,k0,e2,e3,e4,e5,k1,k2,k3,k4,e6,k5,k6,k7,k8,k9,h4,h3,h2,h2b,h4b,tn,tsh,tl,g1,g3,r1,r2',r3',hb2,tn2,az,aI,hA.dL,hA.flat,hA.iP,hA.len,hA.leaf,tA,ec,hS1,bO]
         · simp at hc
           subst hc
           simp [bu] at k7 k8 k9
           conv=>lhs;rw [g306L0e]
           simp (disch:=omega) [-getElem?_pos,g306B0,hi',hnm',e1,k0,e2,e3,e4,e5,k1,k2,k3,k4,e6,k5,k6,k7,k8,k9,h4,h3,h2,h2b,h4b,tn,tsh,tl,g1,g3,r1,r2',r3',hb2,tn2,az,aI,hA.dL,hA.flat,hA.iP,hA.len,hA.leaf,tA,ec,hS1,bO,bu]
       · simp at hc
         subst hc
         simp [bu] at k7 k8 k9
         conv=>lhs;rw [g306L0e]
         simp (disch:=omega) [-getElem?_pos,g306B0,hi',hnm',e1,k0,e2,e3,e4,e5,k1,k2,k3,k4,e6,k5,k6,k7,k8,k9,h4,h3,h2,h2b,h4b,tn,tsh,tl,g1,g3,r1,r2',r3',hb2,tn2,az,aI,hA.dL,hA.flat,hA.iP,hA.len,hA.leaf,tA,ec,hS1,bO,bu]
   · simp [h3] at e4
     obtain ⟨rfl,rfl⟩:=e4
     by_cases h2:r2=0
     · simp [h4,h2,bO] at e1 e5 e6 hc tn2
       subst hc
       try simp at k9
       conv=>lhs;rw [g306L0e]
       simp (disch:=omega) [-getElem?_pos,g306B0,hi',hnm',e1,k0,e2,e3,e5,k1,k2,k3,k4,e6,k5,k6,k7,k8,k9,h4,h3,h2,h4b,tn,tsh,tl,g1,g3,r1,r2',r3',hb2,tn2,az,aI,hA.dL,hA.flat,hA.iP,hA.len,hA.leaf,tA,ec,hS1,bO]
     · have h2b:(r2 == 0)=false:=by simpa using h2
       simp [h4,h2,bO] at e1 e5 e6 hc tn2
       cases b10
       · cases b11
         · simp at hc
           subst hc
           try simp at k9
           conv=>lhs;rw [g306L0e]
           simp (disch:=omega) [-getElem?_pos,g306B0,hi',hnm',e1,k0,e2,e3,e5,k1,k2,k3,k4,e6,k5,k6,k7,k8,k9,h4,h3,h2,h2b,h4b,tn,tsh,tl,g1,g3,r1,r2',r3',hb2,tn2,az,aI,hA.dL,hA.flat,hA.iP,hA.len,hA.leaf,tA,ec,hS1,bO]
         · simp at hc
           subst hc
           simp [bu] at k7 k8 k9
           conv=>lhs;rw [g306L0e]
           simp (disch:=omega) [-getElem?_pos,g306B0,hi',hnm',e1,k0,e2,e3,e5,k1,k2,k3,k4,e6,k5,k6,k7,k8,k9,h4,h3,h2,h2b,h4b,tn,tsh,tl,g1,g3,r1,r2',r3',hb2,tn2,az,aI,hA.dL,hA.flat,hA.iP,hA.len,hA.leaf,tA,ec,hS1,bO,bu]
       · simp at hc
         subst hc
         simp [bu] at k7 k8 k9
         conv=>lhs;rw [g306L0e]
         simp (disch:=omega) [-getElem?_pos,g306B0,hi',hnm',e1,k0,e2,e3,e5,k1,k2,k3,k4,e6,k5,k6,k7,k8,k9,h4,h3,h2,h2b,h4b,tn,tsh,tl,g1,g3,r1,r2',r3',hb2,tn2,az,aI,hA.dL,hA.flat,hA.iP,hA.len,hA.leaf,tA,ec,hS1,bO,bu]
end Go.Ab.Lw
namespace Go.Ab.Lw
open Ev
theorem Fo {L:List Int}:Tape L 0 (tp L) where
 get:=fun i=>by simp
 set:=fun i j=>by simp
 quiet:=fun i=>bN.one (by intro v hv;simp at hv;rcases hv with rfl | rfl<;>exact ⟨_,rfl⟩)
theorem S3 {L:List Int} (hL:Sm L) {ds:List Dt} (hD:t_ ds) {N:Nat} (h0:0<N) (hN:N≤4) {j:Nat} (hj:j≤L.length):∃(b:Bd) (l':List En) (j':Nat),qi 100 b∧Ctx 1 l'∧j'≤L.length ∧
   cl AP g306L0 ⟨[(4,.aB 4 0),(5,.aZ 0 0),(6,.aB 6 0),(7,.own [] 0),(8,.pv (vI N)),(9,.pv (vI 0))],[(4,[.own [] 1,.own [] 2]),(6,[.pv (.aE (ds.map Dt.pv)),.own [] 3])],tp L j,[0,0,0,0]⟩ =
   cl AP g306L0 ⟨[(4,.aB 4 0),(5,.aZ 0 0),(6,.aB 6 0),(7,.pv (.aE (l'.map En.pv))),(8,.pv (vI N)),(9,.pv (vI 1))],[(4,[.own [] 0,.own [] 1]),(6,[.pv (.aE (ds.map Dt.pv)),.bz 1 20 1 true])],rQ L 0 [b] j',[0,0]⟩:=by
 have hT:=Fo (L:=L)
 obtain ⟨r4,r3,r2,x1,x,u,sc,c',e,A,b10,b11,j1,j2,j3,j4,j5,j6,I⟩:=SY hT hL hD (l:=[]) ⟨by simp,by simp,by simp⟩ hj [112] (by simp)
 obtain ⟨e1,k0,e2,e3,e4,e5,k1,k2,k3,k4,e6,hA,k5,k6,k7,k8,hc,k9,Ps,ty,sx,hj6⟩:=I
 refine ⟨lP [112] r4 r2 x e,[⟨[112],c'⟩],j6,Fm (by simp) sx ty,⟨by simp,by
   intro y hy;simp at hy;subst hy
   exact Ps,by
   intro y hy;simp at hy;subst hy
   simp⟩,hj6,?_⟩
 have tn:=hT.norm
 have tsh:=hT.shift
 have tl:=hT.take
 have g3:∀i,(tp L i).length=1:=fun i=>rfl
 have ec:=Ex.bQ e
 have hi':=h0
 have hz:N≠0:=by omega
 have hq:bN (rQ L 0 [lP [112] r4 r2 x e] j6):=(jE (L:=L) (k:=0) (bs:=[lP [112] r4 r2 x e])).quiet j6
 have tn2:=hq.norm
 have bc:(lP [112] r4 r2 x e).cells=[vI 0,.bool (decide (r4=1)),.str [112],.bool (decide (r2=0)),vI (if r2=0 then x else bO).kind,.str (if r2=0 then x else bO).name,vI (if r2=0 then x else bO).id,vI (if r2=0 then x else bO).home,.aE ((if r2=0 then x else bO).args.map Ty.pv)]++e.cells:=rfl
 have sheq:rQ L 0 [lP [112] r4 r2 x e] j6=tp L j6++[some ((lP [112] r4 r2 x e).cells.map .pv)]:=by simp [rQ,nn,cq]
 rw [sheq] at tn2 ⊢
 rw [bc] at tn2 ⊢
 generalize tp L=TP at *
 have tA:A.take 11=A:=List.take_of_length_le (by rw [hA.len];omega)
 clear sheq
 rw [ec]
 rw [ec] at tn2
 simp [Ty.av] at e1 k0 e2 e3 e5 k1 k2 k3 k4 e6 k5 k6 k7 k8 k9
 by_cases h4:r4=1
 · by_cases h3:r3=0
   · simp [h3,Ty.av] at e4 e3
     by_cases h2:r2=0
     · simp [h4,h2,bO] at e1 e5 e6 hc tn2
       subst hc
       try simp at k9
       conv=>lhs;rw [g306L0e]
       simp (disch:=omega) [-getElem?_pos,g306B0,hi',hz,e1,k0,e2,e3,e4,e5,k1,k2,k3,k4,e6,k5,k6,k7,k8,k9,h4,h3,h2,tn,tsh,tl,g3,tn2,az,aI,hA.dL,hA.flat,hA.iP,hA.len,hA.leaf,tA,ec,bO]
       conv=>lhs;rw [g306L0e]
       conv=>rhs;rw [g306L0e]
       simp [h4,h2,tn2,bO]
     · have h2b:(r2 == 0)=false:=by simpa using h2
       simp [h4,h2,bO] at e1 e5 e6 hc tn2
       cases b10
       · cases b11
         · simp at hc
           subst hc
           try simp at k9
           conv=>lhs;rw [g306L0e]
           simp (disch:=omega) [-getElem?_pos,g306B0,hi',hz,e1,k0,e2,e3,e4,e5,k1,k2,k3,k4,e6,k5,k6,k7,k8,k9,h4,h3,h2,h2b,tn,tsh,tl,g3,tn2,az,aI,hA.dL,hA.flat,hA.iP,hA.len,hA.leaf,tA,ec,bO]
           conv=>lhs;rw [g306L0e]
           conv=>rhs;rw [g306L0e]
           simp [h4,h2,h2b,tn2,bO]
         · simp at hc
           subst hc
           simp [bu] at k7 k8 k9
           conv=>lhs;rw [g306L0e]
           simp (disch:=omega) [-getElem?_pos,g306B0,hi',hz,e1,k0,e2,e3,e4,e5,k1,k2,k3,k4,e6,k5,k6,k7,k8,k9,h4,h3,h2,h2b,tn,tsh,tl,g3,tn2,az,aI,hA.dL,hA.flat,hA.iP,hA.len,hA.leaf,tA,ec,bO,bu]
           conv=>lhs;rw [g306L0e]
           conv=>rhs;rw [g306L0e]
           simp [h4,h2,h2b,tn2,bO]
       · simp at hc
         subst hc
         simp [bu] at k7 k8 k9
         conv=>lhs;rw [g306L0e]
         simp (disch:=omega) [-getElem?_pos,g306B0,hi',hz,e1,k0,e2,e3,e4,e5,k1,k2,k3,k4,e6,k5,k6,k7,k8,k9,h4,h3,h2,h2b,tn,tsh,tl,g3,tn2,az,aI,hA.dL,hA.flat,hA.iP,hA.len,hA.leaf,tA,ec,bO,bu]
         conv=>lhs;rw [g306L0e]
         conv=>rhs;rw [g306L0e]
         simp [h4,h2,h2b,tn2,bO]
   · simp [h3] at e4
     obtain ⟨rfl,rfl⟩:=e4
     by_cases h2:r2=0
     · simp [h4,h2,bO] at e1 e5 e6 hc tn2
       subst hc
       try simp at k9
       conv=>lhs;rw [g306L0e]
       simp (disch:=omega) [-getElem?_pos,g306B0,hi',hz,e1,k0,e2,e3,e5,k1,k2,k3,k4,e6,k5,k6,k7,k8,k9,h4,h3,h2,tn,tsh,tl,g3,tn2,az,aI,hA.dL,hA.flat,hA.iP,hA.len,hA.leaf,tA,ec,bO]
       conv=>lhs;rw [g306L0e]
       conv=>rhs;rw [g306L0e]
       simp [h4,h2,tn2,bO]
     · have h2b:(r2 == 0)=false:=by simpa using h2
       simp [h4,h2,bO] at e1 e5 e6 hc tn2
       cases b10
       · cases b11
         · simp at hc
           subst hc
           try simp at k9
           conv=>lhs;rw [g306L0e]
           simp (disch:=omega) [-getElem?_pos,g306B0,hi',hz,e1,k0,e2,e3,e5,k1,k2,k3,k4,e6,k5,k6,k7,k8,k9,h4,h3,h2,h2b,tn,tsh,tl,g3,tn2,az,aI,hA.dL,hA.flat,hA.iP,hA.len,hA.leaf,tA,ec,bO]
           conv=>lhs;rw [g306L0e]
           conv=>rhs;rw [g306L0e]
           simp [h4,h2,h2b,tn2,bO]
         · simp at hc
           subst hc
           simp [bu] at k7 k8 k9
           conv=>lhs;rw [g306L0e]
           simp (disch:=omega) [-getElem?_pos,g306B0,hi',hz,e1,k0,e2,e3,e5,k1,k2,k3,k4,e6,k5,k6,k7,k8,k9,h4,h3,h2,h2b,tn,tsh,tl,g3,tn2,az,aI,hA.dL,hA.flat,hA.iP,hA.len,hA.leaf,tA,ec,bO,bu]
           conv=>lhs;rw [g306L0e]
           conv=>rhs;rw [g306L0e]
           simp [h4,h2,h2b,tn2,bO]
       · simp at hc
         subst hc
         simp [bu] at k7 k8 k9
         conv=>lhs;rw [g306L0e]
         simp (disch:=omega) [-getElem?_pos,g306B0,hi',hz,e1,k0,e2,e3,e5,k1,k2,k3,k4,e6,k5,k6,k7,k8,k9,h4,h3,h2,h2b,tn,tsh,tl,g3,tn2,az,aI,hA.dL,hA.flat,hA.iP,hA.len,hA.leaf,tA,ec,bO,bu]
         conv=>lhs;rw [g306L0e]
         conv=>rhs;rw [g306L0e]
         simp [h4,h2,h2b,tn2,bO]
 · have h4b:(r4 == 1)=false:=by simpa using h4
   by_cases h3:r3=0
   · simp [h3,Ty.av] at e4 e3
     by_cases h2:r2=0
     · simp [h4,h2,bO] at e1 e5 e6 hc tn2
       subst hc
       try simp at k9
       conv=>lhs;rw [g306L0e]
       simp (disch:=omega) [-getElem?_pos,g306B0,hi',hz,e1,k0,e2,e3,e4,e5,k1,k2,k3,k4,e6,k5,k6,k7,k8,k9,h4,h3,h2,h4b,tn,tsh,tl,g3,tn2,az,aI,hA.dL,hA.flat,hA.iP,hA.len,hA.leaf,tA,ec,bO]
       conv=>lhs;rw [g306L0e]
       conv=>rhs;rw [g306L0e]
       simp [h4,h2,h4b,tn2,bO]
     · have h2b:(r2 == 0)=false:=by simpa using h2
       simp [h4,h2,bO] at e1 e5 e6 hc tn2
       cases b10
       · cases b11
         · simp at hc
           subst hc
           try simp at k9
           conv=>lhs;rw [g306L0e]
           simp (disch:=omega) [-getElem?_pos,g306B0,hi',hz,e1,k0,e2,e3,e4,e5,k1,k2,k3,k4,e6,k5,k6,k7,k8,k9,h4,h3,h2,h2b,h4b,tn,tsh,tl,g3,tn2,az,aI,hA.dL,hA.flat,hA.iP,hA.len,hA.leaf,tA,ec,bO]
           conv=>lhs;rw [g306L0e]
           conv=>rhs;rw [g306L0e]
           simp [h4,h2,h2b,h4b,tn2,bO]
         · simp at hc
           subst hc
           simp [bu] at k7 k8 k9
           conv=>lhs;rw [g306L0e]
           simp (disch:=omega) [-getElem?_pos,g306B0,hi',hz,e1,k0,e2,e3,e4,e5,k1,k2,k3,k4,e6,k5,k6,k7,k8,k9,h4,h3,h2,h2b,h4b,tn,tsh,tl,g3,tn2,az,aI,hA.dL,hA.flat,hA.iP,hA.len,hA.leaf,tA,ec,bO,bu]
           conv=>lhs;rw [g306L0e]
           conv=>rhs;rw [g306L0e]
           simp [h4,h2,h2b,h4b,tn2,bO]
       · simp at hc
         subst hc
         simp [bu] at k7 k8 k9
         conv=>lhs;rw [g306L0e]
         simp (disch:=omega) [-getElem?_pos,g306B0,hi',hz,e1,k0,e2,e3,e4,e5,k1,k2,k3,k4,e6,k5,k6,k7,k8,k9,h4,h3,h2,h2b,h4b,tn,tsh,tl,g3,tn2,az,aI,hA.dL,hA.flat,hA.iP,hA.len,hA.leaf,tA,ec,bO,bu]
         conv=>lhs;rw [g306L0e]
         conv=>rhs;rw [g306L0e]
         simp [h4,h2,h2b,h4b,tn2,bO]
   · simp [h3] at e4
     obtain ⟨rfl,rfl⟩:=e4
     by_cases h2:r2=0
     · simp [h4,h2,bO] at e1 e5 e6 hc tn2
       subst hc
       try simp at k9
       conv=>lhs;rw [g306L0e]
       simp (disch:=omega) [-getElem?_pos,g306B0,hi',hz,e1,k0,e2,e3,e5,k1,k2,k3,k4,e6,k5,k6,k7,k8,k9,h4,h3,h2,h4b,tn,tsh,tl,g3,tn2,az,aI,hA.dL,hA.flat,hA.iP,hA.len,hA.leaf,tA,ec,bO]
       conv=>lhs;rw [g306L0e]
       conv=>rhs;rw [g306L0e]
       simp [h4,h2,h4b,tn2,bO]
     · have h2b:(r2 == 0)=false:=by simpa using h2
       simp [h4,h2,bO] at e1 e5 e6 hc tn2
       cases b10
       · cases b11
         · simp at hc
           subst hc
           try simp at k9
           conv=>lhs;rw [g306L0e]
           simp (disch:=omega) [-getElem?_pos,g306B0,hi',hz,e1,k0,e2,e3,e5,k1,k2,k3,k4,e6,k5,k6,k7,k8,k9,h4,h3,h2,h2b,h4b,tn,tsh,tl,g3,tn2,az,aI,hA.dL,hA.flat,hA.iP,hA.len,hA.leaf,tA,ec,bO]
           conv=>lhs;rw [g306L0e]
           conv=>rhs;rw [g306L0e]
           simp [h4,h2,h2b,h4b,tn2,bO]
         · simp at hc
           subst hc
           simp [bu] at k7 k8 k9
           conv=>lhs;rw [g306L0e]
           simp (disch:=omega) [-getElem?_pos,g306B0,hi',hz,e1,k0,e2,e3,e5,k1,k2,k3,k4,e6,k5,k6,k7,k8,k9,h4,h3,h2,h2b,h4b,tn,tsh,tl,g3,tn2,az,aI,hA.dL,hA.flat,hA.iP,hA.len,hA.leaf,tA,ec,bO,bu]
           conv=>lhs;rw [g306L0e]
           conv=>rhs;rw [g306L0e]
           simp [h4,h2,h2b,h4b,tn2,bO]
       · simp at hc
         subst hc
         simp [bu] at k7 k8 k9
         conv=>lhs;rw [g306L0e]
         simp (disch:=omega) [-getElem?_pos,g306B0,hi',hz,e1,k0,e2,e3,e5,k1,k2,k3,k4,e6,k5,k6,k7,k8,k9,h4,h3,h2,h2b,h4b,tn,tsh,tl,g3,tn2,az,aI,hA.dL,hA.flat,hA.iP,hA.len,hA.leaf,tA,ec,bO,bu]
         conv=>lhs;rw [g306L0e]
         conv=>rhs;rw [g306L0e]
         simp [h4,h2,h2b,h4b,tn2,bO]
theorem S4 {L:List Int} (hL:Sm L) {ds:List Dt} (hD:t_ ds) {N:Nat} (hN:N≤4):∀(n i:Nat),N-i=n→i≤N→∀(l:List En) (k:Nat) (bs:List Bd) (j:Nat),Ctx (900-n) l→bs.length=i→(∀b∈bs,qi 100 b)→j≤L.length→∃(l':List En) (k':Nat) (bs':List Bd) (j':Nat),bs'.length=N∧(∀b∈bs',qi 100 b)∧j'≤L.length ∧
   cl AP g306L0 ⟨[(4,.aB 4 0),(5,.aZ 0 0),(6,.aB 6 0),(7,.pv (.aE (l.map En.pv))),(8,.pv (vI N)),(9,.pv (vI i))],[(4,[.own [] 0,.own [] 1]),(6,[.pv (.aE (ds.map Dt.pv)),.bz (1+k) 20 bs.length true])],rQ L k bs j,[0,0]⟩ =
     some (.exit 0,⟨[(4,.aB 4 0),(5,.aZ 0 0),(6,.aB 6 0),(7,.pv (.aE (l'.map En.pv))),(8,.pv (vI N)),(9,.pv (vI N)),(26,.pv (.bool false))],[(4,[.own [] 0,.own [] 1]),(6,[.pv (.aE (ds.map Dt.pv)),.bz (1+k') 20 bs'.length true])],rQ L k' bs' j',[0,0]⟩)
 | 0,i,hn,hi,l,k,bs,j,hl,hb,ho,hj=>by
   have:i=N:=by omega
   subst this
   refine ⟨l,k,bs,j,hb,ho,hj,?_⟩
   have tn:=((jE (L:=L) (k:=k) (bs:=bs)).quiet j).norm
   generalize rQ L k bs j=S at *
   rw [g306L0e]
   simp [g306B0,tn]
 | n+1,i,hn,hi,l,k,bs,j,hl,hb,ho,hj=>by
   obtain ⟨b,l1,j1,b1,b2,b3,e⟩:=SZ hL hD (l:=l) (N:=N) (k:=k) (hl.ik (by omega)) (by omega) hN hb hj
   have hll:=hl.len
   obtain ⟨l',k',bs',j',q1,q2,q3,e'⟩:=S4 hL hD hN n (i+1) (by omega) (by omega) l1 (k+1) (bs++[b]) j1 (b2.ik (by omega)) (by simp;omega) (by
     intro y hy;simp at hy;rcases hy with hy | rfl
     · exact ho y hy
     · exact b1) b3
   refine ⟨l',k',bs',j',q1,q2,q3,?_⟩
   rw [e]
   exact e'
end Go.Ab.Lw
namespace Go.Ab.Lw
open Ev
theorem c306 {L:List Int} (hL:Sm L) (bits:Int):∃(ds:List Dt) (bs:List Bd) (k j:Nat),t_ ds∧0<bs.length∧bs.length≤4∧(∀b∈bs,qi 100 b) ∧
   (aL AP).i 306 [.pv (vI bits),.pv (.aE (L.map vI))] [] []=some ([.agg [.pv (.aE (ds.map Dt.pv)),.bz (1+k) 20 bs.length true]],rQ L k bs j,[]):=by
 obtain ⟨ds,k1,d1,d2⟩:=c32 bits
 have hD:t_ ds:=⟨d1,d2⟩
 obtain ⟨r,j0,e1,r0,r1,hj0⟩:=oj (Fo (L:=L)) hL (i:=0) (by omega) (n:=4) (by omega) (by omega)
 obtain ⟨r,rfl,hr⟩:=nY (n:=4) r0 (by simpa using r1)
 obtain ⟨b,l1,j1,b1,b2,b3,e2⟩:=S3 hL hD (N:=1+r) (by omega) (by omega) hj0
 obtain ⟨l',k',bs',j',q1,q2,q3,e3⟩:=S4 hL hD (N:=1+r) (by omega) _ 1 rfl (by omega) l1 0 [b] j1 (b2.ik (by omega)) rfl (by simpa using b1) b3
 refine ⟨ds,bs',k',j',hD,by omega,by omega,q2,?_⟩
 have e4:∀y,cl AP g306L0 ⟨[(4,.aB 4 0),(5,.aZ 0 0),(6,.aB 6 0),(7,.own [] 0),(8,.pv (vI (1+r:Nat))),(9,.pv (vI 0))],[(4,[.own [] 1,.own [] 2]),(6,[.pv (.aE (ds.map Dt.pv)),.own [] 3])],tp L j0,[0,0,0,0]⟩=y↔_=y:=fun y=>by rw [e2]
 have e5:=e2.trans e3
 have tn:=((jE (L:=L) (k:=k') (bs:=bs')).quiet j').norm
 have tsh:=((jE (L:=L) (k:=k') (bs:=bs')).quiet j').shift
 generalize rQ L k' bs' j'=S at *
 clear e2 e3 e4
 rw [g306L0e] at e5
 have hw:(1:Int)+r=((1+r:Nat):Int):=by omega
 simp at k1 e1 e5
 rw [aP (af:=g306) rfl (by simp [g306])]
 simp (disch:=omega) [g306,k1,e1,az,g306L0e,e5,tn,tsh]
end Go.Ab.Lw
namespace Go.Ab.Lw
open Ev
theorem QK {e:Ex} (h:Az e) {c:List Ex} (hl:c.length=e.ch.length) (hc:∀y∈c,Az y):Az (e.t8 c):=by
 rw [Ex.mm] at hl
 have hch:=D9 hl
 have hk:(e.t8 c).kids.length=e.kids.length:=by rw [Ex.t8,if_pos hl];simp;omega
 have ha:(e.t8 c).aY.map (fun a=>(a.gU,a.vars))=e.aY.map (fun a=>(a.gU,a.vars)):=by rw [Ex.t8,if_pos hl];simp only [xF]
 have ha2:(e.t8 c).aY.length=e.aY.length:=by have:=congrArg List.length ha;simpa using this
 have hkd:(e.t8 c).kind=e.kind:=by rw [Ex.t8,if_pos hl]
 have hty:(e.t8 c).ty=e.ty:=by rw [Ex.t8,if_pos hl]
 refine ⟨.mk (by have:=h.ok.k;omega) (by have:=h.ok.a;omega) ?_ (by rw [hty];exact h.ok.t) (by rw [hch];exact fun y hy=>(hc y hy).ok),.mk (by rw [hkd,hk];exact h.one.h) (by rw [hch];exact fun y hy=>(hc y hy).one),.mk (by rw [hty];exact h.cw.h) (by rw [hch];exact fun y hy=>(hc y hy).cw)⟩
 intro a hm
 have:(a.gU,a.vars)∈e.aY.map (fun a=>(a.gU,a.vars)):=by rw [←ha];exact List.mem_map_of_mem hm
 simp only [List.mem_map] at this
 obtain ⟨b,hb,hq⟩:=this
 have:=h.ok.v b hb
 simp at hq
 rw [←hq.2];exact this
theorem S5 {e:Ex} {c:List Ex} (hl:c.length=e.ch.length) {n:Nat} (hc:∀y∈c,y.A0 n):(e.t8 c).A0 (n+1):=by
 rw [Ex.mm] at hl
 exact .mk (by rw [D9 hl];exact hc)
theorem S6 {sz:Nat} {l:List PV} (h1:1≤l.length) (hs:bF sz l=true):db false sz true false false [.pv (.aE l),.pv (.int .i64 1)]=some (.pv (.aE (l.drop 1))):=by
 have h2:(1:Int)≤l.length:=by omega
 simp [db,cN,eF,h2,hs]
def Ex.lL (x:Ex):List Int→Ex→Ex×Bool
 | [],_=>(x,true)
 | q::p,e=>if 0≤q∧q<e.ch.length then match e.ch[q.toNat]? with
     | some c=>match Ex.lL x p c with
       | (y,true)=>(e.t8 (e.ch.set q.toNat y),true)
       | (_,false)=>(e,false)
     | none=>(e,false)
   else (e,false)
theorem c359f {x:Ex}:∀(p:List Int) (e:Ex),p.length<1000000→Az e→(aL AP).p 359 [e.pv,.aE (p.map vI),x.pv]=some [(Ex.lL x p e).1.pv,.bool (Ex.lL x p e).2]
 | [],e,hp,he=>by
   rw [ah (af:=g359) rfl rfl (by decide)]
   simp [g359,Ex.lL]
 | q::p,e,hp,he=>by
   have hk:=he.ok.k
   have ha:=he.ok.a
   have hlen:=Ex.mm (e:=e)
   have hz:¬(p.length:Int)+1=0:=by omega
   simp at hp
   have no:(q<0∨e.ch.length≤q)→(aL AP).p 359 [e.pv,.aE ((q::p).map vI),x.pv]=some [e.pv,.bool false]:=by
     intro hq
     obtain ⟨k0,c1⟩:=c145i (e:=e) (A:=.pv (.aE (e.aY.map Ar.pv))) hk ha (X:=[]) (by intro cs h;simp at h) (.inl rfl)
     have cj:=c145j (e:=e) (X:=[])
     rw [c1] at cj
     clear c1
     by_cases z:e.ch=[]
     · rw [if_pos z] at cj
       have z0:e.ch.length=0:=by rw [z];rfl
       simp at cj
       rw [ah (af:=g359) rfl rfl (by decide)]
       by_cases q0:q<0
       · simp [g359,hz,cj,q0]
       · have q1:0≤q:=by omega
         simp [g359,hz,cj,q0,q1]
     · rw [if_neg z] at cj
       have hqn:=((gE k0).app (bN.one (dh (f:=Ex.cells) (l:=e.ch)))).norm
       have hqs:=((gE k0).app (bN.one (dh (f:=Ex.cells) (l:=e.ch)))).shift
       simp only [List.nil_append,List.length_nil,Nat.zero_add] at cj
       generalize nn k0++[some (cq Ex.cells e.ch)]=S0 at *
       simp at cj
       rw [ah (af:=g359) rfl rfl (by decide)]
       by_cases q0:q<0
       · simp [g359,hz,cj,q0,hqn,hqs]
       · have q1:(e.ch.length:Int)≤q:=by omega
         simp [g359,hz,cj,q0,q1,hqn,hqs]
   by_cases hq:0≤q∧q<e.ch.length
   · obtain ⟨q0,q1⟩:=hq
     obtain ⟨i,rfl⟩:∃i:Nat,q=i:=⟨q.toNat,by omega⟩
     have hi:i<e.ch.length:=by omega
     obtain ⟨c,hc⟩:=bM hi
     have hcm:=bA hc
     have k1:=c359f (x:=x) p c (by omega) (he.c hcm)
     generalize hpr:Ex.lL x p c=yb at k1
     obtain ⟨y,b⟩:=yb
     have hR:Ex.lL x ((i:Int)::p) e=if b=true then (e.t8 (e.ch.set i y),true) else (e,false):=by
       rw [Ex.lL,if_pos ⟨q0,q1⟩,Int.toNat_natCast,hc]
       simp only [hpr]
       cases b<;>rfl
     rw [hR]
     clear hR
     have z:¬e.ch=[]:=by intro z;rw [z] at hi;simp at hi
     obtain ⟨k0,c1⟩:=c145i (e:=e) (A:=.pv (.aE (e.aY.map Ar.pv))) hk ha (X:=[]) (by intro cs h;simp at h) (.inl rfl)
     have cj:=c145j (e:=e) (X:=[])
     rw [c1,if_neg z] at cj
     clear c1
     have hqn:=((gE k0).app (bN.one (dh (f:=Ex.cells) (l:=e.ch)))).norm
     have hqs:=((gE k0).app (bN.one (dh (f:=Ex.cells) (l:=e.ch)))).shift
     have hqn1:=((gE k0).app (bN.one (dh (f:=Ex.cells) (l:=e.ch.set i y)))).norm
     simp only [List.nil_append,List.length_nil,Nat.zero_add] at cj
     have hget:=rD eT hc (o:=0) (k:=11) (by omega)
     have ht:(((c.cells.drop 0).take 11).map AV.pv)=c.cl:=by
       rw [List.drop_zero,List.take_of_length_le (by rw [eT.len];omega),Ex.vC]
     rw [ht,Nat.add_zero] at hget
     have hset:=rE eT hc (y:=y) (o:=0) (vs:=y.cells) (by rw [eT.len];omega) (by
       have h1:=eT.len c
       have h2:=eT.len y
       simp [h1,h2])
     rw [Ex.vC,Nat.add_zero] at hset
     have hB:c_ (cq Ex.cells e.ch)=false:=eK dh
     have hlen2:(cq Ex.cells e.ch).length=e.ch.length*11:=eE eT
     have hle:i*11+11≤e.ch.length*11:=by omega
     have hs1:(nn k0++[some (cq Ex.cells e.ch)])[k0]?=some (some (cq Ex.cells e.ch)):=by simp
     have hs2:(nn k0++[some (cq Ex.cells e.ch)]).set k0 (some (cq Ex.cells (e.ch.set i y)))=nn k0++[some (cq Ex.cells (e.ch.set i y))]:=by simp
     have hs3:(nn k0++[some (cq Ex.cells (e.ch.set i y))])[k0]?=some (some (cq Ex.cells (e.ch.set i y))):=by simp
     have hlst:=LW (l:=e.ch.set i y)
     have hlen3:(cq Ex.cells (e.ch.set i y)).length=e.ch.length*11:=by rw [eE eT,List.length_set]
     rw [List.length_set] at hlst
     have c2:=c374 (e:=e) hk ha (c:=e.ch.set i y)
     have hsl:=S6 (sz:=1) (l:=(((i:Int)::p).map vI)) (by simp) (p8.head _)
     cases b with
     | false=>
       rw [if_neg (by simp)]
       generalize nn k0++[some (cq Ex.cells (e.ch.set i y))]=S1 at *
       generalize nn k0++[some (cq Ex.cells e.ch)]=S0 at *
       generalize cq Ex.cells (e.ch.set i y)=T1 at *
       generalize cq Ex.cells e.ch=T at *
       simp at cj k1 hsl
       simp [Ex.cl] at hget
       rw [ah (af:=g359) rfl rfl (by decide)]
       simp (disch:=omega) [-getElem?_pos,g359,hz,cj,q1,hi,hqn,hqs,hsl,hs1,hB,hlen2,hle,hget,k1]
     | true=>
       rw [if_pos rfl]
       generalize e.t8 (e.ch.set i y)=Y at *
       generalize nn k0++[some (cq Ex.cells (e.ch.set i y))]=S1 at *
       generalize nn k0++[some (cq Ex.cells e.ch)]=S0 at *
       generalize cq Ex.cells (e.ch.set i y)=T1 at *
       generalize cq Ex.cells e.ch=T at *
       simp at cj k1 hsl c2 hlst
       simp [Ex.cl] at hget hset
       rw [ah (af:=g359) rfl rfl (by decide)]
       simp (disch:=omega) [-getElem?_pos,g359,hz,cj,q1,hi,hqn,hqs,hqn1,hsl,hs1,hs2,hs3,hB,hlen2,hlen3,hle,hget,k1,hset,hlst,c2]
   · rw [Ex.lL,if_neg hq]
     exact no (by omega)
theorem QL {e:Ex} {c:List Ex} (hl:c.length=e.ch.length):(e.t8 c).sz=1+(c.map Ex.sz).sum:=by
 rw [Ex.mm] at hl
 rw [Ex.ph,D9 hl]
theorem QM {e:Ex} (h:mr e) {c:List Ex} (hl:c.length=e.ch.length) (hc:∀y∈c,mr y):mr (e.t8 c):=by
 rw [Ex.mm] at hl
 have hw:e.t8 c=⟨e.kind,e.pos,e.name,e.num,c.take e.kids.length,jF e.aY (c.drop e.kids.length),e.ty⟩:=by rw [Ex.t8,if_pos hl]
 have hno:e.aY=[]→jF e.aY (c.drop e.kids.length)=[]:=by intro q;rw [q];rfl
 have one:∀{a:Ex},e.kids=[a]→e.aY=[]→∃y∈c,c.take e.kids.length=[y]:=by
   intro a q1 q2
   rw [q1,q2] at hl
   match c,hl with
   | [y],_=>exact ⟨y,by simp,by rw [q1];rfl⟩
 have two:∀{a b:Ex},e.kids=[a,b]→e.aY=[]→∃y∈c,∃z∈c,c.take e.kids.length=[y,z]:=by
   intro a b q1 q2
   rw [q1,q2] at hl
   match c,hl with
   | [y,z],_=>exact ⟨y,by simp,z,by simp,by rw [q1];rfl⟩
 rw [hw]
 cases h with
 | leaf h1 h2 h3=>exact .leaf h1 (by simp [h2]) (hno h3)
 | lam h1 h2 h3 h4 _=>
   obtain ⟨y,hy,q⟩:=one h3 h4
   exact .lam h1 h2 q (hno h4) (hc y hy)
 | app h1 h2 h3 _ _=>
   obtain ⟨y,hy,z,hz,q⟩:=two h2 h3
   exact .app h1 q (hno h3) (hc y hy) (hc z hz)
 | xA h1 h2 h3 h4 _ _=>
   obtain ⟨y,hy,z,hz,q⟩:=two h3 h4
   exact .xA h1 h2 q (hno h4) (hc y hy) (hc z hz)
 | N1 h1 h2 h3 h4 h5 _=>
   obtain ⟨y,hy,q⟩:=one h2 h3
   exact .N1 h1 q (hno h3) h4 h5 (hc y hy)
 | held h1 h2 h3 _=>
   obtain ⟨y,hy,q⟩:=one h2 h3
   exact .held h1 q (hno h3) (hc y hy)
 | @qX _ a h1 h2 h3 h4 h5 h6=>
   rw [h2] at hl ⊢
   match c,hl with
   | [],hl=>simp at hl;omega
   | y::r,hl=>
     have hlr:r.length=e.aY.length:=by simp at hl;omega
     have hcv:=xF (as:=e.aY) (xs:=r)
     have hlen:(jF e.aY r).length=e.aY.length:=by have:=congrArg List.length hcv;simpa using this
     refine .qX h1 rfl (hc y (by simp)) (by simp only [List.length_singleton,List.drop_succ_cons,List.drop_zero];omega) ?_ ?_
     · intro x hx
       simp only [List.length_singleton,List.drop_succ_cons,List.drop_zero] at hx
       have:(x.gU,x.vars)∈e.aY.map (fun a=>(a.gU,a.vars)):=by rw [←hcv];exact List.mem_map_of_mem hx
       simp only [List.mem_map] at this
       obtain ⟨b,hb,hq⟩:=this
       simp at hq
       rw [←hq.1,←hq.2]
       exact h5 b hb
     · intro x hx
       simp only [List.length_singleton,List.drop_succ_cons,List.drop_zero] at hx
       have hb:=mz hlr
       have:x.body∈(jF e.aY r).map iw.body:=List.mem_map_of_mem hx
       rw [hb] at this
       exact hc _ (List.mem_cons_of_mem _ this)
theorem OK {l:List Ex} {i:Nat} {c y:Ex} (h:l[i]?=some c):((l.set i y).map Ex.sz).sum+c.sz=(l.map Ex.sz).sum+y.sz:=by
 induction l generalizing i with
 | nil=>simp at h
 | cons a r ih=>
   cases i with
   | zero=>simp at h;subst h;simp;omega
   | succ i=>
     have:=ih (i:=i) (by simpa using h)
     simp only [List.set_cons_succ,List.map_cons,List.sum_cons]
     omega
theorem Fp {x:Ex} (hx:Az x) {m:Nat} (hm:x.A0 m):∀(p:List Int) (e:Ex) (n:Nat),Az e→e.A0 n →
   Az (Ex.lL x p e).1∧(Ex.lL x p e).1.A0 (n+m)∧(mr x→mr e→mr (Ex.lL x p e).1)∧(Ex.lL x p e).1.sz≤e.sz+x.sz
 | [],e,n,he,hh=>⟨hx,km hm (by omega),fun h _=>h,by simp only [Ex.lL];omega⟩
 | q::p,e,n,he,hh=>by
   have stay:Az e∧e.A0 (n+m)∧(mr x→mr e→mr e)∧e.sz≤e.sz+x.sz:=⟨he,km hh (by omega),fun _ h=>h,by omega⟩
   rw [Ex.lL]
   split
   · rename_i hq
     split
     · rename_i c hc
       have hcm:=bA hc
       cases hh with
       | @mk n _ hh=>
         obtain ⟨h1,h2,h3,h4⟩:=Fp hx hm p c n (he.c hcm) (hh c hcm)
         split
         · rename_i y hy
           rw [hy] at h1 h2 h3 h4
           have hcl:(e.ch.set q.toNat y).length=e.ch.length:=by simp
           have hce:∀w∈e.ch.set q.toNat y,Az w:=by
             intro w hw
             rcases List.mem_or_eq_of_mem_set hw with hw | rfl
             · exact he.c hw
             · exact h1
           have hch:∀w∈e.ch.set q.toNat y,w.A0 (n+m):=by
             intro w hw
             rcases List.mem_or_eq_of_mem_set hw with hw | rfl
             · exact km (hh w hw) (by omega)
             · exact h2
           refine ⟨QK he hcl hce,by rw [show n+1+m=n+m+1 by omega];exact S5 hcl hch,fun tx te=>QM te hcl ?_,?_⟩
           · intro w hw
             rcases List.mem_or_eq_of_mem_set hw with hw | rfl
             · exact te.c w hw
             · exact h3 tx (te.c c hcm)
           · have:=OK (y:=y) hc
             simp only
             rw [QL hcl,e.ph]
             simp only at h4
             omega
         · exact stay
     · exact stay
   · exact stay
theorem c359 {x:Ex} (hx:Az x) {m:Nat} (hm:x.A0 m) (p:List Int) (e:Ex) (n:Nat) (hp:p.length<1000000) (he:Az e) (hh:e.A0 n):∃(y:Ex) (b:Bool),(aL AP).p 359 [e.pv,.aE (p.map vI),x.pv]=some [y.pv,.bool b]∧Az y∧y.A0 (n+m)∧(mr x→mr e→mr y)∧y.sz≤e.sz+x.sz:=
 ⟨_,_,c359f p e hp he,Fp hx hm p e n he hh⟩
end Go.Ab.Lw
namespace Go.Ab.Lw
open Ev
theorem gD.UI {ds:List Dt} (hD:t_ ds) {n:Nat} {e:Ex} (h:gD ds n e):vQ (12*(n+1)) e:=by
 have hD8:∀d∈ds,D8 d:=fun d hd=>D1 d (hD.all d hd)
 have hdn:∀d∈ds,d.name.length≤100:=fun d hd=>(ly d (hD.all d hd)).1
 induction h with
 | var hs=>exact (eM (.inl ⟨.inl rfl,gh _ hs⟩)).up (by omega)
 | int h0 h4=>exact (eM (.inr (.inl ⟨rfl,h0,h4⟩))).up (by omega)
 | gU hd hc=>exact (eM (.inl ⟨.inr rfl,(ly _ (hD.all _ hd)).2 _ hc⟩)).up (by omega)
 | gone=>exact (eM (.inl ⟨.inr rfl,by simp⟩)).up (by omega)
 | hole=>exact (eM (.inr (.inr rfl))).up (by omega)
 | lam hs _ ih=>exact fY (by decide) (by simp) iW iX (by simpa using ih) (.lam rfl (gh _ hs) rfl rfl ih.tx)
 | app _ _ iha ihb=>exact fY (by decide) (by simp) iW iX (by simpa using ⟨iha,ihb⟩) (.app rfl rfl rfl iha.tx ihb.tx)
 | xA hk hs _ _ iha ihb=>exact fY (by rcases hk with rfl | rfl<;>decide) (by simp) iW iX (by simpa using ⟨iha,ihb⟩) (.xA hk (gh _ hs) rfl rfl iha.tx ihb.tx)
 | N1 _ ht ih=>
   have g:=lz (fun d hd=>(hD8 d hd).1) hdn (by simp) ht
   have gn:=ht.small (fun d hd=>(hD8 d hd).1) (by simp)
   exact fY (by decide) (by simp) g.ok g.kn.cw (by simpa using ih) (.N1 rfl rfl rfl ((q8 hdn (by simp) ht).imp (fun k hk=>.inr hk)) (by simp only;omega) ih.tx)
 | held _ ih=>exact fY (by decide) (by simp) iW iX (by simpa using ih) (.held rfl rfl rfl ih.tx)
 | up _ ih=>exact ih.up (by omega)
 | @qX n d a as hd ha hl hb hv hc iha ihb=>
   obtain ⟨_,_,h8a,h8b⟩:=hD8 _ hd
   refine AW iha (by omega) fun x hx=>⟨?_,ihb x hx⟩
   have hvx:=(hv x hx).2
   obtain ⟨i,hi,rfl⟩:=List.getElem_of_mem hx
   obtain ⟨c,hcc⟩:=bM (show i<_ from hl ▸ hi)
   obtain ⟨q1,q2⟩:=hc i c _ hcc (List.getElem?_eq_getElem hi)
   have:=h8b c (bA hcc)
   exact ⟨by rw [q1];exact (ly _ (hD.all _ hd)).2 c (bA hcc),by omega,fun v hv'=>gh _ (hvx v hv')⟩
theorem Uc {L:List Int} {tm:Nat} {TP:Int→Sh} (hT:Tape L tm TP) {i:Nat}:(aL AP).i 162 [.aZ tm 0] (TP i) []=some ([.pv (.bool (decide (L.length≤i)))],TP i,[]):=by
 have tn:=hT.norm
 have tsh:=hT.shift
 have tl:=hT.take
 have tg:=hT.get
 rw [aP (af:=g162) rfl (by simp [g162])]
 simp [g162,tn,tsh,tl,tg]
def My (L:List Int) (ds:List Dt) (tm b N i:Nat) (path:List Int) (e:Ex) (n:Int) (S:Sh):St:=⟨[(2,.aB 2 0),(4,.aB 4 0),(5,.aZ tm 0),(6,.pv (vI i)),(7,.own (path.map vI) 0),(8,.aB 8 0),(9,.pv (vI n))],[(2,[.pv (.aE (ds.map Dt.pv)),.bz b 20 N true]),(4,[.own [] 1,.own [] 2]),(8,e.cl)],S,[path.length,0,0]⟩
def Mz (L:List Int) (ds:List Dt) (tm b N i:Nat) (path:List Int) (e:Ex) (n:Int) (S:Sh) (l:Bool):Option (bo×St):=some (.exit 0,⟨[(2,.aB 2 0),(4,.aB 4 0),(5,.aZ tm 0),(6,.pv (vI i)),(7,.own (path.map vI) 0),(8,.aB 8 0),(9,.pv (vI n))]++(if l then [(39,.pv (.bool false))] else [(10,.pv (.aE [])),(46,.pv (.bool true))]),[(2,[.pv (.aE (ds.map Dt.pv)),.bz b 20 N true]),(4,[.own [] 1,.own [] 2]),(8,e.cl)],S,[path.length,0,0]⟩)
theorem S7 {L:List Int} {tm:Nat} {TP:Int→Sh} (hT:Tape L tm TP) (hL:Sm L) {ds:List Dt} {b N i:Nat}:∀(n:Nat),n≤5→∀(path:List Int) (e:Ex) (I:Nat),path.length+n≤5→e.Ok→I≤L.length→∃(path':List Int) (e':Ex) (n':Int) (J:Nat) (l:Bool),path'.length≤5∧J≤L.length ∧
   cl AP g335L0 (My L ds tm b N i path e n (TP I))=Mz L ds tm b N i path' e' n' (TP J) l
 | 0,hn,path,e,I,hp,he,hI=>by
   have tn:=hT.norm
   refine ⟨path,e,0,I,true,by omega,hI,?_⟩
   rw [g335L0e]
   simp [g335B0,My,Mz,tn,Ex.cl]
 | n+1,hn,path,e,I,hp,he,hI=>by
   have tn:=hT.norm
   have tsh:=hT.shift
   have tl:=hT.take
   have k1:=c145 he
   have hk:=he.k
   have ha:=he.a
   have hlen:=Ex.mm (e:=e)
   have hn0:(0:Int)<(n:Int)+1:=by omega
   have hn1:(n:Int)+1-1=n:=by omega
   by_cases z:e.ch=[]
   · refine ⟨path,e,((n+1:Nat):Int),I,false,by omega,hI,?_⟩
     rw [z] at k1
     simp at k1
     rw [g335L0e]
     simp [g335B0,My,Mz,tn,Ex.cl,hn0,k1]
   · have hpos:0<e.ch.length:=List.length_pos_iff.2 z
     obtain ⟨r,j,e1,r0,r1,hj⟩:=oj hT hL hI (n:=e.ch.length) (by omega) (by omega)
     obtain ⟨r,rfl,hr⟩:=nY r0 r1
     obtain ⟨x,hx⟩:=bM hr
     obtain ⟨path',e',n',J,l,q1,q2,ih⟩:=S7 hT hL (ds:=ds) (b:=b) (N:=N) (i:=i) n (by omega) (path++[(r:Int)]) x j (by simp;omega) (he.c x (bA hx)) hj
     refine ⟨path',e',n',J,l,q1,q2,?_⟩
     have hb:(path.length+1)*8≤140737488355328:=by omega
     have hh:bF 1 (path.map vI)=true:=p8.head path
     rw [←ih]
     simp at k1 e1
     conv=>lhs;rw [g335L0e]
     simp (disch:=omega) [-getElem?_pos,g335B0,My,tn,tsh,tl,Ex.cl,hn0,hn1,k1,z,e1,hx,hb,hh,az]
end Go.Ab.Lw
namespace Go.Ab.Lw
open Ev
theorem QN {L:List Int} {j:Int}:bN [some [AV.pv (.aE (L.map vI)),AV.pv (vI j)]]:=bN.one (by intro v hv;simp at hv;rcases hv with rfl | rfl<;>exact ⟨_,rfl⟩)
theorem MA {L:List Int} {S:Sh} (hS:bN S):Tape L S.length (fun j=>S++[some [.pv (.aE (L.map vI)),.pv (vI j)]]) where
 get:=fun i=>by simp
 set:=fun i j=>by simp
 quiet:=fun i=>hS.app QN
theorem Ef {S:Sh} (hS:bN S) {b:Nat}:bN (S.set b none):=by
 intro cs hcs
 rcases List.mem_or_eq_of_mem_set hcs with h | h
 · exact hS cs h
 · cases h
theorem IZ {S:Sh} (hS:bN S) {b:Nat} {cs:List AV} (h:∀v∈cs,∃p,v=AV.pv p):bN (S.set b (some cs)):=by
 intro c hc
 rcases List.mem_or_eq_of_mem_set hc with q | q
 · exact hS c q
 · cases q;exact h
def Bd.put (b:Bd) (e:Ex):Bd:={ b with body:=e }
theorem xN (b:Bd) (e:Ex):(b.put e).cells=b.cells.take 9++e.cells++b.cells.drop (9+e.cells.length):=by
 have h1:=eT.len e
 have h2:=eT.len b.body
 simp [Bd.cells,Bd.put,h1,h2]
theorem qi.up {n m:Nat} {b:Bd} (h:qi n b) (hm:n≤m):qi m b:=⟨h.sc,km h.h hm,h.so,h.sw,h.sn,h.nm,h.st,Nat.le_trans h.w (Nat.mul_le_mul_left _ hm),h.tx⟩
structure QO (Q:Nat) (ds:List Dt) (bs:List Bd) (b:Nat) (S:Sh):Prop where
 d:t_ ds
 pos:0<bs.length
 len:bs.length≤4
 ok:∀x∈bs,qi Q x
 quiet:bN S
 IK:S[b]?=some (some (cq Bd.cells bs))
theorem c335 {M:List Int} (hM:Sm M) {ds:List Dt} {bs:List Bd} {b:Nat} {S:Sh} (H:QO 100 ds bs b S):∃(bs':List Bd) (b':Nat) (S':Sh),bs'.length=bs.length∧QO 200 ds bs' b' S' ∧
   (aL AP).i 335 [.agg [.pv (.aE (ds.map Dt.pv)),.bz b 20 bs.length true],.pv (.aE (M.map vI))] S []=some ([.agg [.pv (.aE (ds.map Dt.pv)),.bz b' 20 bs'.length true]],S',[]):=by
 obtain ⟨hD,hpos,h4,ho,hS,hb⟩:=H
 have hbl:b<S.length:=(List.getElem?_eq_some_iff.1 hb).1
 have hT:=MA (L:=M) hS
 have hT0:∀j:Int,(S++[some [.pv (.aE (M.map vI)),.pv (vI j)]])=(fun j=>S++[some [.pv (.aE (M.map vI)),.pv (vI j)]]) j:=fun _=>rfl
 have hget:∀j:Int,((fun j=>S++[some [.pv (.aE (M.map vI)),.pv (vI j)]]) j:Sh)[b]?=some (some (cq Bd.cells bs)):=fun j=>by simp [List.getElem?_append_left hbl,hb]
 have hkill:∀j:Int,((fun j=>S++[some [.pv (.aE (M.map vI)),.pv (vI j)]]) j:Sh).set b none=S.set b none++[some [.pv (.aE (M.map vI)),.pv (vI j)]]:=fun j=>by simp [List.set_append_left,hbl]
 have hlen:∀j:Int,((fun j=>S++[some [.pv (.aE (M.map vI)),.pv (vI j)]]) j:Sh).length=S.length+1:=fun j=>by simp
 generalize hTP:(fun j:Int=>S++[some [AV.pv (.aE (M.map vI)),AV.pv (vI j)]])=TP at *
 have tn:=hT.norm
 have tsh:=hT.shift
 have tl:=hT.take
 have k0:=Uc hT (i:=0)
 have nS:=hS.norm
 have sS:=hS.shift
 have hz:bs≠[]:=List.length_pos_iff.1 hpos
 have r1:(cq Bd.cells bs).length=bs.length*20:=eE mE
 have hB:c_ (cq Bd.cells bs)=false:=eK dh
 have h0:=hT0 0
 by_cases hE:M=[]
 · refine ⟨bs,b,S,rfl,⟨hD,hpos,h4,fun x hx=>(ho x hx).up (by omega),hS,hb⟩,?_⟩
   have ht:List.take S.length (TP 0)=S:=by rw [←h0];simp
   subst hE
   simp at k0 h0
   rw [aP (af:=g335) rfl (by simp [g335])]
   simp [g335,hz,k0,tn,tsh,nS,sS,h0,hbl,ht]
 · have hMp:0<M.length:=List.length_pos_iff.2 hE
   have hM0:¬M.length≤0:=by omega
   rw [decide_eq_false hM0] at k0
   obtain ⟨q,j1,e1,q0,q1,hj1⟩:=oj hT hM (i:=0) (by omega) (n:=bs.length) (by omega) (by omega)
   obtain ⟨i,rfl,hi⟩:=nY q0 q1
   obtain ⟨x,hx⟩:=bM hi
   have hxo:=ho x (bA hx)
   obtain ⟨n,j2,e2,n0,n1,hj2⟩:=oj hT hM hj1 (n:=5) (by omega) (by omega)
   obtain ⟨n,rfl,hn⟩:=nY (n:=5) n0 (by simpa using n1)
   obtain ⟨path,ex,n',J,l,hp,hJ,e3⟩:=S7 hT hM (ds:=ds) (b:=b) (N:=bs.length) (i:=i) n (by omega) [] x.body j2 (by simp;omega) hxo.sc.ok hj2
   have hS2:=Ef hS (b:=b)
   have hT2:=Fj (L:=M) (A:=S.set b none) (B:=[some (cq Bd.cells bs)]) hS2 (bN.one dh)
   rw [List.length_set] at hT2
   have hk2:∀j:Int,(TP j).set b none++[some (cq Bd.cells bs)]=(fun i:Int=>S.set b none++[some [.pv (.aE (M.map vI)),.pv (vI i)]]++[some (cq Bd.cells bs)]) j:=fun j=>by rw [hkill]
   have hk3:∀j:Int,S.set b none++[some [.pv (.aE (M.map vI)),.pv (vI j)],some (cq Bd.cells bs)]=(fun i:Int=>S.set b none++[some [.pv (.aE (M.map vI)),.pv (vI i)]]++[some (cq Bd.cells bs)]) j:=fun j=>by simp
   have hg2:∀j:Int,((fun i:Int=>S.set b none++[some [.pv (.aE (M.map vI)),.pv (vI i)]]++[some (cq Bd.cells bs)]) j:Sh)[S.length+1]?=some (some (cq Bd.cells bs)):=fun j=>by simp [List.getElem?_append_right]
   have hs2:∀(j:Int) (c:List Bd),∃S',((fun i:Int=>S.set b none++[some [.pv (.aE (M.map vI)),.pv (vI i)]]++[some (cq Bd.cells bs)]) j:Sh).set (S.length+1) (some (cq Bd.cells c))=S'∧bN S'∧S'[S.length+1]?=some (some (cq Bd.cells c)):=fun j c=>⟨_,rfl,IZ (hT2.quiet j) dh,by simp [List.getElem?_append_right,List.set_append_right]⟩
   generalize (fun i:Int=>S.set b none++[some [AV.pv (.aE (M.map vI)),AV.pv (vI i)]]++[some (cq Bd.cells bs)])=TQ at *
   have un:=hT2.norm
   have ush:=hT2.shift
   have ul:=hT2.take
   obtain ⟨y,f1,f2,f3,j4,e4,hy,hj4⟩:=SQ hT2 hM (ds:=ds) (by have:=hD.len;omega) (fun d hd=>D1 d (hD.all d hd)) 2 (by omega) J hJ
   have hyE:=hy.UI hD
   have hA:=ez f1 f2 f3 y
   generalize eB f1 f2 f3 y=A at e4 hA
   have ac:=Ex.bQ y
   obtain ⟨w,ok,k5,w1,w2,w3,w4⟩:=c359 hyE.sc hyE.h path x.body 100 (by omega) hxo.sc hxo.h
   obtain ⟨S',s1,s2,s3⟩:=hs2 j4 (bs.set i (x.put w))
   refine ⟨bs.set i (x.put w),S.length+1,S',by simp,⟨hD,by simpa using hpos,by simpa using h4,?_,s2,s3⟩,?_⟩
   · intro z hz
     rcases List.mem_or_eq_of_mem_set hz with hz | rfl
     · exact (ho z hz).up (by omega)
     · exact ⟨w1,km w2 (by omega),hxo.so,hxo.sw,hxo.sn,hxo.nm,hxo.st,by have h1:=hxo.w;have h2:=hyE.w;rw [tO] at h2;change w.sz≤_;omega,w3 hyE.tx hxo.tx⟩
   · have hsub:=rD mE hx (o:=9) (k:=11) (by omega)
     have nk:(((x.cells.drop 9).take 11).map AV.pv)=x.body.cl:=by
       have h2:=eT.len x.body
       have h3:(x.cells.drop 9).take 11=x.body.cells:=by
         simp only [Bd.cells,List.cons_append,List.nil_append,List.drop_succ_cons,List.drop_zero]
         exact List.take_of_length_le (by omega)
       rw [h3,Ex.vC]
     rw [nk] at hsub
     have hset:=rE mE hx (y:=x.put w) (o:=9) (vs:=w.cells) (by rw [eT.len];omega) (xN x w)
     rw [Ex.vC] at hset
     have hle:i*20+9+11≤bs.length*20:=by omega
     have hlst:=Ee (l:=bs)
     have hmap:=QJ (l:=bs)
     have hbb:bs.length*256≤140737488355328:=by omega
     have hib:(i:Int)<bs.length:=by omega
     have hg2':=hg2 j4
     have hnl:¬S.length+1<S.length:=by omega
     have hf:∀S:Sh,dL S (.aB 2 0)=none:=fun _=>rfl
     have hxpv:(bs.map Bd.pv)[i]?=some x.pv:=by simp [hx]
     have hn5:(n:Int)<5:=by omega
     have nS':=s2.norm
     have sS':=s2.shift
     clear hS2 hT2 hs2 hT hTP
     generalize cq Bd.cells (bs.set i (x.put w))=F2 at *
     generalize cq Bd.cells bs=F at *
     rw [g335L0e] at e3
     simp [My,Ex.cl,tn] at e3
     simp at k0 e1 e2 e4 k5
     simp [Ex.cl] at hsub hset
     rw [aP (af:=g335) rfl (by simp [g335])]
     cases l with
     | true=>
       simp [Mz,Ex.cl] at e3
       simp (disch:=omega) [-getElem?_pos,g335,hz,k0,tn,tsh,tl,un,ush,ul,nS,sS,h0,hbl,e1,hget,hB,r1,hle,hsub,hx,hi,e2,g335L0e,e3,hlst,hk3,hkill,hmap,hbb,e4,hlen,hA.dL,hA.flat,hA.iP,hA.len,hA.leaf,ac,k5,hg2',hset,s1,hf,hnl,nS',sS']
     | false=>
       simp [Mz,Ex.cl] at e3
       simp (disch:=omega) [-getElem?_pos,g335,hz,k0,tn,tsh,tl,un,ush,ul,nS,sS,h0,hbl,e1,hget,hB,r1,hle,hsub,hx,hi,e2,g335L0e,e3,hlst,hk3,hkill,hmap,hbb,e4,hlen,hA.dL,hA.flat,hA.iP,hA.len,hA.leaf,ac,k5,hg2',hset,s1,hf,hnl,nS',sS']
end Go.Ab.Lw
namespace Go.Ab.Lw
open Ev
theorem S8 {sz:Nat} {l:List PV} {k:Nat} (h:k≤l.length) (hs:bF sz l=true):db false sz true false false [.pv (.aE l),.pv (.int .i64 (k:Int))]=some (.pv (.aE (l.drop k))):=by
 have h2:(k:Int)≤l.length:=by omega
 simp [db,cN,eF,h2,hs]
theorem c310 {L:List Int} (hL:L.length≤100000) (bits way:Int):∃(ds:List Dt) (bs:List Bd),t_ ds∧0<bs.length∧bs.length≤4∧(∀x∈bs,qi 200 x) ∧
   (aL AP).p 310 [vI bits,.aE (L.map vI),vI way]=some [.agg [.aE (ds.map Dt.pv),.aE (bs.map Bd.pv)]]:=by
 obtain ⟨ds,bs,k,j,hD,h0,h4,ho,k1⟩:=c306 (by unfold Sm;omega:Sm L) bits
 have H:QO 100 ds bs (1+k) (rQ L k bs j):=⟨hD,h0,h4,ho,(jE (L:=L)).quiet j,Fl⟩
 generalize rQ L k bs j=S at *
 have tn:=H.quiet.norm
 have tsh:=H.quiet.shift
 obtain ⟨r,k2,r0,r1⟩:=c26 (n:=way) (m:=3) (by omega) (by omega)
 by_cases hr:r=1
 · obtain ⟨bs',b',S',hl,H',k3⟩:=c335 (M:=L.drop (min L.length 3)) (by unfold Sm;simp;omega) H
   refine ⟨ds,bs',H'.d,H'.pos,H'.len,H'.ok,?_⟩
   have tn':=H'.quiet.norm
   have tsh':=H'.quiet.shift
   have g:=H'.IK
   have rl:(cq Bd.cells bs').length=bs'.length*20:=eE mE
   have hlst:=Ee (l:=bs')
   have hmn:(if (3:Int)<L.length then (3:Int) else L.length)=((min L.length 3:Nat):Int):=by split<;>omega
   have hsl:=S8 (sz:=1) (l:=L.map vI) (k:=min L.length 3) (by simp;omega) (p8.head L)
   generalize min L.length 3=q at *
   generalize cq Bd.cells bs'=F at *
   subst hr
   simp at k1 k2 k3 hsl hlst
   rw [ah (af:=g310) rfl rfl (by decide)]
   simp [vG,EX,EY,AA,g310,k1,k2,hmn,hsl,k3,tn,tsh,tn',tsh',aI,g,rl,hlst]
 · refine ⟨ds,bs,hD,h0,h4,fun x hx=>(ho x hx).up (by omega),?_⟩
   have g:=H.IK
   have rl:(cq Bd.cells bs).length=bs.length*20:=eE mE
   have hlst:=Ee (l:=bs)
   generalize cq Bd.cells bs=F at *
   simp at k1 k2 hlst
   rw [ah (af:=g310) rfl rfl (by decide)]
   simp [g310,k1,k2,hr,tn,tsh,aI,g,rl,hlst]
end Go.Ab.Lw
namespace Go.Ab.Lw
open Ev
def t6 (x:Ty):cm:=match (Fc.DW AP 400 40).p 270 [x.pv] with | some [.str s]=>s | _=>[]
def pA:Nat→List nc→cm
 | _,[]=>[]
 | i,c::r=>(if i=0 then [] else [32,124])++((32::c.name)++(c.fields.flatMap (fun x=>32::t6 x)++pA (i+1) r))
def t7 (d:Dt):cm:=[100,97,116,97,32]++(d.name++(d.params.flatMap (fun s=>32::s)++([32,61]++(pA 0 d.cons++[59,10]))))
theorem c270f:∀d∈bU,∀c∈d.cons,∀x∈c.fields,(aL AP).p 270 [x.pv]=some [.str (t6 x)]:=by
 intro d hd c hc x hx
 simp only [bU,List.mem_cons,List.not_mem_nil,or_false] at hd
 rcases hd with rfl | rfl | rfl | rfl | rfl | rfl | rfl<;>simp only [List.mem_cons,List.not_mem_nil,or_false] at hc <;>
   rcases hc with rfl | rfl<;>simp only [List.mem_cons,List.not_mem_nil,or_false] at hx<;>rcases hx with rfl | rfl<;>exact Fc.NT (k:=400) (n:=40) (by kernel_rfl)
theorem c336:∀d∈bU,(aL AP).p 336 [d.pv]=some [.str (t7 d)]:=by
 intro d hd
 simp only [bU,List.mem_cons,List.not_mem_nil,or_false] at hd
 rcases hd with rfl | rfl | rfl | rfl | rfl | rfl | rfl<;>exact Fc.NT (k:=400) (n:=40) (by kernel_rfl)
theorem AY:∀d∈bU,(t7 d).length≤1000:=by
 intro d hd
 simp only [bU,List.mem_cons,List.not_mem_nil,or_false] at hd
 rcases hd with rfl | rfl | rfl | rfl | rfl | rfl | rfl<;>exact of_decide_eq_true (by kernel_rfl)
def pB (ds:List Dt) (bs:List Bd):List AV:=[.pv (.aE (ds.map Dt.pv)),.pv (.aE (bs.map Bd.pv))]
def dC (d:Dt):List AV:=[.pv (vI d.pos),.pv (.str d.name),.pv (.aE (d.params.map .str)),.pv (.aE (d.cons.map nc.pv))]
theorem Pw {ds:List Dt} {bs:List Bd} {d:Dt} {I:Nat} (hP:d.params.length≤1000):∀(n k:Nat),d.params.length-k=n→k≤d.params.length→∀acc:cm,acc.length+((d.params.drop k).flatMap fun s=>32::s).length≤1000000000000000000 →
   cl AP g312L1 ⟨[(1,.aB 1 0),(3,.pv (.str acc)),(4,.pv (vI I)),(5,.aB 5 0),(6,.pv (vI k))],[(1,pB ds bs),(5,dC d)],[],[]⟩ =
     some (.exit 2,⟨[(1,.aB 1 0),(3,.pv (.str (acc++(d.params.drop k).flatMap fun s=>32::s))),(4,.pv (vI I)),(5,.aB 5 0),(6,.pv (vI d.params.length)),(32,.pv (.bool false))],[(1,pB ds bs),(5,dC d)],[],[]⟩)
 | 0,k,hn,hk,acc,ha=>by
   have:k=d.params.length:=by omega
   subst this
   rw [g312L1e]
   simp [g312B1,pB,dC]
 | n+1,k,hn,hk,acc,ha=>by
   have hk:k<d.params.length:=by omega
   obtain ⟨s,hs⟩:=bM hk
   rw [cX hs,List.flatMap_cons] at ha ⊢
   simp only [List.length_append,List.length_cons] at ha
   have ih:=Pw (ds:=ds) (bs:=bs) (d:=d) (I:=I) hP n (k+1) (by omega) (by omega) (acc++32::s) (by simp only [List.length_append,List.length_cons];omega)
   have hs':(d.params.map PV.str)[k]?=some (.str s):=by simp [hs]
   generalize (d.params.drop (k+1)).flatMap (fun s=>32::s)=R at *
   rw [g312L1e] at ih ⊢
   simp [pB,dC] at ih
   simp (disch:=first | omega | (simp only [List.length_append,List.length_cons,List.length_nil];omega)) [-bK,cz,-getElem?_pos,g312B1,pB,dC,hk,hs,az]
   rw [g312L1e]
   simp [ih]
theorem Px {ds:List Dt} {bs:List Bd} {d:Dt} {c:nc} {I J:Nat} (hc:d.cons[J]?=some c) (hF:c.fields.length≤1000) (hf:∀x∈c.fields,(aL AP).p 270 [x.pv]=some [.str (t6 x)]):∀(n k:Nat),c.fields.length-k=n→k≤c.fields.length→∀acc:cm,acc.length+((c.fields.drop k).flatMap fun x=>32::t6 x).length≤1000000000000000000 →
   cl AP g312L3 ⟨[(1,.aB 1 0),(3,.pv (.str acc)),(4,.pv (vI I)),(5,.aB 5 0),(7,.pv (vI J)),(8,.pv (vI k))],[(1,pB ds bs),(5,dC d)],[],[]⟩ =
     some (.exit 6,⟨[(1,.aB 1 0),(3,.pv (.str (acc++(c.fields.drop k).flatMap fun x=>32::t6 x))),(4,.pv (vI I)),(5,.aB 5 0),(7,.pv (vI J)),(8,.pv (vI c.fields.length)),(73,.pv (.bool false))],[(1,pB ds bs),(5,dC d)],[],[]⟩)
 | 0,k,hn,hk,acc,ha=>by
   have:k=c.fields.length:=by omega
   subst this
   have hJ:=(List.getElem?_eq_some_iff.1 hc).1
   rw [g312L3e]
   simp [-getElem?_pos,g312B3,pB,dC,hc,hJ]
 | n+1,k,hn,hk,acc,ha=>by
   have hk:k<c.fields.length:=by omega
   have hJ:=(List.getElem?_eq_some_iff.1 hc).1
   obtain ⟨x,hx⟩:=bM hk
   have kx:=hf x (bA hx)
   rw [cX hx,List.flatMap_cons] at ha ⊢
   simp only [List.length_append,List.length_cons] at ha
   have ih:=Px (ds:=ds) (bs:=bs) (I:=I) hc hF hf n (k+1) (by omega) (by omega) (acc++32::t6 x) (by simp only [List.length_append,List.length_cons];omega)
   generalize t6 x=s at *
   generalize (c.fields.drop (k+1)).flatMap (fun x=>32::t6 x)=R at *
   rw [g312L3e] at ih ⊢
   simp [pB,dC] at ih
   simp at kx
   simp (disch:=first | omega | (simp only [List.length_append,List.length_cons,List.length_nil];omega)) [-bK,cz,-getElem?_pos,g312B3,pB,dC,hc,hJ,hk,hx,kx,az]
   rw [g312L3e]
   simp [ih]
theorem Py {ds:List Dt} {bs:List Bd} {d:Dt} {I:Nat} (hC:d.cons.length≤1000) (hF:∀c∈d.cons,c.fields.length≤1000) (hf:∀c∈d.cons,∀x∈c.fields,(aL AP).p 270 [x.pv]=some [.str (t6 x)]):∀(n k:Nat),d.cons.length-k=n→k≤d.cons.length→∀acc:cm,acc.length+(pA k (d.cons.drop k)).length≤1000000000000000000 →
   cl AP g312L2 ⟨[(1,.aB 1 0),(3,.pv (.str acc)),(4,.pv (vI I)),(5,.aB 5 0),(7,.pv (vI k))],[(1,pB ds bs),(5,dC d)],[],[]⟩ =
     some (.exit 4,⟨[(1,.aB 1 0),(3,.pv (.str (acc++pA k (d.cons.drop k)))),(4,.pv (vI I)),(5,.aB 5 0),(7,.pv (vI d.cons.length)),(49,.pv (.bool false))],[(1,pB ds bs),(5,dC d)],[],[]⟩)
 | 0,k,hn,hk,acc,ha=>by
   have:k=d.cons.length:=by omega
   subst this
   rw [g312L2e]
   simp [g312B2,pB,dC,pA]
 | n+1,k,hn,hk,acc,ha=>by
   have hk:k<d.cons.length:=by omega
   obtain ⟨c,hc⟩:=bM hk
   rw [cX hc] at ha ⊢
   simp only [pA] at ha ⊢
   simp only [List.length_append,List.length_cons] at ha
   have ih:=Py (ds:=ds) (bs:=bs) (I:=I) hC hF hf n (k+1) (by omega) (by omega) (acc++((if k=0 then [] else [32,124])++((32::c.name)++(c.fields.flatMap fun x=>32::t6 x)))) (by simp only [List.length_append,List.length_cons];omega)
   have h3:=Px (ds:=ds) (bs:=bs) (I:=I) hc (hF c (bA hc)) (hf c (bA hc)) _ 0 rfl (by omega) (acc++((if k=0 then [] else [32,124])++(32::c.name))) (by simp only [List.length_append,List.length_cons,List.drop_zero];omega)
   rw [List.drop_zero] at h3
   generalize c.fields.flatMap (fun x=>32::t6 x)=F at *
   generalize pA (k+1) (d.cons.drop (k+1))=R at *
   rw [g312L3e] at h3
   rw [g312L2e] at ih ⊢
   by_cases z:k=0
   · subst z
     simp [pB,dC] at ih h3 ha
     simp (disch:=first | omega | (simp only [List.length_append,List.length_cons,List.length_nil];omega)) [-bK,cz,-getElem?_pos,g312B2,pB,dC,hc,hk,az,g312L3e,h3]
     rw [g312L2e]
     simp [ih]
   · have z0:0<k:=by omega
     simp [pB,dC,z] at ih h3 ha
     simp (disch:=first | omega | (simp only [List.length_append,List.length_cons,List.length_nil];omega)) [-bK,cz,-getElem?_pos,g312B2,pB,dC,hc,hk,z,z0,az,g312L3e,h3]
     rw [g312L2e]
     simp [ih]
theorem S9 {ds:List Dt} {bs:List Bd} (hD:∀d∈ds,d∈bU) (hL:ds.length≤1000):∀(n i:Nat),ds.length-i=n→i≤ds.length→∀acc:cm,acc.length+((ds.drop i).flatMap t7).length≤1000000000000000000 →
   cl AP g312L0 ⟨[(1,.aB 1 0),(3,.pv (.str acc)),(4,.pv (vI i))],[(1,pB ds bs)],[],[]⟩ =
     some (.exit 0,⟨[(1,.aB 1 0),(3,.pv (.str (acc++(ds.drop i).flatMap t7))),(4,.pv (vI ds.length)),(15,.pv (.bool false))],[(1,pB ds bs)],[],[]⟩)
 | 0,i,hn,hi,acc,ha=>by
   have:i=ds.length:=by omega
   subst this
   rw [g312L0e]
   simp [g312B0,pB]
 | n+1,i,hn,hi,acc,ha=>by
   have hi:i<ds.length:=by omega
   obtain ⟨d,hd⟩:=bM hi
   have hda:=hD d (bA hd)
   rw [cX hd,List.flatMap_cons] at ha ⊢
   simp only [List.length_append] at ha
   have ih:=S9 (bs:=bs) hD hL n (i+1) (by omega) (by omega) (acc++t7 d) (by simp only [List.length_append];omega)
   have hl:=AY d hda
   obtain ⟨e1,_,e2,e3⟩:=D1 d hda
   unfold t7 at ih ha hl ⊢
   simp only [List.length_append,List.length_cons,List.length_nil] at ha hl
   have h1:=Pw (ds:=ds) (bs:=bs) (d:=d) (I:=i) (by omega) _ 0 rfl (by omega) (acc++([100,97,116,97,32]++d.name)) (by simp only [List.length_append,List.length_cons,List.length_nil,List.drop_zero];omega)
   rw [List.drop_zero] at h1
   have h2:=Py (ds:=ds) (bs:=bs) (d:=d) (I:=i) (by omega) (fun c hc=>by have:=e3 c hc;omega) (c270f d hda) _ 0 rfl (by omega) (acc++([100,97,116,97,32]++d.name)++(d.params.flatMap fun s=>32::s)++[32,61]) (by simp only [List.length_append,List.length_cons,List.length_nil,List.drop_zero];omega)
   rw [List.drop_zero] at h2
   generalize hR:(ds.drop (i+1)).flatMap (fun d=>[100,97,116,97,32]++(d.name++(d.params.flatMap (fun s=>32::s)++([32,61]++(pA 0 d.cons++[59,10])))))=R at *
   generalize d.params.flatMap (fun s=>32::s)=Pp at *
   generalize pA 0 d.cons=Cc at *
   rw [g312L1e] at h1
   rw [g312L2e] at h2
   rw [g312L0e] at ih ⊢
   simp [pB,dC] at ih h1 h2
   simp (disch:=first | omega | (simp only [List.length_append,List.length_cons,List.length_nil];omega)) [-bK,cz,-getElem?_pos,g312B0,pB,dC,hd,hi,az,g312L1e,h1]
   simp (disch:=first | omega | (simp only [List.length_append,List.length_cons,List.length_nil];omega)) [-bK,cz,-getElem?_pos,pB,dC,az,g312L2e,h2]
   rw [g312L0e]
   simp [ih]
end Go.Ab.Lw
namespace Go.Ab.Lw
open Ev
theorem Pz:gT AP:=⟨rfl,rfl,rfl,rfl,rfl,rfl,rfl,rfl,rfl,rfl⟩
def I0 (b:Bd) (p:cm×cm):cm:=[108,101,116,32]++((if b.rc=true then [114,101,99,32] else [])++(b.name++((if b.sg=true then [32,58,32]++p.1 else [])++([32,61,32]++(p.2++[59,10])))))
structure Tq (b:Bd) (p:cm×cm):Prop where
 t:(aL AP).p 263 [b.sig.pv]=some [.str p.1]
 e:(aL AP).p 249 [b.body.pv]=some [.str p.2]
 l1:p.1.length≤10000
 l2:p.2.length≤28000000000000
 n:b.name.length≤100
 k:(aL AP).p 337 [b.pv]=some [.str (I0 b p)]
theorem c337 {b:Bd} (h:qi 200 b):∃p,Tq b p:=by
 obtain ⟨s,ls,k1,k2⟩:=ET Pz b.sig h.st (by have:=h.sn;omega)
 have hw:=h.w
 have hsn:=h.sn
 have hn:=h.nm
 obtain ⟨u,lu,k3,k4⟩:=Ob Pz h.tx (by omega)
 refine ⟨(s,u),k2,k4,by simp only;omega,by simp only;omega,hn,?_⟩
 rw [ah (af:=g337) rfl rfl (by decide)]
 simp at k1 k3
 cases hr:b.rc<;>cases hs:b.sg <;>
   simp (disch:=first | omega | (simp only [List.length_append,List.length_cons,List.length_nil];omega)) [-bK,cz,g337,I0,hr,hs,k1,k3]
theorem OL {b:Bd} {p:cm×cm} (h:Tq b p):(I0 b p).length≤28000000020000:=by
 have h1:=h.l1
 have h2:=h.l2
 have h3:=h.n
 unfold I0
 cases b.rc<;>cases b.sg<;>simp<;>omega
theorem PA {ds:List Dt} {bs:List Bd} {f:Bd→cm×cm} (hf:∀b∈bs,Tq b (f b)) (hL:bs.length≤1000):∀(n i:Nat),bs.length-i=n→i≤bs.length→∀acc:cm,acc.length+((bs.drop i).flatMap fun b=>I0 b (f b)).length≤1000000000000000000 →
   cl AP g312L4 ⟨[(1,.aB 1 0),(3,.pv (.str acc)),(9,.pv (vI i))],[(1,pB ds bs)],[],[]⟩ =
     some (.exit 8,⟨[(1,.aB 1 0),(3,.pv (.str (acc++(bs.drop i).flatMap fun b=>I0 b (f b)))),(9,.pv (vI bs.length)),(95,.pv (.bool false))],[(1,pB ds bs)],[],[]⟩)
 | 0,i,hn,hi,acc,ha=>by
   have:i=bs.length:=by omega
   subst this
   rw [g312L4e]
   simp [g312B4,pB]
 | n+1,i,hn,hi,acc,ha=>by
   have hi:i<bs.length:=by omega
   obtain ⟨b,hb⟩:=bM hi
   have X:=hf b (bA hb)
   rw [cX hb,List.flatMap_cons] at ha ⊢
   simp only [List.length_append] at ha
   have ih:=PA (ds:=ds) hf hL n (i+1) (by omega) (by omega) (acc++I0 b (f b)) (by simp only [List.length_append];omega)
   generalize (bs.drop (i+1)).flatMap (fun b=>I0 b (f b))=R at *
   obtain ⟨k1,k2,l1,l2,hn2,_⟩:=X
   generalize hp:f b=p at *
   obtain ⟨s,u⟩:=p
   simp only [I0] at ih ha k1 k2 l1 l2 ⊢
   simp only [List.length_append,List.length_cons,List.length_nil] at ha
   rw [g312L4e] at ih ⊢
   simp at k1 k2
   cases hr:b.rc<;>cases hs:b.sg<;>simp [pB,hr,hs] at ih ha <;>
     simp (disch:=first | omega | (simp only [List.length_append,List.length_cons,List.length_nil];omega)) [-bK,cz,-getElem?_pos,g312B4,pB,hb,hi,hr,hs,k1,k2,az] <;>
     rw [g312L4e]<;>simp [ih]
theorem vV {α:Type} {l:List α} {g:α→cm} {M:Nat} (h:∀x∈l,(g x).length≤M):(l.flatMap g).length≤l.length*M:=by
 induction l with
 | nil=>simp
 | cons a r ih=>
   have h1:=h a (by simp)
   have h2:=ih fun x hx=>h x (by simp [hx])
   simp only [List.flatMap_cons,List.length_append,List.length_cons,Nat.add_mul]
   omega
theorem c312 {ds:List Dt} {bs:List Bd} (hD:t_ ds) (h4:bs.length≤4) (ho:∀b∈bs,qi 200 b):∃s:cm,s.length≤130000000000000 ∧
   (aL AP).p 312 [.agg [.aE (ds.map Dt.pv),.aE (bs.map Bd.pv)]]=some [.str s]∧(aL AP).p 311 [.agg [.aE (ds.map Dt.pv),.aE (bs.map Bd.pv)]]=some [.str s]:=by
 obtain ⟨f,hf⟩:=skolem fun b hb=>c337 (ho b hb)
 have hdl:=hD.len
 have l1:=vV (l:=ds) (g:=t7) fun d hd=>AY d (hD.all d hd)
 have l2:=vV (l:=bs) (g:=fun b=>I0 b (f b)) fun b hb=>OL (hf b hb)
 have m1:ds.length*1000≤8*1000:=Nat.mul_le_mul_right _ hdl
 have m2:bs.length*28000000020000≤4*28000000020000:=Nat.mul_le_mul_right _ h4
 have e1:=S9 (bs:=bs) hD.all (by omega) _ 0 rfl (by omega) [] (by simp only [List.drop_zero,List.length_nil];omega)
 have e2:=PA (ds:=ds) hf (by omega) _ 0 rfl (by omega) (ds.flatMap t7) (by simp only [List.drop_zero];omega)
 rw [List.drop_zero] at e1 e2
 refine ⟨ds.flatMap t7++bs.flatMap fun b=>I0 b (f b),by rw [List.length_append];omega,?_,?_⟩
 · clear hf
   generalize ds.flatMap t7=A at *
   generalize bs.flatMap (fun b=>I0 b (f b))=B at *
   rw [ah (af:=g312) rfl rfl (by decide)]
   rw [g312L0e] at e1
   rw [g312L4e] at e2
   simp [pB] at e1 e2
   simp [g312,g312L0e,e1]
   simp [g312L4e,e2]
 · rw [wE (f:=Ls 336 337) (af:=g311) rfl rfl]
   have k1:∀l:List Dt,(∀d∈l,d∈bU)→kD (aL AP).p 336 (l.map Dt.pv)=some (l.flatMap t7):=by
     intro l
     induction l with
     | nil=>intro _;rfl
     | cons d r ih=>
       intro hl
       have a:=ih fun x hx=>hl x (by simp [hx])
       have b:=c336 d (hl d (by simp))
       simp only [List.map_cons,kD,b,a,Option.map_some,List.flatMap_cons]
   have k2:∀l:List Bd,(∀b∈l,Tq b (f b))→kD (aL AP).p 337 (l.map Bd.pv)=some (l.flatMap fun b=>I0 b (f b)):=by
     intro l
     induction l with
     | nil=>intro _;rfl
     | cons d r ih=>
       intro hl
       have a:=ih fun x hx=>hl x (by simp [hx])
       have b:=(hl d (by simp)).k
       simp only [List.map_cons,kD,b,a,Option.map_some,List.flatMap_cons]
   have q1:(ds.map Dt.pv).all (fC 4)=true:=by simp [fC,eA]
   have q2:(bs.map Bd.pv).all (fC 20)=true:=by simp [fC,eA]
   simp only [Ls,vv]
   rw [if_pos ⟨q1,q2,by simp;omega,by simp;omega⟩,k1 ds hD.all,k2 bs hf]
   simp only
   rw [if_pos (by rw [List.length_append];omega)]
theorem c244:(aL AP).p 244 []=some [.bool true]:=Fc.NT (k:=400) (n:=40) (by kernel_rfl)
theorem QP (bits:Int) (L:List Int) (way:Int):(aL AP).p 299 [vI bits,.aE (L.map vI),vI way]=some [.bool true]:=by
 have c0:=c244
 have c1:=c15 (l:=L)
 rw [ah (af:=g299) rfl rfl (by decide)]
 by_cases hL:L.length≤60
 · simp [hL] at c1
   obtain ⟨ds,bs,hD,_,h4,ho,e1⟩:=c310 (L:=L) (by omega) bits way
   obtain ⟨s,_,k1,k2⟩:=c312 hD h4 ho
   try simp at e1 k1 k2
   simp [g299,c0,c1,e1,k1,k2]
 · simp [hL] at c1
   simp [g299,c0,c1]
end Go.Ab.Lw
